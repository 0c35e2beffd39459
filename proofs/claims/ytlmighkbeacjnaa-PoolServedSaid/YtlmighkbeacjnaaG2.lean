/- What turns one frame of frames in own memory. -/
import Derived.Test.YtlmighkbeacjnaaG1
open Go Go.Lg
set_option linter.unusedSimpArgs false
set_option linter.unusedVariables false
set_option maxHeartbeats 4000000
set_option maxRecDepth 20000
namespace Go.Proofs.Ytlmighkbeacjnaa
/-- A function turns a frame of frames in own memory, or tells an error and leaves all. -/
def DoS (g : FuncId) (w : AV) (cap : List AV) (l : List Fr) (at_ : Nat) (E : Int) (V : Fr) : Prop := ∀ (H : Heap) (n : Nat) (S : Nat → Prop) (b : Nat) (m : List (AV × AV)), FrO H S b l m → (∀ id, S id → id < n) → (∀ id, n ≤ id → H id = none) →
  AC Try.prog g ([.ptr b (at_ * 6), w] ++ cap) H n (fun r H' _ => r = .ret (.int .i64 E) ∧ ((E ≠ 0 ∧ H' = H) ∨ (E = 0 ∧ ∃ m', FrO H' (fun x => S x ∨ x = n) b (l.set at_ V) m' ∧ ∀ id, id < n → ¬ S id → H' id = H id)))
theorem do67 (w : Int) {l : List Fr} {at_ : Nat} {u : Fr} (hu : l[at_]? = some u) : DoS 67 (.int .i64 w) [] l at_ (if u.dt = true then 0 else 2) { u with dt := false } := by
  intro H n S b m hF hSn htop
  obtain ⟨ab, hab⟩ : ∃ ab, m[at_]? = some ab := ⟨m[at_]'(by rw [hF.len]; exact (List.getElem?_eq_some_iff.1 hu).1), List.getElem?_eq_getElem _⟩
  have hlt := (List.getElem?_eq_some_iff.1 hu).1
  have eb := hF.2.1
  have hSb := hF.1
  have hbn := hSn b hSb
  have hfl := oFlat_len hF.len
  have hof : ∀ X : Heap, (∀ id, id ≠ b → id < n → X id = H id) → ∀ id, id < n → ¬ S id → X id = H id := fun X hX id hid hs => hX id (fun e => hs (e ▸ hSb)) hid
  have w5 : ((oRows l m).flatten.drop (at_ * 6 + 5))[0]? = some (.bool u.dt) := drop_head (oFlat_at hu hab (j := 5) (by decide))
  have b5 : (at_ * 6 + 5 + 1 ≤ (oRows l m).flatten.length) = True := by rw [hfl]; simp; omega
  refine ac_of_w Try.func67 (c := _) rfl (Nat.le_of_ble_eq_true rfl) ?_
  rw [show Try.f67.ntmps = 13 from rfl]
  simp only [List.cons_append, List.nil_append]
  cases hdt : u.dt with
  | false =>
    rw [hdt] at w5
    have tE := And.intro (@upd_upd AV) <| And.intro (@upd_upd (Option Blk)) <| And.intro eb <| And.intro w5 <| And.intro b5 <| And.intro ty3 <| And.intro ty4 <| And.intro ty5 <| And.intro ty34 <| And.intro ty35 <| And.intro ty37 <| Try.results67; repeat' first | ((with_reducible first | apply w_seq | apply w_region | apply wl_nil | apply wr_nil | apply wr_nilA | apply wr_nilE | apply go_normal | apply go_ret | apply go_exit | apply blk_normal | apply blk_ret | apply blk_here | apply w_block | apply w_skip | apply w_exit | apply w_label)) | ((with_reducible first | apply wz (tok Try.prog) | apply wr_z (tok Try.prog)); exact zZ; decide) | ((with_reducible first | apply w_ift'); exact zV; exact zU) | ((with_reducible apply w_ret); (repeat (with_reducible first | apply go_ret | apply blk_ret)); (with_reducible first | apply donef_ret (tok Try.prog) | apply doneA_ret (tok Try.prog)); exact zT; exact zD) | fail
    all_goals try clear tE
    exact ⟨rfl, .inl ⟨by decide, rfl⟩⟩
  | true =>
    rw [hdt] at w5
    have tE := And.intro (@upd_upd AV) <| And.intro (@upd_upd (Option Blk)) <| And.intro eb <| And.intro w5 <| And.intro b5 <| And.intro ty3 <| And.intro ty4 <| And.intro ty5 <| And.intro ty34 <| And.intro ty35 <| And.intro ty37 <| Try.results67; repeat' first | ((with_reducible first | apply w_seq | apply w_region | apply wl_nil | apply wr_nil | apply wr_nilA | apply wr_nilE | apply go_normal | apply go_ret | apply go_exit | apply blk_normal | apply blk_ret | apply blk_here | apply w_block | apply w_skip | apply w_exit | apply w_label)) | ((with_reducible first | apply wz (tok Try.prog) | apply wr_z (tok Try.prog)); exact zZ; decide) | ((with_reducible first | apply w_store (tok Try.prog)); exact zV; exact zV; exact zS) | ((with_reducible first | apply w_iff'); exact zV; exact zU) | ((with_reducible apply w_ret); (repeat (with_reducible first | apply go_ret | apply blk_ret)); (with_reducible first | apply donef_ret (tok Try.prog) | apply doneA_ret (tok Try.prog)); exact zT; exact zD) | fail
    all_goals try clear tE
    refine ⟨rfl, .inr ⟨rfl, m.set at_ ab, ?_, hof _ (fun id hid _ => upd_ne _ _ hid)⟩⟩
    refine FrO.mono (S := S) (fun _ h => .inl h) ?_
    have h := fro_scalar (u' := { u with dt := false }) hF hu hab rfl rfl
    rw [← oFlat_wr (x := .bool false) hu hab (j := 5) (by decide) rfl] at h
    exact h
/-- Where bytes are put in a frame. -/
theorem fro_data {H : Heap} {S : Nat → Prop} {b n at_ : Nat} {l : List Fr} {m : List (AV × AV)} {u u' : Fr} {ab : AV × AV} {data : List UInt8} (hF : FrO H S b l m) (hbn : b < n) (htop : ∀ id, n ≤ id → H id = none) (hu : l[at_]? = some u) (hab : m[at_]? = some ab) (h1 : u'.d = data) (h2 : u'.pins = u.pins) :
    FrO (upd (clH H n 5 (byteRows data)) b (some (.cells (oRows (l.set at_ u') (m.set at_ (ownR n 1 (byteRows data), ab.2))).flatten 37))) (fun x => S x ∨ x = n) b (l.set at_ u') (m.set at_ (ownR n 1 (byteRows data), ab.2)) :=
  fro_new hF hbn htop (fun id hid => clH_old (by omega)) hu hab (.inl ⟨by rw [h1]; exact clH_own (fun _ => rfl) (byteRows_row _) (byteRows_flat _), rfl, h2⟩)
theorem do63 (c : Cf) (data : List UInt8) (hdl : data.length ≤ 1000000) {l : List Fr} {at_ : Nat} {u : Fr} (hu : l[at_]? = some u) : DoS 63 (.view (byteRows data)) [.vptr c.cells] l at_ (if u.k = 1 ∧ (data.length : Int) = c.z then 0 else 2) { u with k := 2, d := data } := by
  intro H n S b m hF hSn htop
  obtain ⟨ab, hab⟩ : ∃ ab, m[at_]? = some ab := ⟨m[at_]'(by rw [hF.len]; exact (List.getElem?_eq_some_iff.1 hu).1), List.getElem?_eq_getElem _⟩
  have hlt := (List.getElem?_eq_some_iff.1 hu).1
  have eb := hF.2.1
  have hSb := hF.1
  have hbn := hSn b hSb
  have hfl := oFlat_len hF.len
  have hof : ∀ X : Heap, (∀ id, id ≠ b → id < n → X id = H id) → ∀ id, id < n → ¬ S id → X id = H id := fun X hX id hid hs => hX id (fun e => hs (e ▸ hSb)) hid
  have w0 : ((oRows l m).flatten.drop (at_ * 6))[0]? = some (.int .u8 u.k) := drop_head (oFlat_at hu hab (j := 0) (by decide))
  have b0 : (at_ * 6 + 1 ≤ (oRows l m).flatten.length) = True := by rw [hfl]; simp; omega
  have w2 : ((oRows l m).flatten.drop (at_ * 6 + 2))[0]? = some (ab.1) := drop_head (oFlat_at hu hab (j := 2) (by decide))
  have b2 : (at_ * 6 + 2 + 1 ≤ (oRows l m).flatten.length) = True := by rw [hfl]; simp; omega
  have hcb := @clH_b
  have qb : (b == n) = false := by rw [beq_eq_false_iff_ne]; omega
  refine ac_of_w Try.func63 (c := _) rfl (Nat.le_of_ble_eq_true rfl) ?_
  rw [show Try.f63.ntmps = 26 from rfl]
  simp only [List.cons_append, List.nil_append]
  by_cases hk : u.k = 1
  · have k1 : (u.k != 1) = false := by simp [hk]
    by_cases hz : (data.length : Int) = c.z
    · have z1 : ((data.length : Int) != c.z) = false := by simp [hz]
      rw [if_pos ⟨hk, hz⟩]
      have tE := And.intro (@upd_upd AV) <| And.intro (@upd_upd (Option Blk)) <| And.intro eb <| And.intro w0 <| And.intro b0 <| And.intro w2 <| And.intro b2 <| And.intro hcb <| And.intro qb <| And.intro k1 <| And.intro z1 <| And.intro Cf.cells.eq_1 <| And.intro byteRows_len <| And.intro Nat.add_zero <| And.intro set_len <| And.intro ty3 <| And.intro ty4 <| And.intro ty5 <| And.intro ty23 <| And.intro ty34 <| And.intro ty35 <| And.intro ty37 <| Try.results63; repeat' first | ((with_reducible first | apply w_seq | apply w_region | apply wl_nil | apply wr_nil | apply wr_nilA | apply wr_nilE | apply go_normal | apply go_ret | apply go_exit | apply blk_normal | apply blk_ret | apply blk_here | apply w_block | apply w_skip | apply w_exit | apply w_label)) | ((with_reducible first | apply wz (tok Try.prog) | apply wr_z (tok Try.prog)); exact zZ; decide) | ((with_reducible first | apply wzg (tok Try.prog) | apply wr_zg (tok Try.prog)); exact zU; exact zL; exact zU; exact zZ; decide) | ((with_reducible first | apply w_store (tok Try.prog)); exact zV; exact zV; exact zS) | ((with_reducible first | apply w_store (tok Try.prog)); exact zV; exact zV; (focus ((with_reducible apply hv1); exact zC1; exact zC2; exact zT; exact zU; exact zH; exact zTd; exact zU))) | ((with_reducible first | apply wacall'); exact zV; exact zVs; exact zAs; (focus (first | exact ⟨_, Try.func64, rfl, rfl⟩)); (focus (with_unfolding_all first | exact ac64 data hdl _ _)); decide) | ((with_reducible first | apply w_iff'); exact zV; exact zU) | ((with_reducible apply w_ret); (repeat (with_reducible first | apply go_ret | apply blk_ret)); (with_reducible first | apply donef_ret (tok Try.prog) | apply doneA_ret (tok Try.prog)); exact zT; exact zD) | fail
      all_goals try clear tE
      refine ⟨rfl, .inr ⟨rfl, m.set at_ (ownR n 1 (byteRows data), ab.2), ?_, ?_⟩⟩
      · have h := fro_data (u' := { u with k := 2, d := data }) hF hbn htop hu hab rfl rfl
        have e1 := oFlat_wr (x := .int .u8 2) (u' := { u with k := 2 }) (ab' := ab) hu hab (j := 0) (by decide) rfl
        have e2 := oFlat_wr (x := ownR n 1 (byteRows data)) (u' := { u with k := 2, d := data }) (ab' := (ownR n 1 (byteRows data), ab.2)) (set_at (y := { u with k := 2 }) hu) (set_at (y := ab) hab) (j := 2) (by decide) rfl
        rw [← e1, List.set_set, List.set_set] at e2
        rw [← e2] at h
        simp only [upd_upd]
        exact h
      · refine hof _ (fun id hid hidn => ?_)
        rw [upd_ne _ _ hid]
        repeat rw [upd_ne _ _ hid]
        exact clH_old (by omega)
    · have z1 : ((data.length : Int) != c.z) = true := by simp [hz]
      rw [if_neg (fun h => hz h.2)]
      have tE := And.intro (@upd_upd AV) <| And.intro (@upd_upd (Option Blk)) <| And.intro eb <| And.intro w0 <| And.intro b0 <| And.intro w2 <| And.intro b2 <| And.intro hcb <| And.intro qb <| And.intro k1 <| And.intro z1 <| And.intro Cf.cells.eq_1 <| And.intro byteRows_len <| And.intro Nat.add_zero <| And.intro ty3 <| And.intro ty4 <| And.intro ty5 <| And.intro ty23 <| And.intro ty34 <| And.intro ty35 <| And.intro ty37 <| Try.results63; repeat' first | ((with_reducible first | apply w_seq | apply w_region | apply wl_nil | apply wr_nil | apply wr_nilA | apply wr_nilE | apply go_normal | apply go_ret | apply go_exit | apply blk_normal | apply blk_ret | apply blk_here | apply w_block | apply w_skip | apply w_exit | apply w_label)) | ((with_reducible first | apply wz (tok Try.prog) | apply wr_z (tok Try.prog)); exact zZ; decide) | ((with_reducible first | apply wzg (tok Try.prog) | apply wr_zg (tok Try.prog)); exact zU; exact zL; exact zU; exact zZ; decide) | ((with_reducible first | apply w_ift'); exact zV; exact zU) | ((with_reducible apply w_ret); (repeat (with_reducible first | apply go_ret | apply blk_ret)); (with_reducible first | apply donef_ret (tok Try.prog) | apply doneA_ret (tok Try.prog)); exact zT; exact zD) | fail
      all_goals try clear tE
      exact ⟨rfl, .inl ⟨by decide, rfl⟩⟩
  · have k1 : (u.k != 1) = true := by simp [hk]
    rw [if_neg (fun h => hk h.1)]
    have tE := And.intro (@upd_upd AV) <| And.intro (@upd_upd (Option Blk)) <| And.intro eb <| And.intro w0 <| And.intro b0 <| And.intro w2 <| And.intro b2 <| And.intro hcb <| And.intro qb <| And.intro k1 <| And.intro Cf.cells.eq_1 <| And.intro byteRows_len <| And.intro Nat.add_zero <| And.intro ty3 <| And.intro ty4 <| And.intro ty5 <| And.intro ty23 <| And.intro ty34 <| And.intro ty35 <| And.intro ty37 <| Try.results63; repeat' first | ((with_reducible first | apply w_seq | apply w_region | apply wl_nil | apply wr_nil | apply wr_nilA | apply wr_nilE | apply go_normal | apply go_ret | apply go_exit | apply blk_normal | apply blk_ret | apply blk_here | apply w_block | apply w_skip | apply w_exit | apply w_label)) | ((with_reducible first | apply wz (tok Try.prog) | apply wr_z (tok Try.prog)); exact zZ; decide) | ((with_reducible first | apply wskip' | apply wr_skip); exact zU; exact zL; exact zU; decide) | ((with_reducible first | apply w_ift'); exact zV; exact zU) | ((with_reducible apply w_ret); (repeat (with_reducible first | apply go_ret | apply blk_ret)); (with_reducible first | apply donef_ret (tok Try.prog) | apply doneA_ret (tok Try.prog)); exact zT; exact zD) | fail
    all_goals try clear tE
    exact ⟨rfl, .inl ⟨by decide, rfl⟩⟩
theorem do66 (c : Cf) (data : List UInt8) (hdl : data.length ≤ 1000000) {l : List Fr} {at_ : Nat} {u : Fr} (hu : l[at_]? = some u) : DoS 66 (.view (byteRows data)) [.vptr c.cells] l at_ (if u.k = 2 ∧ (data.length : Int) = c.z then 0 else 2) { u with d := data, rf := true, dt := true } := by
  intro H n S b m hF hSn htop
  obtain ⟨ab, hab⟩ : ∃ ab, m[at_]? = some ab := ⟨m[at_]'(by rw [hF.len]; exact (List.getElem?_eq_some_iff.1 hu).1), List.getElem?_eq_getElem _⟩
  have hlt := (List.getElem?_eq_some_iff.1 hu).1
  have eb := hF.2.1
  have hSb := hF.1
  have hbn := hSn b hSb
  have hfl := oFlat_len hF.len
  have hof : ∀ X : Heap, (∀ id, id ≠ b → id < n → X id = H id) → ∀ id, id < n → ¬ S id → X id = H id := fun X hX id hid hs => hX id (fun e => hs (e ▸ hSb)) hid
  have w0 : ((oRows l m).flatten.drop (at_ * 6))[0]? = some (.int .u8 u.k) := drop_head (oFlat_at hu hab (j := 0) (by decide))
  have b0 : (at_ * 6 + 1 ≤ (oRows l m).flatten.length) = True := by rw [hfl]; simp; omega
  have w2 : ((oRows l m).flatten.drop (at_ * 6 + 2))[0]? = some (ab.1) := drop_head (oFlat_at hu hab (j := 2) (by decide))
  have b2 : (at_ * 6 + 2 + 1 ≤ (oRows l m).flatten.length) = True := by rw [hfl]; simp; omega
  have w4 : ((oRows l m).flatten.drop (at_ * 6 + 4))[0]? = some (.bool u.rf) := drop_head (oFlat_at hu hab (j := 4) (by decide))
  have b4 : (at_ * 6 + 4 + 1 ≤ (oRows l m).flatten.length) = True := by rw [hfl]; simp; omega
  have w5 : ((oRows l m).flatten.drop (at_ * 6 + 5))[0]? = some (.bool u.dt) := drop_head (oFlat_at hu hab (j := 5) (by decide))
  have b5 : (at_ * 6 + 5 + 1 ≤ (oRows l m).flatten.length) = True := by rw [hfl]; simp; omega
  have hcb := @clH_b
  have qb : (b == n) = false := by rw [beq_eq_false_iff_ne]; omega
  refine ac_of_w Try.func66 (c := _) rfl (Nat.le_of_ble_eq_true rfl) ?_
  rw [show Try.f66.ntmps = 29 from rfl]
  simp only [List.cons_append, List.nil_append]
  by_cases hk : u.k = 2
  · have k1 : (u.k != 2) = false := by simp [hk]
    by_cases hz : (data.length : Int) = c.z
    · have z1 : ((data.length : Int) != c.z) = false := by simp [hz]
      rw [if_pos ⟨hk, hz⟩]
      have tE := And.intro (@upd_upd AV) <| And.intro (@upd_upd (Option Blk)) <| And.intro eb <| And.intro w0 <| And.intro b0 <| And.intro w2 <| And.intro b2 <| And.intro w4 <| And.intro b4 <| And.intro w5 <| And.intro b5 <| And.intro hcb <| And.intro qb <| And.intro k1 <| And.intro z1 <| And.intro Cf.cells.eq_1 <| And.intro byteRows_len <| And.intro Nat.add_zero <| And.intro set_len <| And.intro ty3 <| And.intro ty4 <| And.intro ty5 <| And.intro ty23 <| And.intro ty34 <| And.intro ty35 <| And.intro ty37 <| Try.results66; repeat' first | ((with_reducible first | apply w_seq | apply w_region | apply wl_nil | apply wr_nil | apply wr_nilA | apply wr_nilE | apply go_normal | apply go_ret | apply go_exit | apply blk_normal | apply blk_ret | apply blk_here | apply w_block | apply w_skip | apply w_exit | apply w_label)) | ((with_reducible first | apply wz (tok Try.prog) | apply wr_z (tok Try.prog)); exact zZ; decide) | ((with_reducible first | apply wzg (tok Try.prog) | apply wr_zg (tok Try.prog)); exact zU; exact zL; exact zU; exact zZ; decide) | ((with_reducible first | apply w_store (tok Try.prog)); exact zV; exact zV; exact zS) | ((with_reducible first | apply w_store (tok Try.prog)); exact zV; exact zV; (focus ((with_reducible apply hv1); exact zC1; exact zC2; exact zT; exact zU; exact zH; exact zTd; exact zU))) | ((with_reducible first | apply wacall'); exact zV; exact zVs; exact zAs; (focus (first | exact ⟨_, Try.func64, rfl, rfl⟩)); (focus (with_unfolding_all first | exact ac64 data hdl _ _)); decide) | ((with_reducible first | apply w_iff'); exact zV; exact zU) | ((with_reducible apply w_ret); (repeat (with_reducible first | apply go_ret | apply blk_ret)); (with_reducible first | apply donef_ret (tok Try.prog) | apply doneA_ret (tok Try.prog)); exact zT; exact zD) | fail
      all_goals try clear tE
      refine ⟨rfl, .inr ⟨rfl, m.set at_ (ownR n 1 (byteRows data), ab.2), ?_, ?_⟩⟩
      · have h := fro_data (u' := { u with d := data, rf := true, dt := true }) hF hbn htop hu hab rfl rfl
        have e1 := oFlat_wr (x := ownR n 1 (byteRows data)) (u' := { u with d := data }) (ab' := (ownR n 1 (byteRows data), ab.2)) hu hab (j := 2) (by decide) rfl
        have e2 := oFlat_wr (x := .bool true) (u' := { u with d := data, dt := true }) (ab' := (ownR n 1 (byteRows data), ab.2)) (set_at (y := { u with d := data }) hu) (set_at (y := (ownR n 1 (byteRows data), ab.2)) hab) (j := 5) (by decide) rfl
        have e3 := oFlat_wr (x := .bool true) (u' := { u with d := data, rf := true, dt := true }) (ab' := (ownR n 1 (byteRows data), ab.2)) (set_at (y := { u with d := data, dt := true }) hu) (set_at (y := (ownR n 1 (byteRows data), ab.2)) hab) (j := 4) (by decide) rfl
        rw [← e1, List.set_set, List.set_set] at e2
        rw [← e2, List.set_set, List.set_set] at e3
        rw [← e3] at h
        exact h
      · refine hof _ (fun id hid hidn => ?_)
        rw [upd_ne _ _ hid]
        repeat rw [upd_ne _ _ hid]
        exact clH_old (by omega)
    · have z1 : ((data.length : Int) != c.z) = true := by simp [hz]
      rw [if_neg (fun h => hz h.2)]
      have tE := And.intro (@upd_upd AV) <| And.intro (@upd_upd (Option Blk)) <| And.intro eb <| And.intro w0 <| And.intro b0 <| And.intro w2 <| And.intro b2 <| And.intro w4 <| And.intro b4 <| And.intro w5 <| And.intro b5 <| And.intro hcb <| And.intro qb <| And.intro k1 <| And.intro z1 <| And.intro Cf.cells.eq_1 <| And.intro byteRows_len <| And.intro Nat.add_zero <| And.intro ty3 <| And.intro ty4 <| And.intro ty5 <| And.intro ty23 <| And.intro ty34 <| And.intro ty35 <| And.intro ty37 <| Try.results66; repeat' first | ((with_reducible first | apply w_seq | apply w_region | apply wl_nil | apply wr_nil | apply wr_nilA | apply wr_nilE | apply go_normal | apply go_ret | apply go_exit | apply blk_normal | apply blk_ret | apply blk_here | apply w_block | apply w_skip | apply w_exit | apply w_label)) | ((with_reducible first | apply wz (tok Try.prog) | apply wr_z (tok Try.prog)); exact zZ; decide) | ((with_reducible first | apply wzg (tok Try.prog) | apply wr_zg (tok Try.prog)); exact zU; exact zL; exact zU; exact zZ; decide) | ((with_reducible first | apply w_ift'); exact zV; exact zU) | ((with_reducible apply w_ret); (repeat (with_reducible first | apply go_ret | apply blk_ret)); (with_reducible first | apply donef_ret (tok Try.prog) | apply doneA_ret (tok Try.prog)); exact zT; exact zD) | fail
      all_goals try clear tE
      exact ⟨rfl, .inl ⟨by decide, rfl⟩⟩
  · have k1 : (u.k != 2) = true := by simp [hk]
    rw [if_neg (fun h => hk h.1)]
    have tE := And.intro (@upd_upd AV) <| And.intro (@upd_upd (Option Blk)) <| And.intro eb <| And.intro w0 <| And.intro b0 <| And.intro w2 <| And.intro b2 <| And.intro w4 <| And.intro b4 <| And.intro w5 <| And.intro b5 <| And.intro hcb <| And.intro qb <| And.intro k1 <| And.intro Cf.cells.eq_1 <| And.intro byteRows_len <| And.intro Nat.add_zero <| And.intro ty3 <| And.intro ty4 <| And.intro ty5 <| And.intro ty23 <| And.intro ty34 <| And.intro ty35 <| And.intro ty37 <| Try.results66; repeat' first | ((with_reducible first | apply w_seq | apply w_region | apply wl_nil | apply wr_nil | apply wr_nilA | apply wr_nilE | apply go_normal | apply go_ret | apply go_exit | apply blk_normal | apply blk_ret | apply blk_here | apply w_block | apply w_skip | apply w_exit | apply w_label)) | ((with_reducible first | apply wz (tok Try.prog) | apply wr_z (tok Try.prog)); exact zZ; decide) | ((with_reducible first | apply wskip' | apply wr_skip); exact zU; exact zL; exact zU; decide) | ((with_reducible first | apply w_ift'); exact zV; exact zU) | ((with_reducible apply w_ret); (repeat (with_reducible first | apply go_ret | apply blk_ret)); (with_reducible first | apply donef_ret (tok Try.prog) | apply doneA_ret (tok Try.prog)); exact zT; exact zD) | fail
    all_goals try clear tE
    exact ⟨rfl, .inl ⟨by decide, rfl⟩⟩
/-- A client's pins. -/
def pinN (u : Fr) (cl : Int) : Int := u.pins.getD cl.toNat 0
def pinE (c : Cf) (u : Fr) (cl : Int) : Int := if cl < 0 ∨ cl ≥ c.cl ∨ u.k = 0 then 2 else if pinN u cl = 8 then 260 else 0
def pinV (u : Fr) (cl : Int) : Fr := { u with pins := u.pins.set cl.toNat (pinN u cl + 1), rf := true }
theorem upd_self {α : Type} {f : Nat → α} {i : Nat} {x : α} (h : f i = x) : upd f i x = f := by
  funext j
  by_cases e : j = i
  · subst e; rw [upd_same, h]
  · rw [upd_ne _ _ e]
theorem do81 (c : Cf) (cl : Int) {l : List Fr} {at_ : Nat} {u : Fr} (hu : l[at_]? = some u) (hpl : (u.pins.length : Int) = c.cl) (hpw : wildP u = false) (hpx : u.pins.length ≤ 1000000) : DoS 81 (.int .i64 cl) [.vptr c.cells] l at_ (pinE c u cl) (pinV u cl) := by
  intro H n S b m hF hSn htop
  obtain ⟨ab, hab⟩ : ∃ ab, m[at_]? = some ab := ⟨m[at_]'(by rw [hF.len]; exact (List.getElem?_eq_some_iff.1 hu).1), List.getElem?_eq_getElem _⟩
  have hlt := (List.getElem?_eq_some_iff.1 hu).1
  have eb := hF.2.1
  have hSb := hF.1
  have hbn := hSn b hSb
  have hfl := oFlat_len hF.len
  have hof : ∀ X : Heap, (∀ id, id ≠ b → id < n → X id = H id) → ∀ id, id < n → ¬ S id → X id = H id := fun X hX id hid hs => hX id (fun e => hs (e ▸ hSb)) hid
  have w0 : ((oRows l m).flatten.drop (at_ * 6))[0]? = some (.int .u8 u.k) := drop_head (oFlat_at hu hab (j := 0) (by decide))
  have b0 : (at_ * 6 + 1 ≤ (oRows l m).flatten.length) = True := by rw [hfl]; simp; omega
  have w3 : ((oRows l m).flatten.drop (at_ * 6 + 3))[0]? = some (ab.2) := drop_head (oFlat_at hu hab (j := 3) (by decide))
  have b3 : (at_ * 6 + 3 + 1 ≤ (oRows l m).flatten.length) = True := by rw [hfl]; simp; omega
  have w4 : ((oRows l m).flatten.drop (at_ * 6 + 4))[0]? = some (.bool u.rf) := drop_head (oFlat_at hu hab (j := 4) (by decide))
  have b4 : (at_ * 6 + 4 + 1 ≤ (oRows l m).flatten.length) = True := by rw [hfl]; simp; omega
  refine ac_of_w Try.func81 (c := _) rfl (Nat.le_of_ble_eq_true rfl) ?_
  rw [show Try.f81.ntmps = 43 from rfl]
  simp only [List.cons_append, List.nil_append]
  by_cases c0 : cl < 0
  · have c0' : (cl < 0) = True := eq_true c0
    rw [show pinE c u cl = 2 from if_pos (.inl c0)]
    have tE := And.intro (@upd_upd AV) <| And.intro (@upd_upd (Option Blk)) <| And.intro eb <| And.intro w0 <| And.intro b0 <| And.intro w3 <| And.intro b3 <| And.intro w4 <| And.intro b4 <| And.intro c0' <| And.intro Cf.cells.eq_1 <| And.intro Nat.add_zero <| And.intro ty3 <| And.intro ty4 <| And.intro ty5 <| And.intro ty23 <| And.intro ty34 <| And.intro ty35 <| And.intro ty37 <| Try.results81; repeat' first | ((with_reducible first | apply w_seq | apply w_region | apply wl_nil | apply wr_nil | apply wr_nilA | apply wr_nilE | apply go_normal | apply go_ret | apply go_exit | apply blk_normal | apply blk_ret | apply blk_here | apply w_block | apply w_skip | apply w_exit | apply w_label)) | ((with_reducible first | apply wz (tok Try.prog) | apply wr_z (tok Try.prog)); exact zZ; decide) | ((with_reducible first | apply wskip' | apply wr_skip); exact zU; exact zL; exact zU; decide) | ((with_reducible first | apply w_ift'); exact zV; exact zU) | ((with_reducible apply w_ret); (repeat (with_reducible first | apply go_ret | apply blk_ret)); (with_reducible first | apply donef_ret (tok Try.prog) | apply doneA_ret (tok Try.prog)); exact zT; exact zD) | fail
    all_goals try clear tE
    exact ⟨rfl, .inl ⟨by decide, rfl⟩⟩
  · have c0' : (cl < 0) = False := eq_false c0
    by_cases c1 : cl ≥ c.cl
    · have c1' : (cl ≥ c.cl) = True := eq_true c1
      rw [show pinE c u cl = 2 from if_pos (.inr (.inl c1))]
      have tE := And.intro (@upd_upd AV) <| And.intro (@upd_upd (Option Blk)) <| And.intro eb <| And.intro w0 <| And.intro b0 <| And.intro w3 <| And.intro b3 <| And.intro w4 <| And.intro b4 <| And.intro c0' <| And.intro c1' <| And.intro Cf.cells.eq_1 <| And.intro Nat.add_zero <| And.intro ty3 <| And.intro ty4 <| And.intro ty5 <| And.intro ty23 <| And.intro ty34 <| And.intro ty35 <| And.intro ty37 <| Try.results81; repeat' first | ((with_reducible first | apply w_seq | apply w_region | apply wl_nil | apply wr_nil | apply wr_nilA | apply wr_nilE | apply go_normal | apply go_ret | apply go_exit | apply blk_normal | apply blk_ret | apply blk_here | apply w_block | apply w_skip | apply w_exit | apply w_label)) | ((with_reducible first | apply wz (tok Try.prog) | apply wr_z (tok Try.prog)); exact zZ; decide) | ((with_reducible first | apply wzg (tok Try.prog) | apply wr_zg (tok Try.prog)); exact zU; exact zL; exact zU; exact zZ; decide) | ((with_reducible first | apply wskip' | apply wr_skip); exact zU; exact zL; exact zU; decide) | ((with_reducible first | apply w_ift'); exact zV; exact zU) | ((with_reducible apply w_ret); (repeat (with_reducible first | apply go_ret | apply blk_ret)); (with_reducible first | apply donef_ret (tok Try.prog) | apply doneA_ret (tok Try.prog)); exact zT; exact zD) | fail
      all_goals try clear tE
      exact ⟨rfl, .inl ⟨by decide, rfl⟩⟩
    · have c1' : (cl ≥ c.cl) = False := eq_false c1
      by_cases c2 : u.k = 0
      · have c2' : (u.k == 0) = true := by simpa using c2
        rw [show pinE c u cl = 2 from if_pos (.inr (.inr c2))]
        have tE := And.intro (@upd_upd AV) <| And.intro (@upd_upd (Option Blk)) <| And.intro eb <| And.intro w0 <| And.intro b0 <| And.intro w3 <| And.intro b3 <| And.intro w4 <| And.intro b4 <| And.intro c0' <| And.intro c1' <| And.intro c2' <| And.intro Cf.cells.eq_1 <| And.intro Nat.add_zero <| And.intro ty3 <| And.intro ty4 <| And.intro ty5 <| And.intro ty23 <| And.intro ty34 <| And.intro ty35 <| And.intro ty37 <| Try.results81; repeat' first | ((with_reducible first | apply w_seq | apply w_region | apply wl_nil | apply wr_nil | apply wr_nilA | apply wr_nilE | apply go_normal | apply go_ret | apply go_exit | apply blk_normal | apply blk_ret | apply blk_here | apply w_block | apply w_skip | apply w_exit | apply w_label)) | ((with_reducible first | apply wz (tok Try.prog) | apply wr_z (tok Try.prog)); exact zZ; decide) | ((with_reducible first | apply wzg (tok Try.prog) | apply wr_zg (tok Try.prog)); exact zU; exact zL; exact zU; exact zZ; decide) | ((with_reducible first | apply w_ift'); exact zV; exact zU) | ((with_reducible apply w_ret); (repeat (with_reducible first | apply go_ret | apply blk_ret)); (with_reducible first | apply donef_ret (tok Try.prog) | apply doneA_ret (tok Try.prog)); exact zT; exact zD) | fail
        all_goals try clear tE
        exact ⟨rfl, .inl ⟨by decide, rfl⟩⟩
      · have c2' : (u.k == 0) = false := by simpa using c2
        obtain ⟨k, rfl⟩ : ∃ k : Nat, cl = k := ⟨cl.toNat, by omega⟩
        have hk : k < u.pins.length := by omega
        obtain ⟨_, g, hg⟩ := hF.2.2
        obtain ⟨id, off, cap, cs, e, hx, ⟨⟨hid1, hid2⟩, hgid⟩, hH, hcs, hat⟩ := ints_own (by omega) (hg at_ u ab hu hab).2
        have hpk : u.pins[k]? = some u.pins[k] := List.getElem?_eq_getElem hk
        have hN : pinN u (k : Int) = u.pins[k] := by simp [pinN, hpk]
        generalize u.pins[k] = p at hpk hN
        have hpb : 0 ≤ p ∧ p ≤ 8 := by
          have := (List.any_eq_false.1 hpw) p (List.mem_of_getElem? hpk)
          simp at this; omega
        have hidn : id < n := by
          rcases Nat.lt_or_ge id n with h | h
          · exact h
          · rw [htop id h] at hH; cases hH
        rw [hx] at w3
        have wp : (cs.drop (off + k))[0]? = some (.int .i64 p) := drop_head (hat k p hpk)
        have bp : (off + k + 1 ≤ cs.length) = True := by simp; omega
        have k0 : (0 ≤ (k : Int)) = True := by simp
        have k1 : ((k : Int) < (u.pins.length : Int)) = True := by simp; omega
        have hw : IntKind.i64.wrap (p + 1) = p + 1 := wrap64 (by omega) (by omega)
        have qb : (b == id) = false := by rw [beq_eq_false_iff_ne]; omega
        have hE : pinE c u (k : Int) = if p = 8 then 260 else 0 := by rw [pinE, if_neg (by omega), hN]
        rw [hE]
        by_cases h8 : p = 8
        · have h8' : (p == 8) = true := by simpa using h8
          rw [if_pos h8]
          have tE := And.intro (@upd_upd AV) <| And.intro (@upd_upd (Option Blk)) <| And.intro eb <| And.intro w0 <| And.intro b0 <| And.intro w3 <| And.intro b3 <| And.intro w4 <| And.intro b4 <| And.intro c0' <| And.intro c1' <| And.intro c2' <| And.intro hH <| And.intro wp <| And.intro bp <| And.intro k0 <| And.intro k1 <| And.intro h8' <| And.intro Cf.cells.eq_1 <| And.intro Nat.add_zero <| And.intro Nat.mul_one <| And.intro ty3 <| And.intro ty4 <| And.intro ty5 <| And.intro ty23 <| And.intro ty34 <| And.intro ty35 <| And.intro ty37 <| Try.results81; repeat' first | ((with_reducible first | apply w_seq | apply w_region | apply wl_nil | apply wr_nil | apply wr_nilA | apply wr_nilE | apply go_normal | apply go_ret | apply go_exit | apply blk_normal | apply blk_ret | apply blk_here | apply w_block | apply w_skip | apply w_exit | apply w_label)) | ((with_reducible first | apply wz (tok Try.prog) | apply wr_z (tok Try.prog)); exact zZ; decide) | ((with_reducible first | apply wzg (tok Try.prog) | apply wr_zg (tok Try.prog)); exact zU; exact zL; exact zU; exact zZ; decide) | ((with_reducible first | apply w_ift'); exact zV; exact zU) | ((with_reducible first | apply w_iff'); exact zV; exact zU) | ((with_reducible apply w_ret); (repeat (with_reducible first | apply go_ret | apply blk_ret)); (with_reducible first | apply donef_ret (tok Try.prog) | apply doneA_ret (tok Try.prog)); exact zT; exact zD) | fail
          all_goals try clear tE
          exact ⟨rfl, .inl ⟨by decide, rfl⟩⟩
        · have h8' : (p == 8) = false := by simpa using h8
          rw [if_neg h8]
          have tE := And.intro (@upd_upd AV) <| And.intro (@upd_upd (Option Blk)) <| And.intro eb <| And.intro w0 <| And.intro b0 <| And.intro w3 <| And.intro b3 <| And.intro w4 <| And.intro b4 <| And.intro c0' <| And.intro c1' <| And.intro c2' <| And.intro hH <| And.intro wp <| And.intro bp <| And.intro k0 <| And.intro k1 <| And.intro h8' <| And.intro hw <| And.intro qb <| And.intro Cf.cells.eq_1 <| And.intro Nat.add_zero <| And.intro Nat.mul_one <| And.intro ty3 <| And.intro ty4 <| And.intro ty5 <| And.intro ty23 <| And.intro ty34 <| And.intro ty35 <| And.intro ty37 <| Try.results81; repeat' first | ((with_reducible first | apply w_seq | apply w_region | apply wl_nil | apply wr_nil | apply wr_nilA | apply wr_nilE | apply go_normal | apply go_ret | apply go_exit | apply blk_normal | apply blk_ret | apply blk_here | apply w_block | apply w_skip | apply w_exit | apply w_label)) | ((with_reducible first | apply wz (tok Try.prog) | apply wr_z (tok Try.prog)); exact zZ; decide) | ((with_reducible first | apply wzg (tok Try.prog) | apply wr_zg (tok Try.prog)); exact zU; exact zL; exact zU; exact zZ; decide) | ((with_reducible first | apply w_store (tok Try.prog)); exact zV; exact zV; exact zS) | ((with_reducible first | apply w_iff'); exact zV; exact zU) | ((with_reducible apply w_ret); (repeat (with_reducible first | apply go_ret | apply blk_ret)); (with_reducible first | apply donef_ret (tok Try.prog) | apply doneA_ret (tok Try.prog)); exact zT; exact zD) | fail
          all_goals try clear tE
          refine ⟨rfl, .inr ⟨rfl, m.set at_ ab, ?_, fun x hx hsx => ?_⟩⟩
          · refine FrO.mono (S := S) (fun _ h => .inl h) ?_
            have h := fro_pins (u' := pinV u (k : Int)) (v := p + 1) hF hu hab hk hx hH hcs hat ⟨g, hgid, hg⟩ ⟨hid1, hid2⟩ rfl (by simp only [pinV, hN]; rfl)
            rw [← oFlat_wr (x := .bool true) hu hab (j := 4) (by decide) rfl] at h
            exact h
          · show upd (upd H id _) b _ x = _
            rw [upd_ne _ _ (fun e => hsx (by rw [e]; exact hSb)), upd_ne _ _ (fun e => hsx (by rw [e]; exact hid1))]
def unpinE (c : Cf) (u : Fr) (cl : Int) : Int := if cl < 0 ∨ cl ≥ c.cl then 2 else if u.k ≠ 2 ∨ pinN u cl = 0 then 260 else 0
def unpinV (u : Fr) (cl : Int) : Fr := { u with pins := u.pins.set cl.toNat (pinN u cl - 1) }
theorem do82 (c : Cf) (cl : Int) {l : List Fr} {at_ : Nat} {u : Fr} (hu : l[at_]? = some u) (hpl : (u.pins.length : Int) = c.cl) (hpw : wildP u = false) (hpx : u.pins.length ≤ 1000000) : DoS 82 (.int .i64 cl) [.vptr c.cells] l at_ (unpinE c u cl) (unpinV u cl) := by
  intro H n S b m hF hSn htop
  obtain ⟨ab, hab⟩ : ∃ ab, m[at_]? = some ab := ⟨m[at_]'(by rw [hF.len]; exact (List.getElem?_eq_some_iff.1 hu).1), List.getElem?_eq_getElem _⟩
  have hlt := (List.getElem?_eq_some_iff.1 hu).1
  have eb := hF.2.1
  have hSb := hF.1
  have hbn := hSn b hSb
  have hfl := oFlat_len hF.len
  have hof : ∀ X : Heap, (∀ id, id ≠ b → id < n → X id = H id) → ∀ id, id < n → ¬ S id → X id = H id := fun X hX id hid hs => hX id (fun e => hs (e ▸ hSb)) hid
  have w0 : ((oRows l m).flatten.drop (at_ * 6))[0]? = some (.int .u8 u.k) := drop_head (oFlat_at hu hab (j := 0) (by decide))
  have b0 : (at_ * 6 + 1 ≤ (oRows l m).flatten.length) = True := by rw [hfl]; simp; omega
  have w3 : ((oRows l m).flatten.drop (at_ * 6 + 3))[0]? = some (ab.2) := drop_head (oFlat_at hu hab (j := 3) (by decide))
  have b3 : (at_ * 6 + 3 + 1 ≤ (oRows l m).flatten.length) = True := by rw [hfl]; simp; omega
  refine ac_of_w Try.func82 (c := _) rfl (Nat.le_of_ble_eq_true rfl) ?_
  rw [show Try.f82.ntmps = 40 from rfl]
  simp only [List.cons_append, List.nil_append]
  by_cases c0 : cl < 0
  · have c0' : (cl < 0) = True := eq_true c0
    rw [show unpinE c u cl = 2 from if_pos (.inl c0)]
    have tE := And.intro (@upd_upd AV) <| And.intro (@upd_upd (Option Blk)) <| And.intro eb <| And.intro w0 <| And.intro b0 <| And.intro w3 <| And.intro b3 <| And.intro c0' <| And.intro Cf.cells.eq_1 <| And.intro Nat.add_zero <| And.intro ty3 <| And.intro ty4 <| And.intro ty5 <| And.intro ty23 <| And.intro ty34 <| And.intro ty35 <| And.intro ty37 <| Try.results82; repeat' first | ((with_reducible first | apply w_seq | apply w_region | apply wl_nil | apply wr_nil | apply wr_nilA | apply wr_nilE | apply go_normal | apply go_ret | apply go_exit | apply blk_normal | apply blk_ret | apply blk_here | apply w_block | apply w_skip | apply w_exit | apply w_label)) | ((with_reducible first | apply wz (tok Try.prog) | apply wr_z (tok Try.prog)); exact zZ; decide) | ((with_reducible first | apply wskip' | apply wr_skip); exact zU; exact zL; exact zU; decide) | ((with_reducible first | apply w_ift'); exact zV; exact zU) | ((with_reducible apply w_ret); (repeat (with_reducible first | apply go_ret | apply blk_ret)); (with_reducible first | apply donef_ret (tok Try.prog) | apply doneA_ret (tok Try.prog)); exact zT; exact zD) | fail
    all_goals try clear tE
    exact ⟨rfl, .inl ⟨by decide, rfl⟩⟩
  · have c0' : (cl < 0) = False := eq_false c0
    by_cases c1 : cl ≥ c.cl
    · have c1' : (cl ≥ c.cl) = True := eq_true c1
      rw [show unpinE c u cl = 2 from if_pos (.inr c1)]
      have tE := And.intro (@upd_upd AV) <| And.intro (@upd_upd (Option Blk)) <| And.intro eb <| And.intro w0 <| And.intro b0 <| And.intro w3 <| And.intro b3 <| And.intro c0' <| And.intro c1' <| And.intro Cf.cells.eq_1 <| And.intro Nat.add_zero <| And.intro ty3 <| And.intro ty4 <| And.intro ty5 <| And.intro ty23 <| And.intro ty34 <| And.intro ty35 <| And.intro ty37 <| Try.results82; repeat' first | ((with_reducible first | apply w_seq | apply w_region | apply wl_nil | apply wr_nil | apply wr_nilA | apply wr_nilE | apply go_normal | apply go_ret | apply go_exit | apply blk_normal | apply blk_ret | apply blk_here | apply w_block | apply w_skip | apply w_exit | apply w_label)) | ((with_reducible first | apply wz (tok Try.prog) | apply wr_z (tok Try.prog)); exact zZ; decide) | ((with_reducible first | apply wzg (tok Try.prog) | apply wr_zg (tok Try.prog)); exact zU; exact zL; exact zU; exact zZ; decide) | ((with_reducible first | apply w_ift'); exact zV; exact zU) | ((with_reducible apply w_ret); (repeat (with_reducible first | apply go_ret | apply blk_ret)); (with_reducible first | apply donef_ret (tok Try.prog) | apply doneA_ret (tok Try.prog)); exact zT; exact zD) | fail
      all_goals try clear tE
      exact ⟨rfl, .inl ⟨by decide, rfl⟩⟩
    · have c1' : (cl ≥ c.cl) = False := eq_false c1
      have hEE : unpinE c u cl = if u.k ≠ 2 ∨ pinN u cl = 0 then 260 else 0 := by rw [unpinE, if_neg (by omega)]
      by_cases c2 : u.k = 2
      · have c2' : (u.k != 2) = false := by simp [c2]
        obtain ⟨k, rfl⟩ : ∃ k : Nat, cl = k := ⟨cl.toNat, by omega⟩
        have hk : k < u.pins.length := by omega
        obtain ⟨_, g, hg⟩ := hF.2.2
        obtain ⟨id, off, cap, cs, e, hx, ⟨⟨hid1, hid2⟩, hgid⟩, hH, hcs, hat⟩ := ints_own (by omega) (hg at_ u ab hu hab).2
        have hpk : u.pins[k]? = some u.pins[k] := List.getElem?_eq_getElem hk
        have hN : pinN u (k : Int) = u.pins[k] := by simp [pinN, hpk]
        generalize u.pins[k] = p at hpk hN
        have hpb : 0 ≤ p ∧ p ≤ 8 := by
          have := (List.any_eq_false.1 hpw) p (List.mem_of_getElem? hpk)
          simp at this; omega
        have hidn : id < n := by
          rcases Nat.lt_or_ge id n with h | h
          · exact h
          · rw [htop id h] at hH; cases hH
        rw [hx] at w3
        have wp : (cs.drop (off + k))[0]? = some (.int .i64 p) := drop_head (hat k p hpk)
        have bp : (off + k + 1 ≤ cs.length) = True := by simp; omega
        have k0 : (0 ≤ (k : Int)) = True := by simp
        have k1 : ((k : Int) < (u.pins.length : Int)) = True := by simp; omega
        have hw : IntKind.i64.wrap (p - 1) = p - 1 := wrap64 (by omega) (by omega)
        have qb : (b == id) = false := by rw [beq_eq_false_iff_ne]; omega
        rw [hEE, hN]
        by_cases h8 : p = 0
        · have h8' : (p == 0) = true := by simpa using h8
          rw [if_pos (.inr h8)]
          have tE := And.intro (@upd_upd AV) <| And.intro (@upd_upd (Option Blk)) <| And.intro eb <| And.intro w0 <| And.intro b0 <| And.intro w3 <| And.intro b3 <| And.intro c0' <| And.intro c1' <| And.intro c2' <| And.intro hH <| And.intro wp <| And.intro bp <| And.intro k0 <| And.intro k1 <| And.intro h8' <| And.intro Cf.cells.eq_1 <| And.intro Nat.add_zero <| And.intro Nat.mul_one <| And.intro ty3 <| And.intro ty4 <| And.intro ty5 <| And.intro ty23 <| And.intro ty34 <| And.intro ty35 <| And.intro ty37 <| Try.results82; repeat' first | ((with_reducible first | apply w_seq | apply w_region | apply wl_nil | apply wr_nil | apply wr_nilA | apply wr_nilE | apply go_normal | apply go_ret | apply go_exit | apply blk_normal | apply blk_ret | apply blk_here | apply w_block | apply w_skip | apply w_exit | apply w_label)) | ((with_reducible first | apply wz (tok Try.prog) | apply wr_z (tok Try.prog)); exact zZ; decide) | ((with_reducible first | apply wzg (tok Try.prog) | apply wr_zg (tok Try.prog)); exact zU; exact zL; exact zU; exact zZ; decide) | ((with_reducible first | apply w_ift'); exact zV; exact zU) | ((with_reducible first | apply w_iff'); exact zV; exact zU) | ((with_reducible apply w_ret); (repeat (with_reducible first | apply go_ret | apply blk_ret)); (with_reducible first | apply donef_ret (tok Try.prog) | apply doneA_ret (tok Try.prog)); exact zT; exact zD) | fail
          all_goals try clear tE
          exact ⟨rfl, .inl ⟨by decide, rfl⟩⟩
        · have h8' : (p == 0) = false := by simpa using h8
          rw [if_neg (by intro h; rcases h with h | h; exact h c2; exact h8 h)]
          have tE := And.intro (@upd_upd AV) <| And.intro (@upd_upd (Option Blk)) <| And.intro eb <| And.intro w0 <| And.intro b0 <| And.intro w3 <| And.intro b3 <| And.intro c0' <| And.intro c1' <| And.intro c2' <| And.intro hH <| And.intro wp <| And.intro bp <| And.intro k0 <| And.intro k1 <| And.intro h8' <| And.intro hw <| And.intro qb <| And.intro Cf.cells.eq_1 <| And.intro Nat.add_zero <| And.intro Nat.mul_one <| And.intro ty3 <| And.intro ty4 <| And.intro ty5 <| And.intro ty23 <| And.intro ty34 <| And.intro ty35 <| And.intro ty37 <| Try.results82; repeat' first | ((with_reducible first | apply w_seq | apply w_region | apply wl_nil | apply wr_nil | apply wr_nilA | apply wr_nilE | apply go_normal | apply go_ret | apply go_exit | apply blk_normal | apply blk_ret | apply blk_here | apply w_block | apply w_skip | apply w_exit | apply w_label)) | ((with_reducible first | apply wz (tok Try.prog) | apply wr_z (tok Try.prog)); exact zZ; decide) | ((with_reducible first | apply wzg (tok Try.prog) | apply wr_zg (tok Try.prog)); exact zU; exact zL; exact zU; exact zZ; decide) | ((with_reducible first | apply w_store (tok Try.prog)); exact zV; exact zV; exact zS) | ((with_reducible first | apply w_iff'); exact zV; exact zU) | ((with_reducible apply w_ret); (repeat (with_reducible first | apply go_ret | apply blk_ret)); (with_reducible first | apply donef_ret (tok Try.prog) | apply doneA_ret (tok Try.prog)); exact zT; exact zD) | fail
          all_goals try clear tE
          refine ⟨rfl, .inr ⟨rfl, m.set at_ ab, ?_, fun x hx hsx => ?_⟩⟩
          · refine FrO.mono (S := S) (fun _ h => .inl h) ?_
            have h := fro_pins (u' := unpinV u (k : Int)) (v := p - 1) hF hu hab hk hx hH hcs hat ⟨g, hgid, hg⟩ ⟨hid1, hid2⟩ rfl (by simp only [unpinV, hN]; rfl)
            have he : (oRows (l.set at_ (unpinV u (k : Int))) (m.set at_ ab)).flatten = (oRows l m).flatten := by
              rw [← oRows_set2 (unpinV u (k : Int)) ab hu hab, show oRow (unpinV u (k : Int)) ab = oRow u ab from rfl, set_id (oRows_at hu hab)]
            rw [he, upd_self (by rw [upd_ne _ _ (by omega)]; exact eb)] at h
            exact h
          · show upd H id _ x = _
            rw [upd_ne _ _ (fun e => hsx (by rw [e]; exact hid1))]
      · have c2' : (u.k != 2) = true := by simp [c2]
        rw [hEE, if_pos (.inl c2)]
        have tE := And.intro (@upd_upd AV) <| And.intro (@upd_upd (Option Blk)) <| And.intro eb <| And.intro w0 <| And.intro b0 <| And.intro w3 <| And.intro b3 <| And.intro c0' <| And.intro c1' <| And.intro c2' <| And.intro Cf.cells.eq_1 <| And.intro Nat.add_zero <| And.intro ty3 <| And.intro ty4 <| And.intro ty5 <| And.intro ty23 <| And.intro ty34 <| And.intro ty35 <| And.intro ty37 <| Try.results82; repeat' first | ((with_reducible first | apply w_seq | apply w_region | apply wl_nil | apply wr_nil | apply wr_nilA | apply wr_nilE | apply go_normal | apply go_ret | apply go_exit | apply blk_normal | apply blk_ret | apply blk_here | apply w_block | apply w_skip | apply w_exit | apply w_label)) | ((with_reducible first | apply wz (tok Try.prog) | apply wr_z (tok Try.prog)); exact zZ; decide) | ((with_reducible first | apply wzg (tok Try.prog) | apply wr_zg (tok Try.prog)); exact zU; exact zL; exact zU; exact zZ; decide) | ((with_reducible first | apply wskip' | apply wr_skip); exact zU; exact zL; exact zU; decide) | ((with_reducible first | apply w_ift'); exact zV; exact zU) | ((with_reducible first | apply w_iff'); exact zV; exact zU) | ((with_reducible apply w_ret); (repeat (with_reducible first | apply go_ret | apply blk_ret)); (with_reducible first | apply donef_ret (tok Try.prog) | apply doneA_ret (tok Try.prog)); exact zT; exact zD) | fail
        all_goals try clear tE
        exact ⟨rfl, .inl ⟨by decide, rfl⟩⟩
end Go.Proofs.Ytlmighkbeacjnaa
