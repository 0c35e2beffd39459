/- Frames in own memory as rows; Find. -/
import Derived.Test.YtlmighkbeacjnaaG6
open Go Go.Lg
set_option linter.unusedSimpArgs false
set_option linter.unusedVariables false
set_option maxHeartbeats 4000000
set_option maxRecDepth 20000
namespace Go.Proofs.Ytlmighkbeacjnaa
theorem args_3i {c : Cf} {f : Fs} {p : Int} : ∀ x, x ∈ [AV.agg c.cells, .agg f.cells, .int .i64 p] → Pur x := args_3 (cf_pur c) (fsa_pur f) (.int _ _)
theorem pf33_ok (c : Cf) (f : Fs) (page : Int) (hl : f.l.length ≤ 1000000) (hd : ∀ x, x ∈ f.l → x.pins.length ≤ 1000000) (hok : okF c f = true) (a : Nat) (ha : fidx (isAt page) f.l 0 = a) : PF Try.prog 33 [.agg c.cells, .agg f.cells, .int .i64 page] (fun r => r = .tuple [.int .i64 a, .bool true]) := by
  have ev : eF c f = 0 := by simp [eF, hok]
  have h11 := pf11 c f hl hd
  have h58 := pf58 f page hl
  rw [ha] at h58
  refine pf_of_w0 Try.func33 (c := _) rfl rfl (Nat.le_of_ble_eq_true rfl) args_3i ?_
  rw [show Try.f33.ntmps = 20 from rfl]
  have g1 : ((a : Int) ≥ 0) = True := eq_true (by omega)
  have hmx : max (a : Int) 0 = a := by omega
  have tE := And.intro (@upd_upd AV) <| And.intro (@upd_upd (Option Blk)) <| And.intro Cf.cells.eq_1 <| And.intro Fs.cells.eq_1 <| And.intro ev <| And.intro g1 <| And.intro hmx <| And.intro ty3 <| And.intro ty4 <| And.intro ty5 <| And.intro ty23 <| And.intro ty24 <| And.intro ty26 <| And.intro ty29 <| And.intro ty34 <| And.intro ty35 <| And.intro ty37 <| Try.results33; repeat' first | ((with_reducible first | apply w_seq | apply w_region | apply wl_nil | apply wr_nil | apply wr_nilA | apply wr_nilE | apply go_normal | apply go_ret | apply go_exit | apply blk_normal | apply blk_ret | apply blk_here | apply w_block | apply w_skip | apply w_exit | apply w_label)) | ((with_reducible first | apply wz (tok Try.prog) | apply wr_z (tok Try.prog)); exact zZ; decide) | ((with_reducible first | apply wcall' | apply wr_call); exact zV; exact zVs; exact zAs; (focus (with_unfolding_all first | exact h11 | exact h58)); decide) | ((with_reducible first | apply wp | apply wr_p); (focus (first | ((with_reducible first | apply pure_max); exact zV; exact zV) | ((with_reducible first | apply pure_bs1 (tok Try.prog)); exact zT; exact zU; exact zT; exact zP; exact zR; exact zC; decide; decide; exact zU; exact zU))); decide) | ((with_reducible first | apply w_iff'); exact zV; exact zU) | ((with_reducible apply w_ret); (repeat (with_reducible first | apply go_ret | apply blk_ret)); (with_reducible apply done_ret (tok Try.prog)); exact zT; exact zD; exact zX) | fail
  all_goals try clear tE
  have hn : ¬ (0 > (a : Int)) := by omega
  simp only [tup, if_neg hn]
theorem pf33_bad (c : Cf) (f : Fs) (page : Int) (hl : f.l.length ≤ 1000000) (hd : ∀ x, x ∈ f.l → x.pins.length ≤ 1000000) (hok : okF c f = false) : PF Try.prog 33 [.agg c.cells, .agg f.cells, .int .i64 page] (fun r => r = .tuple [.int .i64 0, .bool false]) := by
  have ev : eF c f = 8 := by simp [eF, hok]
  have h11 := pf11 c f hl hd
  refine pf_of_w0 Try.func33 (c := _) rfl rfl (Nat.le_of_ble_eq_true rfl) args_3i ?_
  rw [show Try.f33.ntmps = 20 from rfl]
  have tE := And.intro (@upd_upd AV) <| And.intro (@upd_upd (Option Blk)) <| And.intro Cf.cells.eq_1 <| And.intro Fs.cells.eq_1 <| And.intro ev <| And.intro ty3 <| And.intro ty4 <| And.intro ty5 <| And.intro ty23 <| And.intro ty24 <| And.intro ty26 <| And.intro ty29 <| And.intro ty34 <| And.intro ty35 <| And.intro ty37 <| Try.results33; repeat' first | ((with_reducible first | apply w_seq | apply w_region | apply wl_nil | apply wr_nil | apply wr_nilA | apply wr_nilE | apply go_normal | apply go_ret | apply go_exit | apply blk_normal | apply blk_ret | apply blk_here | apply w_block | apply w_skip | apply w_exit | apply w_label)) | ((with_reducible first | apply wz (tok Try.prog) | apply wr_z (tok Try.prog)); exact zZ; decide) | ((with_reducible first | apply wcall' | apply wr_call); exact zV; exact zVs; exact zAs; (focus (with_unfolding_all first | exact h11)); decide) | ((with_reducible first | apply w_ift'); exact zV; exact zU) | ((with_reducible apply w_ret); (repeat (with_reducible first | apply go_ret | apply blk_ret)); (with_reducible apply done_ret (tok Try.prog)); exact zT; exact zD; exact zX) | fail
  all_goals try clear tE
  rfl
theorem args_7 {c : Cf} {f : Fs} {a p cl : Int} {data : List UInt8} : ∀ x, x ∈ [AV.agg c.cells, .agg f.cells, .int .i64 a, .int .i64 p, .int .i64 cl, .view (byteRows data)] → Pur x := by
  intro x hx
  simp only [List.mem_cons, List.not_mem_nil, or_false] at hx
  rcases hx with rfl | rfl | rfl | rfl | rfl | rfl
  · exact cf_pur c
  · exact fsa_pur f
  · exact .int _ _
  · exact .int _ _
  · exact .int _ _
  · exact byteRows_pur data
/-- Frames one behind another, as cells. -/
def fsRows (L : List Fs) : List (List AV) := L.map Fs.cells
theorem fsRows_row (L : List Fs) : ∀ r, r ∈ fsRows L → r.length = 2 := by
  intro r hr
  simp only [fsRows, List.mem_map] at hr
  obtain ⟨y, _, rfl⟩ := hr; rfl
theorem fsFlat_len (L : List Fs) : (fsRows L).flatten.length = L.length * 2 := by rw [flat_len (fsRows_row L)]; simp [fsRows]
theorem okF_small {c : Cf} {f : Fs} (h : okF c f = true) : f.l.length ≤ 1000000 ∧ ∀ x, x ∈ f.l → x.d.length ≤ 1000000 ∧ x.pins.length ≤ 1000000 := by
  obtain ⟨k1, k2, k3, k4, k5⟩ := okF_parts h
  have hok : c.ok = true := by simp only [Cf.good, Bool.and_eq_true] at k1; exact k1.1
  have hall : ∀ x, x ∈ c.spans → inB x = true := by simpa [Cf.ok] using hok
  simp only [Cf.spans, List.mem_cons, List.not_mem_nil, or_false, forall_eq_or_imp, forall_eq, inB] at hall
  simp at hall
  obtain ⟨o1, o2, o3⟩ := okL_iff.1 k5
  refine ⟨by omega, fun x hx => ?_⟩
  have hm := o1 x hx
  unfold mayF at hm
  simp only [Bool.and_eq_true, decide_eq_true_eq] at hm
  refine ⟨?_, by omega⟩
  have h2 := hm.2
  revert h2
  cases x.k == 0 <;> cases x.k == 1 <;> cases x.k == 2 <;> simp only [cond_true, cond_false, Bool.and_eq_true, decide_eq_true_eq, Bool.false_eq_true, false_implies] <;> intro h2 <;> omega
theorem oFlat_row {l : List Fr} {m : List (AV × AV)} {i : Nat} {v : Fr} {ab : AV × AV} (hu : l[i]? = some v) (hab : m[i]? = some ab) (u : Fr) : (((((((oRows l m).flatten.set (i * 6) (.int .u8 u.k)).set (i * 6 + 1) (.int .i64 u.p)).set (i * 6 + 2) (.view (byteRows u.d))).set (i * 6 + 3) (.view (intRows u.pins))).set (i * 6 + 4) (.bool u.rf)).set (i * 6 + 5) (.bool u.dt)) = (oRows (l.set i u) (m.set i (.view (byteRows u.d), .view (intRows u.pins)))).flatten := by
  have e0 := oFlat_wr (x := .int .u8 u.k) (u' := { v with k := u.k }) (ab' := ab) hu hab (j := 0) (by decide) rfl
  rw [Nat.add_zero] at e0
  have e1 := oFlat_wr (x := .int .i64 u.p) (u' := { v with k := u.k, p := u.p }) (ab' := ab) (set_at (y := { v with k := u.k }) hu) (set_at (y := ab) hab) (j := 1) (by decide) rfl
  rw [← e0, List.set_set, List.set_set] at e1
  have e2 := oFlat_wr (x := .view (byteRows u.d)) (u' := { v with k := u.k, p := u.p }) (ab' := (.view (byteRows u.d), ab.2)) (set_at (y := { v with k := u.k, p := u.p }) hu) (set_at (y := ab) hab) (j := 2) (by decide) rfl
  rw [← e1, List.set_set, List.set_set] at e2
  have e3 := oFlat_wr (x := .view (intRows u.pins)) (u' := { v with k := u.k, p := u.p }) (ab' := (.view (byteRows u.d), .view (intRows u.pins))) (set_at (y := { v with k := u.k, p := u.p }) hu) (set_at (y := (.view (byteRows u.d), ab.2)) hab) (j := 3) (by decide) rfl
  rw [← e2, List.set_set, List.set_set] at e3
  have e4 := oFlat_wr (x := .bool u.rf) (u' := { v with k := u.k, p := u.p, rf := u.rf }) (ab' := (.view (byteRows u.d), .view (intRows u.pins))) (set_at (y := { v with k := u.k, p := u.p }) hu) (set_at (y := (.view (byteRows u.d), .view (intRows u.pins))) hab) (j := 4) (by decide) rfl
  rw [← e3, List.set_set, List.set_set] at e4
  have e5 := oFlat_wr (x := .bool u.dt) (u' := u) (ab' := (.view (byteRows u.d), .view (intRows u.pins))) (set_at (y := { v with k := u.k, p := u.p, rf := u.rf }) hu) (set_at (y := (.view (byteRows u.d), .view (intRows u.pins))) hab) (j := 5) (by decide) rfl
  rw [← e4, List.set_set, List.set_set] at e5
  exact e5
theorem oRows_fz {H : Heap} : ∀ {l : List Fr} {m : List (AV × AV)}, m.length = l.length → (∀ (j : Nat) u ab, l[j]? = some u → m[j]? = some ab → Fz H ab.1 (.view (byteRows u.d)) ∧ Fz H ab.2 (.view (intRows u.pins))) → FzL H (oRows l m).flatten (frRows l).flatten
  | [], [], _, _ => .nil
  | [], _ :: _, h, _ => by simp at h
  | _ :: _, [], h, _ => by simp at h
  | u :: l, ab :: m, h, hm => .cons (.pur (.int _ _)) (.cons (.pur (.int _ _)) (.cons (hm 0 u ab rfl rfl).1 (.cons (hm 0 u ab rfl rfl).2 (.cons (.pur (.bool _)) (.cons (.pur (.bool _)) (oRows_fz (by simpa using h) (fun j u ab hu hab => hm (j + 1) u ab (by simpa using hu) (by simpa using hab))))))))
theorem fz_frRows {H : Heap} {b : Nat} {l : List Fr} {m : List (AV × AV)} (hH : H b = some (.cells (oRows l m).flatten 37)) (hl : m.length = l.length) (hm : ∀ (j : Nat) u ab, l[j]? = some u → m[j]? = some ab → Fz H ab.1 (.view (byteRows u.d)) ∧ Fz H ab.2 (.view (intRows u.pins))) : Fz H (.slice b 0 l.length none 6) (.view (frRows l)) := by
  have hf := oRows_fz hl hm
  have h1 := flat_len (frRows_row l)
  rw [frRows_len] at h1
  have := Fz.slice (off := 0) (len := l.length) (cap := none) (sz := 6) hH (by rw [oFlat_len hl]; omega) h1 (fun i x y hx hy => hf.get.2 i x y (by simpa using hx) hy)
  have h2 := chunk_flatten (frRows_row l)
  rw [frRows_len] at h2
  rwa [h2] at this
theorem okF_nil {c : Cf} {f : Fs} (h : f.l = []) : okF c f = false := by
  cases e : okF c f with
  | false => rfl
  | true =>
    obtain ⟨_, _, k3, k4, _⟩ := okF_parts e
    rw [h] at k4; simp at k4; omega
theorem cal15 : Callable Try.prog 15 := ⟨_, Try.func15, rfl, rfl⟩
end Go.Proofs.Ytlmighkbeacjnaa
