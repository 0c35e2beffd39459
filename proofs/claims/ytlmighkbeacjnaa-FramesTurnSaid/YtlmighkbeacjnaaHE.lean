/- The reference's frames that are fetched, or have a pin more or less. -/
import Derived.Test.YtlmighkbeacjnaaHD
open Go Go.Lg
set_option linter.unusedSimpArgs false
set_option linter.unusedVariables false
set_option maxHeartbeats 4000000
set_option maxRecDepth 20000
namespace Go.Proofs.Ytlmighkbeacjnaa
theorem pf61 (c : Cf) (page : Int) (k n : Nat) (u : Fr) (hn : c.cl = (n : Int)) (hk : k < n) (hs : n ≤ 1000) : PF Try.prog 61 [.agg c.cells, .int .i64 page, .int .i64 (k : Int)] (fun r => r = .agg (loadV c page k u).cells) := by
  refine pf_of_wf0 Try.func61 (c := _) rfl rfl (Nat.le_of_ble_eq_true rfl) (args_3 (cf_pur c) (.int _ _) (.int _ _)) ?_
  rw [show Try.f61.ntmps = 19 from rfl]
  have c0 : (0 ≤ (k : Int)) = True := by simp
  have c1 : ((k : Int) < (n : Int)) = True := by simp; exact hk
  have hrl : (List.replicate n [AV.int .i64 (Int.ofNat 0)]).flatten.length = n := by simp
  have bz : (k + 1 ≤ (List.replicate n [AV.int .i64 (Int.ofNat 0)]).flatten.length) = True := by rw [hrl]; simp; omega
  have hV : loadV c page k u = ⟨1, page, [], (List.replicate n 0).set k 1, true, false⟩ := by simp [loadV, hn]
  have hown : ∀ (H : Heap) (id : Nat) (e : TypeId), H id = some (.cells ((List.replicate n [AV.int .i64 (Int.ofNat 0)]).flatten.set k (.int .i64 1)) e) → Own H (fun _ => True) (.slice id 0 n (some n) 1) (.view (intRows ((List.replicate n 0).set k 1))) := fun H id e hH => by
    have h := ints_mk (H := H) (S := fun _ => True) (id := id) (off := 0) (cap := some n) (ns := (List.replicate n 0).set k 1) trivial hH (by simp only [List.length_set, List.length_replicate, hrl]; omega) (fun i v hv => by
      rw [List.getElem?_set] at hv
      rw [Nat.zero_add, List.getElem?_set]
      by_cases e : k = i
      · rw [if_pos e, if_pos (by simp; omega)] at hv; cases hv
        rw [if_pos e, if_pos (by rw [hrl]; omega)]
      · rw [if_neg e] at hv
        rw [if_neg e]
        have hi : i < n := by have := (List.getElem?_eq_some_iff.1 hv).1; simpa using this
        rw [List.getElem?_replicate, if_pos hi] at hv; cases hv
        have := flat_at (sz := 1) (rows := List.replicate n [AV.int .i64 (Int.ofNat 0)]) (fun r hr => by rw [List.eq_of_mem_replicate hr]; rfl) (i := i) (j := 0) (r := [AV.int .i64 (Int.ofNat 0)]) (by rw [List.getElem?_replicate, if_pos hi]) (by decide)
        simpa using this)
    rw [List.length_set, List.length_replicate] at h
    exact h
  have tE := And.intro (@upd_upd AV) <| And.intro (@upd_upd (Option Blk)) <| And.intro Cf.cells.eq_1 <| And.intro hn <| And.intro c0 <| And.intro c1 <| And.intro bz <| And.intro Nat.mul_one <| And.intro ty3 <| And.intro ty4 <| And.intro ty5 <| And.intro ty23 <| And.intro ty34 <| And.intro ty35 <| And.intro ty37 <| And.intro Try.results61 <| Try.results92; repeat' first | ((with_reducible first | apply w_seq | apply w_region | apply wl_nil | apply wr_nil | apply wr_nilA | apply wr_nilE | apply go_normal | apply go_ret | apply go_exit | apply blk_normal | apply blk_ret | apply blk_here | apply w_block | apply w_skip | apply w_exit | apply w_label)) | ((with_reducible first | apply wz (tok Try.prog) | apply wr_z (tok Try.prog)); exact zZ; decide) | ((with_reducible first | apply w_alloc (tok Try.prog)); exact zT; decide) | ((with_reducible first | apply w_mks (tok Try.prog)); exact zV; exact zV; exact zT; exact zU; exact zT; exact zKo; exact zKo; exact zKo; (focus (first | exact zR | exact zU)); exact zU; decide) | ((with_reducible first | apply w_store (tok Try.prog)); exact zV; exact zV; exact zS) | ((with_reducible first | apply wl_inl); exact zV; exact zVs; exact zAs; (focus (first | exact Try.func92)); (focus (rfl)); (focus (rfl)); (focus (rfl)); (focus (exact Nat.le_of_ble_eq_true rfl)); decide) | ((with_reducible apply w_ret); (repeat (with_reducible first | apply go_ret | apply blk_ret)); (with_reducible apply inl_ret (tok Try.prog)); exact zT; exact zD) | ((with_reducible apply w_ret); (repeat (with_reducible first | apply go_ret | apply blk_ret)); (with_reducible first | apply donef_ret (tok Try.prog) | apply doneA_ret (tok Try.prog)); exact zT; exact zD) | fail
  all_goals try clear tE
  · refine (FzL.agg (xs := [.int .u8 1, .int .i64 page, .empty, .slice 2 0 n (some n) 1, .bool true, .bool false]) (ys := [.int .u8 1, .int .i64 page, .view (byteRows []), .view (intRows ((List.replicate n 0).set k 1)), .bool true, .bool false]) (.cons (.pur (.int _ _)) (.cons (.pur (.int _ _)) (.cons .nothing (.cons (hown _ 2 3 ?_).fz (.cons (.pur (.bool _)) (.cons (.pur (.bool _)) .nil)))))))
    rfl
  · exact fra_pur ⟨1, page, [], (List.replicate n 0).set k 1, true, false⟩
  · rw [hV]; rfl
theorem ac60_own (f : Fs) (a : Nat) (u : Fr) (x2 x3 : AV) (H : Heap) (n : Nat) (ha : a < f.l.length) (hl : f.l.length ≤ 1000000) (hd : ∀ x, x ∈ f.l → x.d.length ≤ 1000000 ∧ x.pins.length ≤ 1000000) (hud : u.d.length ≤ 1000000) (hup : u.pins.length ≤ 1000000)
    (h2 : Own H (1 ≤ ·) x2 (.view (byteRows u.d))) (h3 : Own H (1 ≤ ·) x3 (.view (intRows u.pins))) :
    AC Try.prog 60 [.agg f.cells, .int .i64 (a : Int), .agg [.int .u8 u.k, .int .i64 u.p, x2, x3, .bool u.rf, .bool u.dt]] H n (fun r H' n' => r = .ret (.agg (Fs.cells ⟨f.l.set a u, f.h⟩)) ∧ H' = (fun j => if j = 0 then H 0 else none) ∧ n' = n) := by
  have h60 := pf60 f a u ha hl hd hud hup
  refine ac_frz (ys := [.agg f.cells, .int .i64 (a : Int), .agg u.cells]) (HS := fun j => if j = 0 then none else H j) (HR := fun j => if j = 0 then H 0 else none) ((ac_pure h60 _ n).mono (by rintro r H' n' ⟨rfl, rfl, x, rfl, _, rfl⟩; exact ⟨rfl, rfl, rfl⟩)) ?_ ?_ ?_ rfl ?_
  · intro id b h
    split at h
    · cases h
    · exact h
  · intro id b h
    split at h
    · rename_i e; rw [e]; exact h
    · cases h
  · intro id h
    split at h
    · rename_i e; rw [if_pos e]
    · exact absurd rfl h
  · have mv : ∀ id b, 1 ≤ id → H id = some b → True ∧ (fun j => if j = 0 then none else H j) id = some b := fun id b hid hb => ⟨trivial, by simp only; rw [if_neg (by omega)]; exact hb⟩
    have h2' : Own (fun j => if j = 0 then none else H j) (fun _ => True) x2 (.view (byteRows u.d)) := h2.mv mv
    have h3' : Own (fun j => if j = 0 then none else H j) (fun _ => True) x3 (.view (intRows u.pins)) := h3.mv mv
    exact (FzL.cons (.pur (fsa_pur f)) (.cons (.pur (.int _ _)) (.cons (FzL.agg (.cons (.pur (.int _ _)) (.cons (.pur (.int _ _)) (.cons h2'.fz (.cons h3'.fz (.cons (.pur (.bool _)) (.cons (.pur (.bool _)) .nil))))))) .nil))).get.2
theorem bytes_mk {H : Heap} {S : Nat → Prop} {id off : Nat} {cap : Option Nat} {cs : List AV} {e : TypeId} {ns : List UInt8} (hS : S id) (hH : H id = some (.cells cs e)) (hl : off + ns.length ≤ cs.length) (h : ∀ (i : Nat) x, (byteRows ns).flatten[i]? = some x → cs[off + i]? = some x) : Own H S (.slice id off ns.length cap 1) (.view (byteRows ns)) := by
  have hfl : (byteRows ns).flatten.length = ns.length * 1 := by rw [flat_len (byteRows_row ns), byteRows_len]
  have := Own.slice (H := H) (S := S) (cap := cap) (off := off) (len := ns.length) (sz := 1) (ys := (byteRows ns).flatten) hS hH (by omega) hfl (fun i x y hx hy => ?_)
  · rw [← byteRows_len ns, chunk_flatten (byteRows_row ns), byteRows_len] at this
    exact this
  · rw [h i y hy] at hx
    rw [← Option.some.inj hx]
    exact (byteRows_flat ns y (List.mem_of_getElem? hy)).own
/-- A cell of another kind is written: bytes stay. -/
theorem bytes_keep {H : Heap} {S : Nat → Prop} {x w : AV} {ns : List UInt8} {id j : Nat} {cs : List AV} {e : TypeId} {v : Int} (h : Own H S x (.view (byteRows ns))) (hH : H id = some (.cells cs e)) (hj : cs[j]? = some (.int .i64 v)) : Own (upd H id (some (.cells (cs.set j w) e))) S x (.view (byteRows ns)) := by
  rcases Nat.eq_zero_or_pos ns.length with hz | h0
  · have : ns = [] := List.eq_nil_of_length_eq_zero hz
    subst this
    rcases Own.nil_inv h with rfl | ⟨id2, off, cap, sz, cs2, e2, rfl, hS, hH2, hl⟩
    · exact .nothing
    · by_cases ei : id2 = id
      · subst ei
        rw [hH] at hH2; cases hH2
        exact Own.slice (len := 0) (ys := []) hS (upd_same _ _ _) (by rw [List.length_set]; omega) (by simp) (fun i x y _ hy => by simp at hy)
      · exact Own.slice (len := 0) (ys := []) hS (by rw [upd_ne _ _ ei]; exact hH2) (by omega) (by simp) (fun i x y _ hy => by simp at hy)
  · obtain ⟨id2, off, cap, cs2, e2, rfl, hS, hH2, hl, hc⟩ := Own.view_inv (sz := 1) (byteRows_row ns) (by rw [byteRows_len]; exact h0) h
    rw [byteRows_len] at hl ⊢
    have hfl : (byteRows ns).flatten.length = ns.length * 1 := by rw [flat_len (byteRows_row ns), byteRows_len]
    have get : ∀ (i : Nat) x, (byteRows ns).flatten[i]? = some x → cs2[off + i]? = some x ∧ ∃ a, x = .int .u8 a := fun i x hx => by
      have hi := (List.getElem?_eq_some_iff.1 hx).1
      obtain ⟨r, h1, h2⟩ := List.mem_flatten.1 (List.mem_of_getElem? hx)
      simp only [byteRows, List.mem_map] at h1
      obtain ⟨z, _, rfl⟩ := h1
      rcases List.mem_singleton.1 h2 with rfl
      have hg : cs2[off + i]? = some (cs2[off + i]'(by omega)) := List.getElem?_eq_getElem _
      rw [(hc i _ _ hg hx).int_inv] at hg
      exact ⟨hg, _, rfl⟩
    by_cases ei : id2 = id
    · subst ei
      rw [hH] at hH2; cases hH2
      refine bytes_mk hS (upd_same _ _ _) (by rw [List.length_set]; omega) (fun i x hx => ?_)
      obtain ⟨hg, a, rfl⟩ := get i x hx
      rw [List.getElem?_set]
      by_cases ej : j = off + i
      · subst ej; rw [hj] at hg; cases hg
      · rw [if_neg ej]; exact hg
    · exact bytes_mk hS (by rw [upd_ne _ _ ei]; exact hH2) (by omega) (fun i x hx => (get i x hx).1)
/-- A frame whose client has so many pins more. -/
def addPin (u : Fr) (k : Nat) (d : Int) : Fr := { u with pins := u.pins.set k (u.pins.getD k 0 + d), rf := u.rf || decide (d > 0) }
theorem cal60 : Callable Try.prog 60 := ⟨_, Try.func60, rfl, rfl⟩
theorem pf93 (f : Fs) (a k : Nat) (u : Fr) (d : Int) (hu : f.l[a]? = some u) (hk : k < u.pins.length) (hl : f.l.length ≤ 1000000) (hd : ∀ x, x ∈ f.l → x.d.length ≤ 1000000 ∧ x.pins.length ≤ 1000000) (hw : IntKind.i64.wrap (u.pins.getD k 0 + d) = u.pins.getD k 0 + d) :
    PF Try.prog 93 [.agg f.cells, .int .i64 (a : Int), .int .i64 (k : Int), .int .i64 d] (fun r => r = .agg (Fs.cells ⟨f.l.set a (addPin u k d), f.h⟩)) := by
  have ha := (List.getElem?_eq_some_iff.1 hu).1
  have hdu := hd u (List.mem_of_getElem? hu)
  obtain ⟨ab, H0, n0, ho1, ho2, h51⟩ := ac51 u hdu.1 hdu.2
  refine pf_of_wf0 Try.func93 (c := _) rfl rfl (Nat.le_of_ble_eq_true rfl) (args_4 (fsa_pur f) (.int _ _) (.int _ _) (.int _ _)) ?_
  rw [show Try.f93.ntmps = 38 from rfl]
  have hr := fr_row hu
  have c0 : (0 ≤ (a : Int)) = True := by simp
  have c1 : ((a : Int) < (f.l.length : Int)) = True := by simp; omega
  have tE := And.intro (@upd_upd AV) <| And.intro (@upd_upd (Option Blk)) <| And.intro Fs.cells.eq_1 <| And.intro Fr.cells.eq_1 <| And.intro frRows_len <| And.intro hr <| And.intro c0 <| And.intro c1 <| And.intro ty3 <| And.intro ty4 <| And.intro ty5 <| And.intro ty24 <| And.intro ty26 <| And.intro ty34 <| And.intro ty35 <| And.intro ty37 <| Try.results93; repeat' first | ((with_reducible first | apply w_seq | apply w_region | apply wl_nil | apply wr_nil | apply wr_nilA | apply wr_nilE | apply go_normal | apply go_ret | apply go_exit | apply blk_normal | apply blk_ret | apply blk_here | apply w_block | apply w_skip | apply w_exit | apply w_label)) | ((with_reducible first | apply wz (tok Try.prog) | apply wr_z (tok Try.prog)); exact zZ; decide) | ((with_reducible first | apply w_alloc (tok Try.prog)); exact zT; decide) | fail
  all_goals try clear tE
  (have tE := And.intro (@upd_upd AV) <| And.intro (@upd_upd (Option Blk)) <| And.intro Fs.cells.eq_1 <| And.intro Fr.cells.eq_1 <| And.intro frRows_len <| And.intro hr <| And.intro c0 <| c1; (with_reducible apply wacall); exact zV; exact zVs; exact zAs; exact cal51; (focus (with_unfolding_all exact h51 _ _)); decide; clear tE)
  rintro r H' k0 ⟨rfl, hH', rfl⟩
  have hsa := ownAB_sh (n := 0 + 1) ho1
  have E0 : H' 0 = some (.cells [.empty, .int .i64 (Int.ofNat 0)] 26) := by rw [hH', or_old (by omega)]; rfl
  have htop : ∀ id, 0 + 1 + n0 ≤ id → H' id = none := fun id hid => by
    have h1 : shH (0 + 1) H0 id = none := by
      cases hh : shH (0 + 1) H0 id with
      | none => rfl
      | some b =>
        obtain ⟨_, cs, e, hh, _⟩ := shH_inv hh
        rw [ho2 _ (by omega)] at hh; cases hh
    rw [hH']
    simp only [Heap.or, h1]
    exact upd_ne _ _ (by omega)
  have hmv : ∀ id b, shS (0 + 1) (fun _ => True) id → shH (0 + 1) H0 id = some b → 1 ≤ id ∧ H' id = some b := fun id b h3 hb => ⟨by have := h3.1; omega, by rw [hH']; simp only [Heap.or, hb]⟩
  have o2 : Own H' (1 ≤ ·) (shP (0 + 1) ab).1 (.view (byteRows u.d)) := hsa.1.mv hmv
  have o3 : Own H' (1 ≤ ·) (shP (0 + 1) ab).2 (.view (intRows u.pins)) := hsa.2.mv hmv
  obtain ⟨k0, hk0⟩ : ∃ k, k = 0 + 1 + n0 := ⟨_, rfl⟩
  rw [← hk0] at htop ⊢
  have hk1 : 1 ≤ k0 := by omega
  generalize shP (0 + 1) ab = cd at o2 o3 ⊢
  clear hsa hmv hH' ho1 ho2 h51
  obtain ⟨x2, x3⟩ := cd
  simp only at o2 o3
  obtain ⟨id, off, cap, cs, e, hx3, hid, hcs, hlen, hat⟩ := ints_own (by omega) o3
  subst hx3
  have hidk : id < k0 := by
    rcases Nat.lt_or_ge id k0 with h | h
    · exact h
    · rw [htop id h] at hcs; cases hcs
  obtain ⟨v, hv⟩ : ∃ v, u.pins[k]? = some v := ⟨_, List.getElem?_eq_getElem hk⟩
  have hgd : u.pins.getD k 0 = v := by rw [List.getD_eq_getElem?_getD, hv]; rfl
  rw [hgd] at hw
  have hck := hat k v hv
  have w1 := drop_head hck
  have b1 : (off + k + 1 ≤ cs.length) = True := by simp; omega
  have k0c : (0 ≤ (k : Int)) = True := by simp
  have k1c : ((k : Int) < (u.pins.length : Int)) = True := by simp; exact hk
  have z2 := (own_scal o2).1
  simp only [scalA] at z2
  have q0 : ((0 : Nat) == k0) = false := by rw [beq_eq_false_iff_ne]; omega
  have q1 : ((0 : Nat) == id) = false := by rw [beq_eq_false_iff_ne]; omega
  have q2 : (id == k0) = false := by rw [beq_eq_false_iff_ne]; omega
  have q3 : (k0 == id) = false := by rw [beq_eq_false_iff_ne]; omega
  have fin : ∀ (rf : Bool) (H : Heap) (n : Nat), (∀ j, j ≠ k0 → H j = upd H' id (some (.cells (cs.set (off + k) (.int .i64 (v + d))) e)) j) → rf = (addPin u k d).rf → AC Try.prog 60 [.agg f.cells, .int .i64 (a : Int), .agg [.int .u8 u.k, .int .i64 u.p, x2, .slice id off u.pins.length cap 1, .bool rf, .bool u.dt]] H n (fun r H' n' => r = .ret (.agg (Fs.cells ⟨f.l.set a (addPin u k d), f.h⟩)) ∧ H' = (fun j => if j = 0 then H 0 else none) ∧ n' = n) := fun rf H n hH hrf => by
    rw [hrf]
    have hl2 : (u.pins.set k (v + d)).length = u.pins.length := List.length_set
    have mv : ∀ i b, 1 ≤ i → upd H' id (some (.cells (cs.set (off + k) (.int .i64 (v + d))) e)) i = some b → 1 ≤ i ∧ H i = some b := fun i b hi hb => by
      refine ⟨hi, ?_⟩
      have : i ≠ k0 := fun ei => by
        rw [ei, upd_ne _ _ (by omega), htop k0 (Nat.le_refl _)] at hb; cases hb
      rw [hH i this]; exact hb
    have p2 : Own H (1 ≤ ·) x2 (.view (byteRows u.d)) := (bytes_keep (w := .int .i64 (v + d)) o2 hcs hck).mv mv
    have p3 : Own H (1 ≤ ·) (.slice id off u.pins.length cap 1) (.view (intRows (u.pins.set k (v + d)))) := by
      rw [← hl2]
      refine (ints_mk (H := upd H' id (some (.cells (cs.set (off + k) (.int .i64 (v + d))) e))) hid (upd_same _ _ _) (by rw [hl2, List.length_set]; exact hlen) (fun i y hy => ?_)).mv mv
      rw [List.getElem?_set] at hy ⊢
      by_cases ec : k = i
      · subst ec
        rw [if_pos rfl, if_pos hk] at hy; cases hy
        rw [if_pos rfl, if_pos (by omega)]
      · rw [if_neg ec] at hy
        rw [if_neg (by omega)]
        exact hat i y hy
    have hu' : (addPin u k d).pins = u.pins.set k (v + d) := by simp only [addPin, hgd]
    have := ac60_own f a (addPin u k d) x2 (.slice id off u.pins.length cap 1) H n ha hl hd hdu.1 (by rw [hu', hl2]; exact hdu.2) p2 (by rw [hu']; exact p3)
    exact this
  have hHH : ∀ (A B : Option Blk) (Z : List AV), ∀ j, j ≠ k0 → upd (upd (upd H' k0 A) id (some (.cells Z e))) k0 B j = upd H' id (some (.cells Z e)) j := fun A B Z j hj => by
    rw [upd_ne _ _ hj]
    by_cases ei : j = id
    · subst ei; rw [upd_same, upd_same]
    · rw [upd_ne _ _ ei, upd_ne _ _ hj, upd_ne _ _ ei]
  cases hrf : u.rf with
  | true =>
    have tE := And.intro (@upd_upd AV) <| And.intro (@upd_upd (Option Blk)) <| And.intro Fs.cells.eq_1 <| And.intro Fr.cells.eq_1 <| And.intro oRow.eq_1 <| And.intro frRows_len <| And.intro hr <| And.intro c0 <| And.intro c1 <| And.intro E0 <| And.intro hcs <| And.intro w1 <| And.intro b1 <| And.intro k0c <| And.intro k1c <| And.intro z2 <| And.intro hrf <| And.intro hw <| And.intro q0 <| And.intro q1 <| And.intro q2 <| And.intro q3 <| And.intro Nat.mul_one <| And.intro ty3 <| And.intro ty4 <| And.intro ty5 <| And.intro ty24 <| And.intro ty26 <| And.intro ty34 <| And.intro ty35 <| And.intro ty37 <| Try.results93; repeat' first | ((with_reducible first | apply w_seq | apply w_region | apply wl_nil | apply wr_nil | apply wr_nilA | apply wr_nilE | apply go_normal | apply go_ret | apply go_exit | apply blk_normal | apply blk_ret | apply blk_here | apply w_block | apply w_skip | apply w_exit | apply w_label)) | ((with_reducible apply w_live (lvAt [[0, 1, 2, 3], [1, 2, 3, 4, 8], [1, 2, 3, 4, 8, 9], [1, 3, 4, 8, 9], [1, 4, 8, 9]])); (focus (simp only [lvAt_zero, lvAt_succ]; rfl)); exact zLv) | ((with_reducible first | apply wz (tok Try.prog) | apply wr_z (tok Try.prog)); exact zZ; decide) | ((with_reducible first | apply wskip' | apply wr_skip); exact zU; exact zL; exact zU; decide) | ((with_reducible first | apply w_alloc (tok Try.prog)); exact zT; decide) | ((with_reducible first | apply w_store (tok Try.prog)); exact zV; exact zV; exact zS) | ((with_reducible first | apply fm_nil | apply fm_cons)) | ((with_reducible apply m_next); exact zU) | ((with_reducible apply m_nil0); exact zU) | ((with_reducible first | apply m_v (tok Try.prog)); exact zU; exact zZ; decide) | ((with_reducible first | apply m_xA (tok Try.prog)); exact zU; exact zI; decide) | ((with_reducible first | apply m_x (tok Try.prog)); exact zU; (focus (decide +kernel)); exact zZ; decide) | ((with_reducible first | apply m_chg0); exact zU; (focus ((with_reducible apply c_store (tok Try.prog)); exact zV; exact zV; exact zS))) | ((with_reducible apply w_drawN (id := 2) [11] [([11], [0, 1, 2, 3, 4, 5, 6, 7, 8, 9, 10, 11])] mixed); (focus (decide +kernel))) | fail
    all_goals try clear tE
    (have tE := And.intro (@upd_upd AV) <| And.intro (@upd_upd (Option Blk)) <| And.intro Fs.cells.eq_1 <| q0; (with_reducible apply wacall); exact zV; exact zVs; exact zAs; exact cal60; (focus (with_unfolding_all exact fin true _ _ (hHH _ _ _) (by simp [addPin, hrf]))); decide; clear tE)
    rintro r H6 n6 ⟨rfl, hH6, rfl⟩
    have F0 : H6 0 = some (.cells [.empty, .int .i64 (Int.ofNat 0)] 26) := by
      rw [hH6]
      show upd (upd (upd H' k0 _) id _) k0 _ 0 = _
      rw [upd_ne _ _ (by omega), upd_ne _ _ (by omega), upd_ne _ _ (by omega)]; exact E0
    have tE := And.intro (@upd_upd AV) <| And.intro (@upd_upd (Option Blk)) <| And.intro Fs.cells.eq_1 <| And.intro F0 <| And.intro ty3 <| And.intro ty4 <| And.intro ty5 <| And.intro ty24 <| And.intro ty26 <| And.intro ty34 <| And.intro ty35 <| And.intro ty37 <| Try.results93; repeat' first | ((with_reducible first | apply w_seq | apply w_region | apply wl_nil | apply wr_nil | apply wr_nilA | apply wr_nilE | apply go_normal | apply go_ret | apply go_exit | apply blk_normal | apply blk_ret | apply blk_here | apply w_block | apply w_skip | apply w_exit | apply w_label)) | ((with_reducible first | apply w_store (tok Try.prog)); exact zV; exact zV; exact zS) | ((with_reducible apply w_ret); (repeat (with_reducible first | apply go_ret | apply blk_ret)); (with_reducible first | apply donef_ret (tok Try.prog) | apply doneA_ret (tok Try.prog)); exact zT; exact zD) | fail
    all_goals try clear tE
    · exact .pur (fsa_pur ⟨f.l.set a (addPin u k d), f.h⟩)
    · exact fsa_pur _
    · rfl
  | false =>
    by_cases hdp : d > 0
    · have gd : (d > 0) = True := eq_true hdp
      have tE := And.intro (@upd_upd AV) <| And.intro (@upd_upd (Option Blk)) <| And.intro Fs.cells.eq_1 <| And.intro Fr.cells.eq_1 <| And.intro oRow.eq_1 <| And.intro frRows_len <| And.intro hr <| And.intro c0 <| And.intro c1 <| And.intro E0 <| And.intro hcs <| And.intro w1 <| And.intro b1 <| And.intro k0c <| And.intro k1c <| And.intro z2 <| And.intro hrf <| And.intro hw <| And.intro q0 <| And.intro q1 <| And.intro q2 <| And.intro q3 <| And.intro Nat.mul_one <| And.intro gd <| And.intro ty3 <| And.intro ty4 <| And.intro ty5 <| And.intro ty24 <| And.intro ty26 <| And.intro ty34 <| And.intro ty35 <| And.intro ty37 <| Try.results93; repeat' first | ((with_reducible first | apply w_seq | apply w_region | apply wl_nil | apply wr_nil | apply wr_nilA | apply wr_nilE | apply go_normal | apply go_ret | apply go_exit | apply blk_normal | apply blk_ret | apply blk_here | apply w_block | apply w_skip | apply w_exit | apply w_label)) | ((with_reducible apply w_live (lvAt [[0, 1, 2, 3], [1, 2, 3, 4, 8], [1, 2, 3, 4, 8, 9], [1, 3, 4, 8, 9], [1, 4, 8, 9]])); (focus (simp only [lvAt_zero, lvAt_succ]; rfl)); exact zLv) | ((with_reducible first | apply wz (tok Try.prog) | apply wr_z (tok Try.prog)); exact zZ; decide) | ((with_reducible first | apply wzg (tok Try.prog) | apply wr_zg (tok Try.prog)); exact zU; exact zL; exact zU; exact zZ; decide) | ((with_reducible first | apply w_alloc (tok Try.prog)); exact zT; decide) | ((with_reducible first | apply w_store (tok Try.prog)); exact zV; exact zV; exact zS) | ((with_reducible first | apply fm_nil | apply fm_cons)) | ((with_reducible apply m_next); exact zU) | ((with_reducible apply m_nil0); exact zU) | ((with_reducible first | apply m_v (tok Try.prog)); exact zU; exact zZ; decide) | ((with_reducible first | apply m_xA (tok Try.prog)); exact zU; exact zI; decide) | ((with_reducible first | apply m_x (tok Try.prog)); exact zU; (focus (decide +kernel)); exact zZ; decide) | ((with_reducible first | apply m_chg0); exact zU; (focus ((with_reducible apply c_store (tok Try.prog)); exact zV; exact zV; exact zS))) | ((with_reducible apply w_drawN (id := 2) [11] [([11], [0, 1, 2, 3, 4, 5, 6, 7, 8, 9, 10, 11])] mixed); (focus (decide +kernel))) | fail
      all_goals try clear tE
      (have tE := And.intro (@upd_upd AV) <| And.intro (@upd_upd (Option Blk)) <| And.intro Fs.cells.eq_1 <| q0; (with_reducible apply wacall); exact zV; exact zVs; exact zAs; exact cal60; (focus (with_unfolding_all exact fin true _ _ (hHH _ _ _) (by simp [addPin, hrf, hdp]))); decide; clear tE)
      rintro r H6 n6 ⟨rfl, hH6, rfl⟩
      have F0 : H6 0 = some (.cells [.empty, .int .i64 (Int.ofNat 0)] 26) := by
        rw [hH6]
        show upd (upd (upd H' k0 _) id _) k0 _ 0 = _
        rw [upd_ne _ _ (by omega), upd_ne _ _ (by omega), upd_ne _ _ (by omega)]; exact E0
      have tE := And.intro (@upd_upd AV) <| And.intro (@upd_upd (Option Blk)) <| And.intro Fs.cells.eq_1 <| And.intro F0 <| And.intro ty3 <| And.intro ty4 <| And.intro ty5 <| And.intro ty24 <| And.intro ty26 <| And.intro ty34 <| And.intro ty35 <| And.intro ty37 <| Try.results93; repeat' first | ((with_reducible first | apply w_seq | apply w_region | apply wl_nil | apply wr_nil | apply wr_nilA | apply wr_nilE | apply go_normal | apply go_ret | apply go_exit | apply blk_normal | apply blk_ret | apply blk_here | apply w_block | apply w_skip | apply w_exit | apply w_label)) | ((with_reducible first | apply w_store (tok Try.prog)); exact zV; exact zV; exact zS) | ((with_reducible apply w_ret); (repeat (with_reducible first | apply go_ret | apply blk_ret)); (with_reducible first | apply donef_ret (tok Try.prog) | apply doneA_ret (tok Try.prog)); exact zT; exact zD) | fail
      all_goals try clear tE
      · exact .pur (fsa_pur ⟨f.l.set a (addPin u k d), f.h⟩)
      · exact fsa_pur _
      · rfl
    · have gd : (d > 0) = False := eq_false hdp
      have tE := And.intro (@upd_upd AV) <| And.intro (@upd_upd (Option Blk)) <| And.intro Fs.cells.eq_1 <| And.intro Fr.cells.eq_1 <| And.intro oRow.eq_1 <| And.intro frRows_len <| And.intro hr <| And.intro c0 <| And.intro c1 <| And.intro E0 <| And.intro hcs <| And.intro w1 <| And.intro b1 <| And.intro k0c <| And.intro k1c <| And.intro z2 <| And.intro hrf <| And.intro hw <| And.intro q0 <| And.intro q1 <| And.intro q2 <| And.intro q3 <| And.intro Nat.mul_one <| And.intro gd <| And.intro ty3 <| And.intro ty4 <| And.intro ty5 <| And.intro ty24 <| And.intro ty26 <| And.intro ty34 <| And.intro ty35 <| And.intro ty37 <| Try.results93; repeat' first | ((with_reducible first | apply w_seq | apply w_region | apply wl_nil | apply wr_nil | apply wr_nilA | apply wr_nilE | apply go_normal | apply go_ret | apply go_exit | apply blk_normal | apply blk_ret | apply blk_here | apply w_block | apply w_skip | apply w_exit | apply w_label)) | ((with_reducible apply w_live (lvAt [[0, 1, 2, 3], [1, 2, 3, 4, 8], [1, 2, 3, 4, 8, 9], [1, 3, 4, 8, 9], [1, 4, 8, 9]])); (focus (simp only [lvAt_zero, lvAt_succ]; rfl)); exact zLv) | ((with_reducible first | apply wz (tok Try.prog) | apply wr_z (tok Try.prog)); exact zZ; decide) | ((with_reducible first | apply wzg (tok Try.prog) | apply wr_zg (tok Try.prog)); exact zU; exact zL; exact zU; exact zZ; decide) | ((with_reducible first | apply w_alloc (tok Try.prog)); exact zT; decide) | ((with_reducible first | apply w_store (tok Try.prog)); exact zV; exact zV; exact zS) | ((with_reducible first | apply fm_nil | apply fm_cons)) | ((with_reducible apply m_next); exact zU) | ((with_reducible apply m_nil0); exact zU) | ((with_reducible first | apply m_v (tok Try.prog)); exact zU; exact zZ; decide) | ((with_reducible first | apply m_xA (tok Try.prog)); exact zU; exact zI; decide) | ((with_reducible first | apply m_x (tok Try.prog)); exact zU; (focus (decide +kernel)); exact zZ; decide) | ((with_reducible first | apply m_chg0); exact zU; (focus ((with_reducible apply c_store (tok Try.prog)); exact zV; exact zV; exact zS))) | ((with_reducible apply w_drawN (id := 2) [11] [([11], [0, 1, 2, 3, 4, 5, 6, 7, 8, 9, 10, 11])] mixed); (focus (decide +kernel))) | fail
      all_goals try clear tE
      (have tE := And.intro (@upd_upd AV) <| And.intro (@upd_upd (Option Blk)) <| And.intro Fs.cells.eq_1 <| q0; (with_reducible apply wacall); exact zV; exact zVs; exact zAs; exact cal60; (focus (with_unfolding_all exact fin false _ _ (hHH _ _ _) (by simp [addPin, hrf, hdp]))); decide; clear tE)
      rintro r H6 n6 ⟨rfl, hH6, rfl⟩
      have F0 : H6 0 = some (.cells [.empty, .int .i64 (Int.ofNat 0)] 26) := by
        rw [hH6]
        show upd (upd (upd H' k0 _) id _) k0 _ 0 = _
        rw [upd_ne _ _ (by omega), upd_ne _ _ (by omega), upd_ne _ _ (by omega)]; exact E0
      have tE := And.intro (@upd_upd AV) <| And.intro (@upd_upd (Option Blk)) <| And.intro Fs.cells.eq_1 <| And.intro F0 <| And.intro ty3 <| And.intro ty4 <| And.intro ty5 <| And.intro ty24 <| And.intro ty26 <| And.intro ty34 <| And.intro ty35 <| And.intro ty37 <| Try.results93; repeat' first | ((with_reducible first | apply w_seq | apply w_region | apply wl_nil | apply wr_nil | apply wr_nilA | apply wr_nilE | apply go_normal | apply go_ret | apply go_exit | apply blk_normal | apply blk_ret | apply blk_here | apply w_block | apply w_skip | apply w_exit | apply w_label)) | ((with_reducible first | apply w_store (tok Try.prog)); exact zV; exact zV; exact zS) | ((with_reducible apply w_ret); (repeat (with_reducible first | apply go_ret | apply blk_ret)); (with_reducible first | apply donef_ret (tok Try.prog) | apply doneA_ret (tok Try.prog)); exact zT; exact zD) | fail
      all_goals try clear tE
      · exact .pur (fsa_pur ⟨f.l.set a (addPin u k d), f.h⟩)
      · exact fsa_pur _
      · rfl
end Go.Proofs.Ytlmighkbeacjnaa
