/- Own units: copies, told exactly. -/
import Derived.Test.YtclldbeefbbdlaaLm6
import Derived.Test.YtclldbeefbbdlaaE7
open Go Go.Lg
set_option linter.unusedSimpArgs false
set_option linter.unusedVariables false
set_option maxHeartbeats 4000000
set_option maxRecDepth 20000
namespace Go.Proofs.Ytclldbeefbbdlaa
theorem args_1 {a : AV} (ha : Pur a) : ∀ x, x ∈ [a] → Pur x := fun x hx => by rcases List.mem_singleton.1 hx with rfl; exact ha
/-- Memory behind a copy. -/
def clH (H : Heap) (n : Nat) (e : TypeId) (rows : List (List AV)) : Heap := match rows with
  | [] => H
  | r :: rs => upd H n (some (.cells (r :: rs).flatten e))
def clN (n : Nat) (rows : List (List AV)) : Nat := match rows with
  | [] => n
  | _ :: _ => n + 1
theorem clN_le (n : Nat) (rows : List (List AV)) : n ≤ clN n rows := by cases rows <;> simp [clN]
theorem clH_old {H : Heap} {n : Nat} {e : TypeId} {rows : List (List AV)} {id : Nat} (h : id ≠ n) : clH H n e rows id = H id := by
  cases rows with
  | nil => rfl
  | cons r rs => exact upd_ne _ _ h
theorem clH_own {H : Heap} {n : Nat} {S : Nat → Prop} {e : TypeId} {sz : Nat} {rows : List (List AV)} (hlo : 0 < rows.length → S n) (hr : ∀ r, r ∈ rows → r.length = sz) (hf : ∀ x, x ∈ rows.flatten → Flat x) : Own (clH H n e rows) S (ownR n sz rows) (.view rows) := by
  cases rows with
  | nil => exact .nothing
  | cons r rs =>
    refine own_rows (len := (r :: rs).length) (hlo (Nat.succ_pos _)) (upd_same _ _ _) rfl hr ⟨rfl, fun i x y h1 h2 => ?_⟩
    rw [h1] at h2; cases h2
    exact (hf x (List.mem_of_getElem? h1)).own
theorem byteRows_flat (b : List UInt8) : ∀ x, x ∈ (byteRows b).flatten → Flat x := by
  intro x hx
  obtain ⟨r, h1, h2⟩ := List.mem_flatten.1 hx
  simp only [byteRows, List.mem_map] at h1
  obtain ⟨y, _, rfl⟩ := h1
  rcases List.mem_singleton.1 h2 with rfl; exact .int _ _
theorem pf72_nil : PF Try.prog 72 [.view (byteRows [])] (fun r => r = .empty) := by
  refine pf_of_wf0 Try.func72 (c := _) rfl rfl (Nat.le_of_ble_eq_true rfl) (args_1 (byteRows_pur [])) ?_
  rw [show Try.f72.ntmps = 8 from rfl]
  have tE := And.intro (@upd_upd AV) <| And.intro (@upd_upd (Option Blk)) <| And.intro ty5 <| And.intro ty56 <| Try.results72; repeat' first | ((with_reducible first | apply w_seq | apply w_region | apply wl_nil | apply wr_nil | apply wr_nilA | apply wr_nilE | apply go_normal | apply go_ret | apply go_exit | apply blk_normal | apply blk_ret | apply blk_here | apply w_block | apply w_skip | apply w_exit | apply w_label)) | ((with_reducible first | apply wz (tok Try.prog) | apply wr_z (tok Try.prog)); exact zZ; decide) | ((with_reducible first | apply wp | apply wr_p); (focus (first | ((with_reducible first | apply p_slv (tok Try.prog)); exact zT; exact zU; exact zT; exact zV; exact zN; exact zN; (focus (first | exact zU | exact zB)); (focus (first | exact zU | exact zB)); (focus (first | exact zU | assumption))) | ((with_reducible first | apply p_slo (tok Try.prog)); exact zT; exact zU; exact zT; exact zV; exact zN; exact zN; (focus (first | exact zU | exact zB)); (focus (first | exact zU | exact zB)); (focus (first | exact zU | assumption))) | ((with_reducible first | apply p_nil (tok Try.prog) | apply p_nnil (tok Try.prog)); exact zT; exact zV; exact zU) | ((with_reducible first | apply p_bs0 (tok Try.prog)); exact zT; exact zU; exact zT) | ((with_reducible first | apply p_ap0 (tok Try.prog)); exact zT; exact zU; exact zT; exact zT; exact zU; exact zA; exact zV; (focus (first | exact Or.inl rfl | exact Or.inr rfl))) | ((with_reducible first | apply p_bytes (tok Try.prog)); exact zT; exact zU; exact zT; exact zU; exact zT; exact zU; exact zV))); decide) | ((with_reducible first | apply wl_nilx (tok Try.prog)); (focus (first | exact Or.inl rfl | exact Or.inr rfl)); exact zT; exact zU; exact zV; (focus (first | exact Or.inl rfl | exact Or.inr ⟨_, rfl⟩)); decide; intro b; cases b) | ((with_reducible first | apply w_ift'); exact zV; exact zU) | ((with_reducible first | apply w_iff'); exact zV; exact zU) | ((with_reducible apply w_ret); (repeat (with_reducible first | apply go_ret | apply blk_ret)); (with_reducible first | apply donef_ret (tok Try.prog) | apply doneA_ret (tok Try.prog)); exact zT; exact zD) | fail
  all_goals try clear tE
  · exact .pur .empty
  · exact .empty
  · rfl
  · exact .pur .empty
  · exact .empty
  · rfl
theorem ac72_some (x : UInt8) (l : List UInt8) (hll : l.length ≤ 1000000) : AC Try.prog 72 [.view (byteRows (x :: l))] (hl []) 0 (fun r H _ => ∃ id, r = .ret (.slice id 0 (byteRows (x :: l)).length none 1) ∧ H id = some (.cells (byteRows (x :: l)).flatten 5)) := by
  refine ac_of_w Try.func72 (c := _) rfl (Nat.le_of_ble_eq_true rfl) ?_
  rw [show Try.f72.ntmps = 8 from rfl]
  have hr := byteRows_row (x :: l)
  have hbl := byteRows_len (x :: l)
  rw [List.length_cons] at hbl
  have tE := And.intro (@upd_upd AV) <| And.intro (@upd_upd (Option Blk)) <| And.intro hbl <| And.intro ty5 <| And.intro ty56 <| Try.results72; repeat' first | ((with_reducible first | apply w_seq | apply w_region | apply wl_nil | apply wr_nil | apply wr_nilA | apply wr_nilE | apply go_normal | apply go_ret | apply go_exit | apply blk_normal | apply blk_ret | apply blk_here | apply w_block | apply w_skip | apply w_exit | apply w_label)) | ((with_reducible first | apply wz (tok Try.prog) | apply wr_z (tok Try.prog)); exact zZ; decide) | ((with_reducible first | apply w_ap | apply wr_ap); (focus (first | (intro _ ho _ hr _; (with_reducible apply ap_new (tok Try.prog) ho (hr := hr)); exact zT; exact zU; exact zT; exact zT; exact zU; exact zA; exact zV; exact zK; exact zM; exact zK; exact zK; decide) | (intro _ ho _ hr _; (with_reducible apply ap_own (tok Try.prog) ho (hr := hr)); exact zT; exact zU; exact zT; exact zT; exact zU; exact zV; exact zV; exact zH; exact zKo; exact zM; (focus (first | rfl | assumption)); exact zKo; exact zKo; decide))); decide) | ((with_reducible first | apply wp | apply wr_p); (focus (first | ((with_reducible first | apply p_slv (tok Try.prog)); exact zT; exact zU; exact zT; exact zV; exact zN; exact zN; (focus (first | exact zU | exact zB)); (focus (first | exact zU | exact zB)); (focus (first | exact zU | assumption))) | ((with_reducible first | apply p_slo (tok Try.prog)); exact zT; exact zU; exact zT; exact zV; exact zN; exact zN; (focus (first | exact zU | exact zB)); (focus (first | exact zU | exact zB)); (focus (first | exact zU | assumption))) | ((with_reducible first | apply p_nil (tok Try.prog) | apply p_nnil (tok Try.prog)); exact zT; exact zV; exact zU) | ((with_reducible first | apply p_bs0 (tok Try.prog)); exact zT; exact zU; exact zT) | ((with_reducible first | apply p_ap0 (tok Try.prog)); exact zT; exact zU; exact zT; exact zT; exact zU; exact zA; exact zV; (focus (first | exact Or.inl rfl | exact Or.inr rfl))) | ((with_reducible first | apply p_bytes (tok Try.prog)); exact zT; exact zU; exact zT; exact zU; exact zT; exact zU; exact zV))); decide) | ((with_reducible first | apply w_iff'); exact zV; exact zU) | ((with_reducible apply w_ret); (repeat (with_reducible first | apply go_ret | apply blk_ret)); (with_reducible first | apply donef_ret (tok Try.prog) | apply doneA_ret (tok Try.prog)); exact zT; exact zD) | fail
  all_goals try clear tE
  exact ⟨0, by rw [hbl]; rfl, rfl⟩
theorem cal72 : Callable Try.prog 72 := ⟨_, Try.func72, rfl, rfl⟩
/-- The copy is told by the memory ahead of it. -/
theorem ac72 (l : List UInt8) (hll : l.length ≤ 1000000) (H : Heap) (n : Nat) : AC Try.prog 72 [.view (byteRows l)] H n (fun r H' n' => r = .ret (ownR n 1 (byteRows l)) ∧ H' = clH H n 5 (byteRows l) ∧ n' = clN n (byteRows l)) := by
  cases l with
  | nil =>
    refine (ac_pure pf72_nil H n).mono ?_
    rintro r H' n' ⟨rfl, rfl, x, rfl, _, rfl⟩
    exact ⟨rfl, rfl, rfl⟩
  | cons x l =>
    simp only [List.length_cons] at hll
    refine (ac_own1 (F := fun len cap sz cs e => len = (byteRows (x :: l)).length ∧ cap = none ∧ sz = 1 ∧ cs = (byteRows (x :: l)).flatten ∧ e = 5) (args_1 (byteRows_pur (x :: l))) ((ac72_some x l (by omega)).mono ?_) H n).mono ?_
    · rintro r H n ⟨id, hr, hH⟩
      exact ⟨id, _, _, _, _, _, hr, hH, flat_pur (byteRows_pur (x :: l)), rfl, rfl, rfl, rfl, rfl⟩
    · rintro r H n ⟨len, cap, sz, cs, e, h1, h2, h3, rfl, rfl, rfl, rfl, rfl⟩
      exact ⟨h1, h2, h3⟩
theorem pf71_nil0 : PF Try.prog 71 [.view (unRows [])] (fun r => r = .empty) := by
  refine pf_of_wf0 Try.func71 (c := _) rfl rfl (Nat.le_of_ble_eq_true rfl) (args_1 (unRows_pur [])) ?_
  rw [show Try.f71.ntmps = 8 from rfl]
  have tE := And.intro (@upd_upd AV) <| And.intro (@upd_upd (Option Blk)) <| And.intro ty3 <| And.intro ty5 <| And.intro ty55 <| And.intro ty56 <| And.intro ty58 <| Try.results71; repeat' first | ((with_reducible first | apply w_seq | apply w_region | apply wl_nil | apply wr_nil | apply wr_nilA | apply wr_nilE | apply go_normal | apply go_ret | apply go_exit | apply blk_normal | apply blk_ret | apply blk_here | apply w_block | apply w_skip | apply w_exit | apply w_label)) | ((with_reducible first | apply wz (tok Try.prog) | apply wr_z (tok Try.prog)); exact zZ; decide) | ((with_reducible first | apply wp | apply wr_p); (focus (first | ((with_reducible first | apply p_slv (tok Try.prog)); exact zT; exact zU; exact zT; exact zV; exact zN; exact zN; (focus (first | exact zU | exact zB)); (focus (first | exact zU | exact zB)); (focus (first | exact zU | assumption))) | ((with_reducible first | apply p_slo (tok Try.prog)); exact zT; exact zU; exact zT; exact zV; exact zN; exact zN; (focus (first | exact zU | exact zB)); (focus (first | exact zU | exact zB)); (focus (first | exact zU | assumption))) | ((with_reducible first | apply p_nil (tok Try.prog) | apply p_nnil (tok Try.prog)); exact zT; exact zV; exact zU) | ((with_reducible first | apply p_bs0 (tok Try.prog)); exact zT; exact zU; exact zT) | ((with_reducible first | apply p_ap0 (tok Try.prog)); exact zT; exact zU; exact zT; exact zT; exact zU; exact zA; exact zV; (focus (first | exact Or.inl rfl | exact Or.inr rfl))) | ((with_reducible first | apply p_bytes (tok Try.prog)); exact zT; exact zU; exact zT; exact zU; exact zT; exact zU; exact zV))); decide) | ((with_reducible first | apply wl_nilx (tok Try.prog)); (focus (first | exact Or.inl rfl | exact Or.inr rfl)); exact zT; exact zU; exact zV; (focus (first | exact Or.inl rfl | exact Or.inr ⟨_, rfl⟩)); decide; intro b; cases b) | ((with_reducible first | apply w_ift'); exact zV; exact zU) | ((with_reducible first | apply w_iff'); exact zV; exact zU) | ((with_reducible apply w_ret); (repeat (with_reducible first | apply go_ret | apply blk_ret)); (with_reducible first | apply donef_ret (tok Try.prog) | apply doneA_ret (tok Try.prog)); exact zT; exact zD) | fail
  all_goals try clear tE
  · exact .pur .empty
  · exact .empty
  · rfl
  · exact .pur .empty
  · exact .empty
  · rfl
theorem ac71u_some (x : Un) (l : List Un) (hll : l.length ≤ 1000000) : AC Try.prog 71 [.view (unRows (x :: l))] (hl []) 0 (fun r H _ => ∃ id, r = .ret (.slice id 0 (unRows (x :: l)).length none 4) ∧ H id = some (.cells (unRows (x :: l)).flatten 58)) := by
  refine ac_of_w Try.func71 (c := _) rfl (Nat.le_of_ble_eq_true rfl) ?_
  rw [show Try.f71.ntmps = 8 from rfl]
  have hr := unRows_row (x :: l)
  have hbl := unRows_len (x :: l)
  rw [List.length_cons] at hbl
  have tE := And.intro (@upd_upd AV) <| And.intro (@upd_upd (Option Blk)) <| And.intro hbl <| And.intro ty3 <| And.intro ty5 <| And.intro ty55 <| And.intro ty56 <| And.intro ty58 <| Try.results71; repeat' first | ((with_reducible first | apply w_seq | apply w_region | apply wl_nil | apply wr_nil | apply wr_nilA | apply wr_nilE | apply go_normal | apply go_ret | apply go_exit | apply blk_normal | apply blk_ret | apply blk_here | apply w_block | apply w_skip | apply w_exit | apply w_label)) | ((with_reducible first | apply wz (tok Try.prog) | apply wr_z (tok Try.prog)); exact zZ; decide) | ((with_reducible first | apply w_ap | apply wr_ap); (focus (first | (intro _ ho _ hr _; (with_reducible apply ap_new (tok Try.prog) ho (hr := hr)); exact zT; exact zU; exact zT; exact zT; exact zU; exact zA; exact zV; exact zK; exact zM; exact zK; exact zK; decide) | (intro _ ho _ hr _; (with_reducible apply ap_own (tok Try.prog) ho (hr := hr)); exact zT; exact zU; exact zT; exact zT; exact zU; exact zV; exact zV; exact zH; exact zKo; exact zM; (focus (first | rfl | assumption)); exact zKo; exact zKo; decide))); decide) | ((with_reducible first | apply wp | apply wr_p); (focus (first | ((with_reducible first | apply p_slv (tok Try.prog)); exact zT; exact zU; exact zT; exact zV; exact zN; exact zN; (focus (first | exact zU | exact zB)); (focus (first | exact zU | exact zB)); (focus (first | exact zU | assumption))) | ((with_reducible first | apply p_slo (tok Try.prog)); exact zT; exact zU; exact zT; exact zV; exact zN; exact zN; (focus (first | exact zU | exact zB)); (focus (first | exact zU | exact zB)); (focus (first | exact zU | assumption))) | ((with_reducible first | apply p_nil (tok Try.prog) | apply p_nnil (tok Try.prog)); exact zT; exact zV; exact zU) | ((with_reducible first | apply p_bs0 (tok Try.prog)); exact zT; exact zU; exact zT) | ((with_reducible first | apply p_ap0 (tok Try.prog)); exact zT; exact zU; exact zT; exact zT; exact zU; exact zA; exact zV; (focus (first | exact Or.inl rfl | exact Or.inr rfl))) | ((with_reducible first | apply p_bytes (tok Try.prog)); exact zT; exact zU; exact zT; exact zU; exact zT; exact zU; exact zV))); decide) | ((with_reducible first | apply w_iff'); exact zV; exact zU) | ((with_reducible apply w_ret); (repeat (with_reducible first | apply go_ret | apply blk_ret)); (with_reducible first | apply donef_ret (tok Try.prog) | apply doneA_ret (tok Try.prog)); exact zT; exact zD) | fail
  all_goals try clear tE
  exact ⟨0, by rw [hbl]; rfl, rfl⟩
theorem cal71 : Callable Try.prog 71 := ⟨_, Try.func71, rfl, rfl⟩
/-- The copy is told by the memory ahead of it. -/
theorem ac71u (l : List Un) (hll : l.length ≤ 1000000) (H : Heap) (n : Nat) : AC Try.prog 71 [.view (unRows l)] H n (fun r H' n' => r = .ret (ownR n 4 (unRows l)) ∧ H' = clH H n 58 (unRows l) ∧ n' = clN n (unRows l)) := by
  cases l with
  | nil =>
    refine (ac_pure pf71_nil0 H n).mono ?_
    rintro r H' n' ⟨rfl, rfl, x, rfl, _, rfl⟩
    exact ⟨rfl, rfl, rfl⟩
  | cons x l =>
    simp only [List.length_cons] at hll
    refine (ac_own1 (F := fun len cap sz cs e => len = (unRows (x :: l)).length ∧ cap = none ∧ sz = 4 ∧ cs = (unRows (x :: l)).flatten ∧ e = 58) (args_1 (unRows_pur (x :: l))) ((ac71u_some x l (by omega)).mono ?_) H n).mono ?_
    · rintro r H n ⟨id, hr, hH⟩
      exact ⟨id, _, _, _, _, _, hr, hH, flat_pur (unRows_pur (x :: l)), rfl, rfl, rfl, rfl, rfl⟩
    · rintro r H n ⟨len, cap, sz, cs, e, h1, h2, h3, rfl, rfl, rfl, rfl, rfl⟩
      exact ⟨h1, h2, h3⟩
theorem clH_b (H : Heap) (n : Nat) (e : TypeId) (rows : List (List AV)) (id : Nat) (h : (id == n) = false) : clH H n e rows id = H id := clH_old (by simpa using h)
def oU (x : Un) (a : AV) : List AV := [.int .u8 x.k, .int .i64 x.p, .int .i64 x.f, a]
def oUs (l : List Un) (m : List AV) : List (List AV) := List.zipWith oU l m
def viewsU (l : List Un) : List AV := l.map fun x => .view (byteRows x.d)
theorem oUs_views (l : List Un) : oUs l (viewsU l) = unRows l := by
  induction l with
  | nil => rfl
  | cons x l ih => show oU x (.view (byteRows x.d)) :: oUs l (viewsU l) = Un.cells x :: unRows l; rw [ih]; rfl
theorem oUs_row (l : List Un) (m : List AV) : ∀ r, r ∈ oUs l m → r.length = 4 := by
  intro r hr
  obtain ⟨i, hi, rfl⟩ := List.getElem_of_mem hr
  simp [oUs, oU]
theorem oUs_len {l : List Un} {m : List AV} (h : m.length = l.length) : (oUs l m).length = l.length := by simp [oUs, h]
theorem oUFlat_len {l : List Un} {m : List AV} (h : m.length = l.length) : (oUs l m).flatten.length = l.length * 4 := by
  rw [flat_len (oUs_row l m), oUs_len h]
theorem oUs_at {l : List Un} {m : List AV} {i : Nat} {u : Un} {a : AV} (h : l[i]? = some u) (h' : m[i]? = some a) : (oUs l m)[i]? = some (oU u a) := by
  rw [oUs, List.getElem?_zipWith, h, h']
theorem oUFlat_at {l : List Un} {m : List AV} {i : Nat} {u : Un} {a : AV} (h : l[i]? = some u) (h' : m[i]? = some a) {j : Nat} (hj : j < 4) : (oUs l m).flatten[i * 4 + j]? = (oU u a)[j]? :=
  flat_at (oUs_row l m) (oUs_at h h') hj
theorem oUFlat_set {l : List Un} {m : List AV} {i : Nat} {u : Un} {a : AV} (h : l[i]? = some u) (h' : m[i]? = some a) (b : AV) : (oUs l m).flatten.set (i * 4 + 3) b = (oUs l (m.set i b)).flatten := by
  rw [flat_set (oUs_row l m) b (oUs_at h h') (by decide), show (oU u a).set 3 b = oU u b from rfl]
  congr 1
  refine List.ext_getElem? fun j => ?_
  have h1 := (List.getElem?_eq_some_iff.1 h).1
  have h2 := (List.getElem?_eq_some_iff.1 h').1
  rw [List.getElem?_set, oUs, oUs, List.getElem?_zipWith, List.getElem?_zipWith, List.getElem?_set]
  by_cases e : i = j
  · subst e
    simp only [if_true, h, List.length_zipWith, if_pos h2, if_pos (show i < min l.length m.length by omega)]
  · simp only [if_neg e]
def OwnUs (H : Heap) (S : Nat → Prop) (l : List Un) (m : List AV) : Prop := m.length = l.length ∧ ∀ (j : Nat) u a, l[j]? = some u → m[j]? = some a → Own H S a (.view (byteRows u.d))
theorem OwnUs.mv {H H' : Heap} {S S' : Nat → Prop} {l : List Un} {m : List AV} (h : OwnUs H S l m) (hs : ∀ id b, S id → H id = some b → S' id ∧ H' id = some b) : OwnUs H' S' l m := ⟨h.1, fun j u a hu ha => (h.2 j u a hu ha).mv hs⟩
theorem OwnUs.flat {H : Heap} {S : Nat → Prop} : ∀ {l : List Un} {m : List AV}, OwnUs H S l m → OwnL H S (oUs l m).flatten (unRows l).flatten
  | [], [], _ => .nil
  | [], _ :: _, h => by have := h.1; simp at this
  | _ :: _, [], h => by have := h.1; simp at this
  | x :: l, a :: m, h => by
    have h1 := h.2 0 x a rfl rfl
    have ih := OwnUs.flat (l := l) (m := m) (H := H) (S := S) ⟨by have := h.1; simpa using this, fun j u v hu hv => h.2 (j + 1) u v (by simpa using hu) (by simpa using hv)⟩
    show OwnL H S (oU x a ++ (oUs l m).flatten) (Un.cells x ++ (unRows l).flatten)
    exact OwnL.append (.cons (.int _ _) (.cons (.int _ _) (.cons (.int _ _) (.cons h1 .nil)))) ih
theorem OwnUs.list {H : Heap} {S : Nat → Prop} {l : List Un} {m : List AV} {id : Nat} (h : OwnUs H S l m) (hS : S id) (hH : H id = some (.cells (oUs l m).flatten 58)) {len : Nat} (hl : l.length = len) : Own H S (.slice id 0 len none 4) (.view (unRows l)) :=
  own_rows hS hH (by rw [unRows_len, hl]) (unRows_row l) h.flat
/-- The memory of a copy, behind so many units. -/
def twS (l : List Un) : Nat → List AV × Heap × Nat
  | 0 => (viewsU l, upd (hl []) 0 (some (.cells (unRows l).flatten 58)), 1)
  | i + 1 => match l[i]? with
    | none => twS l i
    | some u => ((twS l i).1.set i (ownR (twS l i).2.2 1 (byteRows u.d)), upd (clH (twS l i).2.1 (twS l i).2.2 5 (byteRows u.d)) 0 (some (.cells (oUs l ((twS l i).1.set i (ownR (twS l i).2.2 1 (byteRows u.d)))).flatten 58)), clN (twS l i).2.2 (byteRows u.d))
structure TwP (l : List Un) (i : Nat) (m : List AV) (H : Heap) (k : Nat) : Prop where
  len : m.length = l.length
  h0 : H 0 = some (.cells (oUs l m).flatten 58)
  k1 : 1 ≤ k
  own : ∀ (j : Nat) u a, l[j]? = some u → m[j]? = some a → j < i → Own H (1 ≤ ·) a (.view (byteRows u.d))
  pur : ∀ (j : Nat) u a, l[j]? = some u → m[j]? = some a → i ≤ j → a = .view (byteRows u.d)
  top : ∀ id, k ≤ id → H id = none
theorem twP (l : List Un) : ∀ i, i ≤ l.length → TwP l i (twS l i).1 (twS l i).2.1 (twS l i).2.2
  | 0, _ => ⟨by simp [twS, viewsU], by simp only [twS]; rw [upd_same, oUs_views], Nat.le_refl 1, fun j u a _ _ h => absurd h (Nat.not_lt_zero _), fun j u a h h' _ => by simp [twS, viewsU, h] at h'; exact h'.symm, fun id hid => by
    simp only [twS] at hid ⊢
    rw [upd_ne _ _ (by omega)]; rfl⟩
  | i + 1, hi => by
    have hil : i < l.length := by omega
    obtain ⟨u, hu⟩ : ∃ u, l[i]? = some u := ⟨l[i], List.getElem?_eq_getElem hil⟩
    have ih := twP l i (by omega)
    have e : twS l (i + 1) = ((twS l i).1.set i (ownR (twS l i).2.2 1 (byteRows u.d)), upd (clH (twS l i).2.1 (twS l i).2.2 5 (byteRows u.d)) 0 (some (.cells (oUs l ((twS l i).1.set i (ownR (twS l i).2.2 1 (byteRows u.d)))).flatten 58)), clN (twS l i).2.2 (byteRows u.d)) := by rw [twS, hu]
    rw [e]
    generalize (twS l i).1 = m at ih
    generalize (twS l i).2.1 = H at ih
    generalize (twS l i).2.2 = k at ih
    obtain ⟨hm, e0, hk, hown, hpur, htop⟩ := ih
    have c1 := clN_le k (byteRows u.d)
    refine ⟨by simp only [List.length_set]; exact hm, by simp only; exact upd_same _ _ _, by simp only; omega, fun j v a hv ha hj => ?_, fun j v a hv ha hj => ?_, fun id hid => ?_⟩
    · simp only at ha ⊢
      rw [List.getElem?_set] at ha
      by_cases ej : i = j
      · subst ej
        rw [hu] at hv; cases hv
        rw [if_pos rfl, if_pos (by omega)] at ha; cases ha
        refine (clH_own (H := H) (n := k) (S := (1 ≤ ·)) (e := 5) (sz := 1) (fun _ => hk) (byteRows_row u.d) (byteRows_flat u.d)).mono (fun _ h => h) (fun id b h3 hb => ?_)
        have h3 : 1 ≤ id := h3
        rw [upd_ne _ _ (by omega)]; exact hb
      · rw [if_neg ej] at ha
        refine (hown j v a hv ha (by omega)).mono (fun _ h => h) (fun id b h3 hb => ?_)
        have h3 : 1 ≤ id := h3
        have hlt : id < k := by
          rcases Nat.lt_or_ge id k with h | h
          · exact h
          · rw [htop id h] at hb; cases hb
        rw [upd_ne _ _ (by omega), clH_old (by omega)]; exact hb
    · simp only at ha
      rw [List.getElem?_set_ne (by omega)] at ha
      exact hpur j v a hv ha (by omega)
    · simp only at hid ⊢
      rw [upd_ne _ _ (by omega)]
      cases hd : byteRows u.d with
      | nil => rw [hd] at hid; exact htop id hid
      | cons r rs =>
        rw [hd] at hid
        have hid : k + 1 ≤ id := hid
        show upd H k _ id = none
        rw [upd_ne _ _ (by omega)]; exact htop id (by omega)
theorem unRows_cellsp (l : List Un) (h0 : 0 < l.length) (hl : l.length ≤ 1000000) (H : Heap) (n : Nat) : AC Try.prog 71 [.view (unRows l)] H n (fun r H' n' => r = .ret (.slice n 0 l.length none 4) ∧ H' = upd H n (some (.cells (unRows l).flatten 58)) ∧ n' = n + 1) := by
  refine (ac71u l hl H n).mono ?_
  cases l with
  | nil => cases h0
  | cons x l =>
    rintro r H' n' ⟨rfl, rfl, rfl⟩
    exact ⟨by show AR.ret (.slice n 0 ((unRows l).length + 1) none 4) = _; rw [unRows_len]; rfl, rfl, rfl⟩
/-- The copy of a queue that is not empty: exactly that memory. -/
theorem ac43t (l : List Un) (h0 : 0 < l.length) (hl1 : l.length ≤ 1000000) (hd : ∀ u, u ∈ l → u.d.length ≤ 1000000) : AC Try.prog 43 [.view (unRows l)] (hl []) 0 (fun r H n => r = .ret (.slice 0 0 l.length none 4) ∧ H = (twS l l.length).2.1 ∧ n = (twS l l.length).2.2) := by
  refine ac_of_w Try.func43 (c := _) rfl (Nat.le_of_ble_eq_true rfl) ?_
  rw [show Try.f43.ntmps = 24 from rfl]
  have tE := And.intro (@upd_upd AV) <| And.intro (@upd_upd (Option Blk)) <| And.intro ty3 <| And.intro ty5 <| And.intro ty55 <| And.intro ty56 <| And.intro ty58 <| Try.results43; repeat' first | ((with_reducible first | apply w_seq | apply w_region | apply wl_nil | apply wr_nil | apply wr_nilA | apply wr_nilE | apply go_normal | apply go_ret | apply go_exit | apply blk_normal | apply blk_ret | apply blk_here | apply w_block | apply w_skip | apply w_exit | apply w_label)) | ((with_reducible first | apply wz (tok Try.prog) | apply wr_z (tok Try.prog)); exact zZ; decide) | ((with_reducible first | apply wacall'); exact zV; exact zVs; exact zAs; (focus (first | exact ⟨_, Try.func71, rfl, rfl⟩)); (focus (with_unfolding_all first | exact unRows_cellsp l h0 hl1 _ _)); decide) | fail
  all_goals try clear tE
  refine w_loopP (S := Nat) (fun i => [(3, .slice 0 0 l.length none 4), (8, .int .i64 (l.length : Int)), (9, .int .i64 (i : Int))]) [] (fun i H k => i ≤ l.length ∧ H = (twS l i).2.1 ∧ k = (twS l i).2.2) (fun i => l.length - i) 0 ?_ rfl ?_ ?_
  · (have tE := And.intro (@upd_upd AV) <| @upd_upd (Option Blk); simp only [fitsT, List.take_zero, List.length_nil, sp_cons, sp_nil, upd_b, Nat.reduceBEq, cond_true, cond_false, args0_zero, args0_succ, args0_nil, tE]; repeat' first | exact trivial | apply And.intro | exact Sub.refl _ | exact Sub.cap)
  · exact ⟨Nat.zero_le _, rfl, rfl⟩
  · rintro i H k ⟨hi, hH, hk⟩
    have hP := twP l i hi
    rw [← hH, ← hk] at hP
    generalize hm0 : (twS l i).1 = m at hP
    obtain ⟨hm, e0, hk1, hown, hpur, htop⟩ := hP
    have hw : IntKind.i64.wrap ((i : Int) + 1) = ((i + 1 : Nat) : Int) := by rw [wrap64 (by omega) (by omega)]; rfl
    have g0 : (0 ≤ (i : Int)) = True := by simp
    by_cases e : i < l.length
    · have g1 : ((i : Int) < (l.length : Int)) = True := by simp; omega
      obtain ⟨u, hu⟩ : ∃ u, l[i]? = some u := ⟨l[i], List.getElem?_eq_getElem e⟩
      obtain ⟨a, ha⟩ : ∃ a, m[i]? = some a := ⟨m[i]'(by omega), List.getElem?_eq_getElem _⟩
      obtain rfl := hpur i u a hu ha (Nat.le_refl _)
      have hfl := oUFlat_len hm
      have a3 := oUFlat_at hu ha (j := 3) (by decide)
      have a3 : (oUs l m).flatten[i * 4 + 3]? = some (.view (byteRows u.d)) := a3
      have w3 := drop_head a3
      have b3 : (i * 4 + 3 + 1 ≤ (oUs l m).flatten.length) = True := by rw [hfl]; simp; omega
      have hcb := @clH_b
      have q0 : ((0 : Nat) == k) = false := by rw [beq_eq_false_iff_ne]; omega
      have tE := And.intro (@upd_upd AV) <| And.intro (@upd_upd (Option Blk)) <| And.intro g1 <| And.intro g0 <| And.intro hw <| And.intro e0 <| And.intro w3 <| And.intro b3 <| And.intro hcb <| And.intro q0 <| And.intro ty3 <| And.intro ty5 <| And.intro ty55 <| And.intro ty56 <| And.intro ty58 <| Try.results43; repeat' first | ((with_reducible first | apply w_seq | apply w_region | apply wl_nil | apply wr_nil | apply wr_nilA | apply wr_nilE | apply go_normal | apply go_ret | apply go_exit | apply blk_normal | apply blk_ret | apply blk_here | apply w_block | apply w_skip | apply w_exit | apply w_label)) | ((with_reducible first | apply wz (tok Try.prog) | apply wr_z (tok Try.prog)); exact zZ; decide) | ((with_reducible first | apply w_store (tok Try.prog)); exact zV; exact zV; (focus ((with_reducible apply hv1); exact zC1; exact zC2; exact zT; exact zU; exact zH; exact zTd; exact zU))) | ((with_reducible first | apply wacall'); exact zV; exact zVs; exact zAs; (focus (first | exact ⟨_, Try.func72, rfl, rfl⟩)); (focus (with_unfolding_all first | exact ac72 u.d (hd u (List.mem_of_getElem? hu)) _ _)); decide) | ((with_reducible first | apply w_ift'); exact zV; exact zU) | fail
      all_goals try clear tE
      have et : twS l (i + 1) = (m.set i (ownR k 1 (byteRows u.d)), upd (clH H k 5 (byteRows u.d)) 0 (some (.cells (oUs l (m.set i (ownR k 1 (byteRows u.d)))).flatten 58)), clN k (byteRows u.d)) := by rw [twS, hu, ← hH, ← hk, hm0]
      refine ⟨i + 1, by omega, ⟨by omega, ?_, ?_⟩, rfl, ?_⟩
      · rw [et, ← oUFlat_set hu ha]
      · rw [et]
      · (have tE := And.intro (@upd_upd AV) <| And.intro (@upd_upd (Option Blk)) <| hw; simp only [fitsT, List.take_zero, List.length_nil, sp_cons, sp_nil, upd_b, Nat.reduceBEq, cond_true, cond_false, args0_zero, args0_succ, args0_nil, tE]; repeat' first | exact trivial | apply And.intro | exact Sub.refl _ | exact Sub.cap)
    · have g1 : ((i : Int) < (l.length : Int)) = False := by simp; omega
      have ei : i = l.length := by omega
      subst ei
      have tE := And.intro (@upd_upd AV) <| And.intro (@upd_upd (Option Blk)) <| And.intro g1 <| And.intro ty3 <| And.intro ty5 <| And.intro ty55 <| And.intro ty56 <| And.intro ty58 <| Try.results43; repeat' first | ((with_reducible first | apply w_seq | apply w_region | apply wl_nil | apply wr_nil | apply wr_nilA | apply wr_nilE | apply go_normal | apply go_ret | apply go_exit | apply blk_normal | apply blk_ret | apply blk_here | apply w_block | apply w_skip | apply w_exit | apply w_label)) | ((with_reducible first | apply wz (tok Try.prog) | apply wr_z (tok Try.prog)); exact zZ; decide) | ((with_reducible first | apply w_iff'); exact zV; exact zU) | ((with_reducible apply w_ret); (repeat (with_reducible first | apply go_ret | apply blk_ret)); (with_reducible first | apply donef_ret (tok Try.prog) | apply doneA_ret (tok Try.prog)); exact zT; exact zD) | fail
      all_goals try clear tE
      exact ⟨rfl, hH, hk⟩
end Go.Proofs.Ytclldbeefbbdlaa
