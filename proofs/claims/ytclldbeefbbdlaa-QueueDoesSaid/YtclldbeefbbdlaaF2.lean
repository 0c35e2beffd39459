/- queue.Put: an answer in new memory. -/
import Derived.Test.YtclldbeefbbdlaaF1
open Go Go.Lg
set_option linter.unusedSimpArgs false
set_option linter.unusedVariables false
set_option maxHeartbeats 4000000
set_option maxRecDepth 20000
namespace Go.Proofs.Ytclldbeefbbdlaa
section
variable {P : Program} {T : TT} {N : Nat} {tm : Nat → AV} {hp : Heap} {n : Nat} {t t2 e : TypeId}
theorem ap_ownS (hT : TOK P T) {x z : Operand} {ti ei i2 : TI} {src : AV} {k : Nat} {news : List AV} {o : Oper} {tm' : Nat → AV} {df : List Nat} {id len : Nat} {cs : List AV} (hop : o.op = .call { callee := .builtin .append, args := #[x, z], argTypes := #[t, t2] }) (ht : T t = some ti) (hd : ti.desc = .slice e) (he : T e = some ei) (ht2 : T t2 = some i2) (hn2 : notInt i2.desc = true)
    (hx : evo tm x = some (.slice id 0 len none ei.size)) (hz : evo tm z = some src) (hH : hp id = some (.cells cs e)) (hcl : len * ei.size = cs.length) (hsrc : SrcA hp ei.size src k news) (hsc : ∀ c, c ∈ news → scalA c = true) (hsm : (2 * (len + k) + 768) * ei.bytes ≤ 281474976710656) (hsm2 : len + k ≤ 4611686018427387904) (hb : 0 < ei.bytes)
    (hr : ∀ t, Operand.tmp t ∈ o.op.operands.toList → tm' t = tm t) : OpV P N o ⟨tm', hp, n, df⟩ (.slice n 0 (len + k) none ei.size) (upd (upd hp id none) n (some (.cells (cs ++ news) e))) (n + 1) := by
  rw [hop] at hr
  exact opv_append_own hT (σ := ⟨tm', hp, n, df⟩) (src := src) (cs := cs) (off := 0) hop ht hd he ht2 hn2 (by rw [← hx]; exact evo_congr fun t e => hr t (by simp [Op.operands, Call.operands, e])) (by rw [← hz]; exact evo_congr fun t e => hr t (by simp [Op.operands, Call.operands, e])) hH (by omega) hsrc hsc hsm hsm2 hb
theorem ap_newS (hT : TOK P T) {x z : Operand} {ti ei i2 : TI} {src : AV} {k : Nat} {news : List AV} {o : Oper} {tm' : Nat → AV} {df : List Nat} (hop : o.op = .call { callee := .builtin .append, args := #[x, z], argTypes := #[t, t2] }) (ht : T t = some ti) (hd : ti.desc = .slice e) (he : T e = some ei) (ht2 : T t2 = some i2) (hn2 : notInt i2.desc = true)
    (hx : evo tm x = some .empty) (hz : evo tm z = some src) (hsrc : SrcA hp ei.size src k news) (hk : 0 < k) (hsm : (2 * k + 768) * ei.bytes ≤ 281474976710656) (hsm2 : k ≤ 4611686018427387904) (hb : 0 < ei.bytes)
    (hr : ∀ t, Operand.tmp t ∈ o.op.operands.toList → tm' t = tm t) : OpV P N o ⟨tm', hp, n, df⟩ (.slice n 0 k none ei.size) (upd hp n (some (.cells news e))) (n + 1) := by
  rw [hop] at hr
  exact opv_append_new hT (σ := ⟨tm', hp, n, df⟩) (src := src) hop ht hd he ht2 hn2 (by rw [← hx]; exact evo_congr fun t e => hr t (by simp [Op.operands, Call.operands, e])) (by rw [← hz]; exact evo_congr fun t e => hr t (by simp [Op.operands, Call.operands, e])) hsrc hk hsm hsm2 hb
end
theorem ac63A (H : Heap) (n L b1 ql k : Nat) (a2 : AV) (cs1 news : List AV) (most : Int) (hL : H L = some (.cells [.slice b1 0 ql none 4] 106)) (h1 : H b1 = some (.cells cs1 58)) (hc1 : ql * 4 = cs1.length) (hne : L ≠ b1) (hLn : L < n) (hs : SrcA H 4 a2 k news) (hsc : ∀ c, c ∈ news → scalA c = true) (ha2 : a2 = .empty ∧ k = 0 ∨ ∃ b2, a2 = .slice b2 0 k none 4) (hq : ql ≤ 1000) (hm : k ≤ 1000) (hmost : 0 ≤ most ∧ most ≤ 1000) (hroom : (ql : Int) + k ≤ most) :
    AC Try.prog 63 [.ptr L 0, .int .i64 most, a2] H n (fun r h' n' => r = .ret (.bool true) ∧ h' = upd (upd (upd H b1 none) n (some (.cells (cs1 ++ news) 58))) L (some (.cells [.slice n 0 (ql + k) none 4] 106)) ∧ n' = n + 1) := by
  have b1' : (L == n) = false := by rw [beq_eq_false_iff_ne]; omega
  have b2' : (L == b1) = false := by rw [beq_eq_false_iff_ne]; exact hne
  have wr : IntKind.i64.wrap (most - (ql : Int)) = most - ql := wrap64 (by omega) (by omega)
  rcases ha2 with ⟨rfl, hk0⟩ | ⟨b2, rfl⟩
  · have hgt : ((0 : Int) > most - ql) = False := eq_false (by omega)
    refine ac_of_w Try.func63 (c := _) rfl (Nat.le_of_ble_eq_true rfl) ?_
    rw [show Try.f63.ntmps = 26 from rfl]
    have tE := And.intro (@upd_upd AV) <| And.intro (@upd_upd (Option Blk)) <| And.intro hL <| And.intro h1 <| And.intro b1' <| And.intro b2' <| And.intro wr <| And.intro hgt <| And.intro ty3 <| And.intro ty5 <| And.intro ty55 <| And.intro ty56 <| And.intro ty58 <| And.intro ty106 <| Try.results63; repeat' first | ((with_reducible first | apply w_seq | apply w_region | apply wl_nil | apply wr_nil | apply wr_nilA | apply wr_nilE | apply go_normal | apply go_ret | apply go_exit | apply blk_normal | apply blk_ret | apply blk_here | apply w_block | apply w_skip | apply w_exit | apply w_label)) | ((with_reducible first | apply wz (tok Try.prog) | apply wr_z (tok Try.prog)); exact zZ; decide) | ((with_reducible first | apply w_iff'); exact zV; exact zU) | fail
    all_goals try clear tE
    (have tE := And.intro (@upd_upd AV) <| And.intro (@upd_upd (Option Blk)) <| And.intro hL <| And.intro h1 <| And.intro b1' <| And.intro b2' <| And.intro ty55 <| And.intro ty58 <| hc1; (with_reducible apply w_ap); (focus (intro _ ho _ hr _; (with_reducible apply ap_ownS (tok Try.prog) ho (hr := hr)); exact zT; exact zU; exact zT; exact zT; exact zU; exact zV; exact zV; exact zH; exact zKo; exact hs; exact hsc; exact zKo; exact zKo; decide)); decide; clear tE)
    have tE := And.intro (@upd_upd AV) <| And.intro (@upd_upd (Option Blk)) <| And.intro hL <| And.intro h1 <| And.intro b1' <| And.intro b2' <| And.intro wr <| And.intro hgt <| And.intro ty3 <| And.intro ty5 <| And.intro ty55 <| And.intro ty56 <| And.intro ty58 <| And.intro ty106 <| Try.results63; repeat' first | ((with_reducible first | apply w_seq | apply w_region | apply wl_nil | apply wr_nil | apply wr_nilA | apply wr_nilE | apply go_normal | apply go_ret | apply go_exit | apply blk_normal | apply blk_ret | apply blk_here | apply w_block | apply w_skip | apply w_exit | apply w_label)) | ((with_reducible first | apply wz (tok Try.prog) | apply wr_z (tok Try.prog)); exact zZ; decide) | ((with_reducible first | apply w_store (tok Try.prog)); exact zV; exact zV; exact zS) | ((with_reducible apply w_ret); (repeat (with_reducible first | apply go_ret | apply blk_ret)); (with_reducible first | apply donef_ret (tok Try.prog) | apply doneA_ret (tok Try.prog)); exact zT; exact zD) | fail
    all_goals try clear tE
    exact ⟨rfl, rfl, rfl⟩
  · have hgt : ((k : Int) > most - ql) = False := eq_false (by omega)
    refine ac_of_w Try.func63 (c := _) rfl (Nat.le_of_ble_eq_true rfl) ?_
    rw [show Try.f63.ntmps = 26 from rfl]
    have tE := And.intro (@upd_upd AV) <| And.intro (@upd_upd (Option Blk)) <| And.intro hL <| And.intro h1 <| And.intro b1' <| And.intro b2' <| And.intro wr <| And.intro hgt <| And.intro ty3 <| And.intro ty5 <| And.intro ty55 <| And.intro ty56 <| And.intro ty58 <| And.intro ty106 <| Try.results63; repeat' first | ((with_reducible first | apply w_seq | apply w_region | apply wl_nil | apply wr_nil | apply wr_nilA | apply wr_nilE | apply go_normal | apply go_ret | apply go_exit | apply blk_normal | apply blk_ret | apply blk_here | apply w_block | apply w_skip | apply w_exit | apply w_label)) | ((with_reducible first | apply wz (tok Try.prog) | apply wr_z (tok Try.prog)); exact zZ; decide) | ((with_reducible first | apply w_iff'); exact zV; exact zU) | fail
    all_goals try clear tE
    (have tE := And.intro (@upd_upd AV) <| And.intro (@upd_upd (Option Blk)) <| And.intro hL <| And.intro h1 <| And.intro b1' <| And.intro b2' <| And.intro ty55 <| And.intro ty58 <| hc1; (with_reducible apply w_ap); (focus (intro _ ho _ hr _; (with_reducible apply ap_ownS (tok Try.prog) ho (hr := hr)); exact zT; exact zU; exact zT; exact zT; exact zU; exact zV; exact zV; exact zH; exact zKo; exact hs; exact hsc; exact zKo; exact zKo; decide)); decide; clear tE)
    have tE := And.intro (@upd_upd AV) <| And.intro (@upd_upd (Option Blk)) <| And.intro hL <| And.intro h1 <| And.intro b1' <| And.intro b2' <| And.intro wr <| And.intro hgt <| And.intro ty3 <| And.intro ty5 <| And.intro ty55 <| And.intro ty56 <| And.intro ty58 <| And.intro ty106 <| Try.results63; repeat' first | ((with_reducible first | apply w_seq | apply w_region | apply wl_nil | apply wr_nil | apply wr_nilA | apply wr_nilE | apply go_normal | apply go_ret | apply go_exit | apply blk_normal | apply blk_ret | apply blk_here | apply w_block | apply w_skip | apply w_exit | apply w_label)) | ((with_reducible first | apply wz (tok Try.prog) | apply wr_z (tok Try.prog)); exact zZ; decide) | ((with_reducible first | apply w_store (tok Try.prog)); exact zV; exact zV; exact zS) | ((with_reducible apply w_ret); (repeat (with_reducible first | apply go_ret | apply blk_ret)); (with_reducible first | apply donef_ret (tok Try.prog) | apply doneA_ret (tok Try.prog)); exact zT; exact zD) | fail
    all_goals try clear tE
    exact ⟨rfl, rfl, rfl⟩
theorem ac63B (H : Heap) (n L k b2 : Nat) (news : List AV) (most : Int) (hL : H L = some (.cells [.empty] 106)) (hLn : L < n) (hs : SrcA H 4 (.slice b2 0 k none 4) k news) (hk : 0 < k) (hm : k ≤ 1000) (hmost : 0 ≤ most ∧ most ≤ 1000) (hroom : (k : Int) ≤ most) :
    AC Try.prog 63 [.ptr L 0, .int .i64 most, .slice b2 0 k none 4] H n (fun r h' n' => r = .ret (.bool true) ∧ h' = upd (upd H n (some (.cells news 58))) L (some (.cells [.slice n 0 k none 4] 106)) ∧ n' = n + 1) := by
  have b1' : (L == n) = false := by rw [beq_eq_false_iff_ne]; omega
  have wr : IntKind.i64.wrap (most - 0) = most := by rw [wrap64 (by omega) (by omega)]; omega
  have hgt : ((k : Int) > most) = False := eq_false (by omega)
  refine ac_of_w Try.func63 (c := _) rfl (Nat.le_of_ble_eq_true rfl) ?_
  rw [show Try.f63.ntmps = 26 from rfl]
  have tE := And.intro (@upd_upd AV) <| And.intro (@upd_upd (Option Blk)) <| And.intro hL <| And.intro b1' <| And.intro wr <| And.intro hgt <| And.intro ty3 <| And.intro ty5 <| And.intro ty55 <| And.intro ty56 <| And.intro ty58 <| And.intro ty106 <| Try.results63; repeat' first | ((with_reducible first | apply w_seq | apply w_region | apply wl_nil | apply wr_nil | apply wr_nilA | apply wr_nilE | apply go_normal | apply go_ret | apply go_exit | apply blk_normal | apply blk_ret | apply blk_here | apply w_block | apply w_skip | apply w_exit | apply w_label)) | ((with_reducible first | apply wz (tok Try.prog) | apply wr_z (tok Try.prog)); exact zZ; decide) | ((with_reducible first | apply w_iff'); exact zV; exact zU) | fail
  all_goals try clear tE
  (have tE := And.intro (@upd_upd AV) <| And.intro (@upd_upd (Option Blk)) <| And.intro hL <| And.intro b1' <| And.intro ty55 <| ty58; (with_reducible apply w_ap); (focus (intro _ ho _ hr _; (with_reducible apply ap_newS (tok Try.prog) ho (hr := hr)); exact zT; exact zU; exact zT; exact zT; exact zU; exact zA; exact zV; exact hs; exact hk; exact zKo; exact zKo; decide)); decide; clear tE)
  have tE := And.intro (@upd_upd AV) <| And.intro (@upd_upd (Option Blk)) <| And.intro hL <| And.intro b1' <| And.intro wr <| And.intro hgt <| And.intro ty3 <| And.intro ty5 <| And.intro ty55 <| And.intro ty56 <| And.intro ty58 <| And.intro ty106 <| Try.results63; repeat' first | ((with_reducible first | apply w_seq | apply w_region | apply wl_nil | apply wr_nil | apply wr_nilA | apply wr_nilE | apply go_normal | apply go_ret | apply go_exit | apply blk_normal | apply blk_ret | apply blk_here | apply w_block | apply w_skip | apply w_exit | apply w_label)) | ((with_reducible first | apply wz (tok Try.prog) | apply wr_z (tok Try.prog)); exact zZ; decide) | ((with_reducible first | apply w_store (tok Try.prog)); exact zV; exact zV; exact zS) | ((with_reducible apply w_ret); (repeat (with_reducible first | apply go_ret | apply blk_ret)); (with_reducible first | apply donef_ret (tok Try.prog) | apply doneA_ret (tok Try.prog)); exact zT; exact zD) | fail
  all_goals try clear tE
  exact ⟨rfl, rfl, rfl⟩
theorem oUs_sh (n : Nat) : ∀ (l : List Un) (m : List AV), shL n (oUs l m).flatten = (oUs l (m.map (sh n))).flatten
  | [], m => by simp [oUs, shL]
  | x :: l, [] => by simp [oUs, shL]
  | x :: l, a :: m => by
    have ih := oUs_sh n l m
    rw [shL_map] at ih ⊢
    show List.map (sh n) (oU x a ++ (oUs l m).flatten) = oU x (sh n a) ++ (oUs l (m.map (sh n))).flatten
    rw [List.map_append, ih]
    simp [oU, sh]
theorem OwnUs.app {H : Heap} {S : Nat → Prop} {q m : List Un} {a b : List AV} (h : OwnUs H S q a) (h' : OwnUs H S m b) : OwnUs H S (q ++ m) (a ++ b) :=
  ⟨by simp [h.1, h'.1], fun j u x hu hx => by
    rw [List.getElem?_append] at hu hx
    rw [h.1] at hx
    split at hu
    · rename_i hlt; rw [if_pos hlt] at hx; exact h.2 j u x hu hx
    · rename_i hlt; rw [if_neg hlt] at hx; exact h'.2 _ u x hu hx⟩
theorem oUs_app {q m : List Un} {a b : List AV} (h : a.length = q.length) : (oUs q a).flatten ++ (oUs m b).flatten = (oUs (q ++ m) (a ++ b)).flatten := by
  rw [oUs, oUs, oUs, List.zipWith_append h.symm, List.flatten_append]
theorem oUs_scal {H : Heap} {S : Nat → Prop} : ∀ {l : List Un} {m : List AV}, OwnUs H S l m → ∀ c, c ∈ (oUs l m).flatten → scalA c = true
  | [], [], _, c, hc => by simp [oUs] at hc
  | [], _ :: _, h, _, _ => by have := h.1; simp at this
  | _ :: _, [], h, _, _ => by have := h.1; simp at this
  | x :: l, a :: m, h, c, hc => by
    have h1 := h.2 0 x a rfl rfl
    have hc : c ∈ oU x a ++ (oUs l m).flatten := hc
    rcases List.mem_append.1 hc with hc | hc
    · simp only [oU, List.mem_cons, List.not_mem_nil, or_false] at hc
      rcases hc with rfl | rfl | rfl | rfl
      · rfl
      · rfl
      · rfl
      · exact (own_scal h1).1
    · exact oUs_scal (l := l) (m := m) (H := H) (S := S) ⟨by have := h.1; simpa using this, fun j u v hu hv => h.2 (j + 1) u v (by simpa using hu) (by simpa using hv)⟩ c hc

theorem lt_top {H : Heap} {k id : Nat} {b : Blk} (h : ∀ id, k ≤ id → H id = none) (hb : H id = some b) : id < k := by
  rcases Nat.lt_or_ge id k with hx | hx
  · exact hx
  · rw [h id hx] at hb; cases hb
theorem ac43x (l : List Un) (h0 : 0 < l.length) (hl1 : l.length ≤ 1000000) (hd : ∀ u, u ∈ l → u.d.length ≤ 1000000) : ∃ (T : Heap) (m : List AV) (n0 : Nat), 1 ≤ n0 ∧ (∀ n, (shH n T) n = some (.cells (oUs l (m.map (sh n))).flatten 58)) ∧ (∀ n, OwnUs (shH n T) (fun id => n + 1 ≤ id) l (m.map (sh n))) ∧ (∀ n id, n + n0 ≤ id → shH n T id = none) ∧
    ∀ H n, AC Try.prog 43 [.view (unRows l)] H n (fun r H' n' => r = .ret (.slice n 0 l.length none 4) ∧ H' = (shH n T).or H ∧ n' = n + n0) := by
  have hP := twP l l.length (Nat.le_refl _)
  have ht := ac43t l h0 hl1 hd
  generalize (twS l l.length).1 = m at hP
  generalize (twS l l.length).2.1 = T at hP ht
  generalize (twS l l.length).2.2 = n0 at hP ht
  obtain ⟨hm, e0, hk, hown, hpur, htop⟩ := hP
  refine ⟨T, m, n0, hk, fun n => ?_, fun n => ⟨by rw [List.length_map]; exact hm, fun j u a hu ha => ?_⟩, fun n id hid => ?_, fun H n => ?_⟩
  · have := shH_at (n := n) e0
    rw [Nat.add_zero, oUs_sh] at this
    exact this
  · rw [List.getElem?_map] at ha
    cases hx : m[j]? with
    | none => rw [hx] at ha; cases ha
    | some x =>
      rw [hx] at ha; cases ha
      exact (own_sh (hown j u x hu hx (List.getElem?_eq_some_iff.1 hu).1)).mono (fun id h => by have h1 := h.1; have h2 : 1 ≤ id - n := h.2; omega) (fun _ _ _ h => h)
  · cases hh : shH n T id with
    | none => rfl
    | some b =>
      obtain ⟨_, cs, e, hh, _⟩ := shH_inv hh
      rw [htop _ (by omega)] at hh; cases hh
  · have := ac_det (args_1 (unRows_pur l)) ht H n
    simpa only [sh, Nat.add_zero] using this
theorem cal43 : Callable Try.prog 43 := ⟨_, Try.func43, rfl, rfl⟩
theorem cal29 : Callable Try.prog 29 := ⟨_, Try.func29, rfl, rfl⟩
theorem nf43 (l : List Un) (hl1 : l.length ≤ 1000000) (hd : ∀ u, u ∈ l → u.d.length ≤ 1000000) : NF Try.prog 43 [.view (unRows l)] (fun r => r = .view (unRows l)) := by
  rcases Nat.eq_zero_or_pos l.length with hz | h0
  · obtain rfl := List.eq_nil_of_length_eq_zero hz
    refine nf_of_0 cal43 (args_1 (unRows_pur [])) ((ac_pure pf43_nilE _ _).mono ?_)
    rintro r H n ⟨rfl, rfl, x, rfl, _, rfl⟩
    exact ⟨_, _, rfl, .nothing, rfl⟩
  · refine nf_of_0 cal43 (args_1 (unRows_pur l)) ((ac43t l h0 hl1 hd).mono ?_)
    rintro r H n ⟨rfl, rfl, rfl⟩
    have hP := twP l l.length (Nat.le_refl _)
    have hO : OwnUs (twS l l.length).2.1 (fun _ => True) l (twS l l.length).1 := ⟨hP.len, fun j u a hu ha => (hP.own j u a hu ha (List.getElem?_eq_some_iff.1 hu).1).mono (fun _ _ => trivial) (fun _ _ _ h => h)⟩
    exact ⟨_, _, rfl, hO.list (id := 0) trivial hP.h0 rfl, rfl⟩
theorem zt_own (H : Heap) (S : Nat → Prop) (e : Int) : Own H S (.tuple [.empty, .int .i64 e]) (.tuple [.view (unRows []), .int .i64 e]) := OwnL.tuple (.cons .nothing (.cons (.int _ _) .nil))
theorem nf29_ok (c : Cf) (q m : List Un) (hq : q.length ≤ 1000) (hm : m.length ≤ 1000) (hdq : ∀ u, u ∈ q → u.d.length ≤ 1000000) (hdm : ∀ u, u ∈ m → u.d.length ≤ 1000000) (h : put1 c q m = true) (hroom : (q.length : Int) + m.length ≤ c.q) : NF Try.prog 29 [.agg c.cells, .view (unRows q), .view (unRows m)] (fun r => r = .tuple [.view (unRows (q ++ m)), .int .i64 0]) := by
  have hk : qok c q = true := by simp only [put1, Bool.and_eq_true] at h; exact h.1
  have ha : m.all (mayU c) = true := by simp only [put1, Bool.and_eq_true] at h; exact h.2
  have hgood : c.good = true := by simp only [qok, Bool.and_eq_true] at hk; exact hk.1.1
  have hcq := cf_q hgood
  have e1 : (if qok c q = true then (0 : Int) else 8) = 0 := if_pos hk
  have ho := odd_eq c m
  rw [ha] at ho
  refine nf_of_w0 Try.func29 (c := _) rfl rfl (Nat.le_of_ble_eq_true rfl) (args_cll c q m) ?_
  rw [show Try.f29.ntmps = 33 from rfl]
  rcases Nat.eq_zero_or_pos q.length with hz | hz
  · rcases Nat.eq_zero_or_pos m.length with hy | hy
    · obtain rfl := List.eq_nil_of_length_eq_zero hz
      obtain rfl := List.eq_nil_of_length_eq_zero hy
      have s63 := fun H n hL hLn => ac63e H n 0 c.q hL hLn (by omega)
      have tE := And.intro (@upd_upd AV) <| And.intro (@upd_upd (Option Blk)) <| And.intro Cf.cells.eq_1 <| And.intro e1 <| And.intro ho <| And.intro ty3 <| And.intro ty4 <| And.intro ty5 <| And.intro ty23 <| And.intro ty25 <| And.intro ty55 <| And.intro ty56 <| And.intro ty58 <| And.intro ty106 <| Try.results29; repeat' first | ((with_reducible first | apply w_seq | apply w_region | apply wl_nil | apply wr_nil | apply wr_nilA | apply wr_nilE | apply go_normal | apply go_ret | apply go_exit | apply blk_normal | apply blk_ret | apply blk_here | apply w_block | apply w_skip | apply w_exit | apply w_label)) | ((with_reducible apply l_box (d := 21)); exact zV; exact zU; decide) | ((with_reducible apply w_live (lvAt [[0, 1, 2], [1, 2, 3], [], [1, 2, 3], [2, 3, 8], [], [8]])); (focus (simp only [lvAt_zero, lvAt_succ]; rfl)); exact zLv) | ((with_reducible first | apply wz (tok Try.prog) | apply wr_z (tok Try.prog)); exact zZ; decide) | ((with_reducible first | apply wzg (tok Try.prog) | apply wr_zg (tok Try.prog)); exact zU; exact zL; exact zU; exact zZ; decide) | ((with_reducible first | apply wcall' | apply wr_call); exact zV; exact zVs; exact zAs; (focus (with_unfolding_all first | exact pf33 c [] (by simp) | exact pf62 c [] (by simp) | exact pf43_nilE)); decide) | ((with_reducible first | apply wcallg' | apply wr_callg); exact zU; exact zL; exact zU; exact zV; exact zVs; exact zAs; (focus (with_unfolding_all first | exact pf33 c [] (by simp) | exact pf62 c [] (by simp) | exact pf43_nilE)); decide) | ((with_reducible first | apply m_calle); exact zU; exact zV; exact zVs; exact zAs; (focus (first | exact ⟨_, Try.func63, rfl, rfl⟩)); (focus (with_unfolding_all first | exact s63 _ _ rfl (by decide))); decide) | ((with_reducible first | apply w_iff'); exact zV; exact zU) | ((with_reducible first | apply fm_nil | apply fm_cons)) | ((with_reducible apply m_next); exact zU) | ((with_reducible apply m_nil0); exact zU) | ((with_reducible first | apply m_v (tok Try.prog)); exact zU; exact zZ; decide) | ((with_reducible first | apply m_call); exact zU; exact zV; exact zVs; exact zAs; (focus (with_unfolding_all first | exact pf33 c [] (by simp) | exact pf62 c [] (by simp) | exact pf43_nilE)); decide) | ((with_reducible apply w_drawN (id := 4) [5] [([5], [0, 1, 2, 3, 4, 5, 6])] mixed); (focus (decide +kernel))) | ((with_reducible apply w_ret); (repeat (with_reducible first | apply go_ret | apply blk_ret)); (with_reducible first | apply donef_ret (tok Try.prog) | apply doneA_ret (tok Try.prog)); exact zT; exact zD) | fail
      all_goals try clear tE
      exact ⟨_, _, rfl, zt_own _ _ 0, rfl⟩
    · obtain rfl := List.eq_nil_of_length_eq_zero hz
      obtain ⟨T, mm, n0, hn0, hT0, hTo, hTt, t43⟩ := ac43x m hy (by omega) hdm
      have hT1 := hT0 (0 + 1)
      have hO := hTo (0 + 1)
      obtain ⟨Hm, hHm⟩ : ∃ X, X = (shH (0 + 1) T).or (upd (hl []) 0 (some (.cells [.empty] 106))) := ⟨_, rfl⟩
      have hm1 : Hm 1 = some (.cells (oUs m (mm.map (sh (0 + 1)))).flatten 58) := by rw [hHm]; simp only [Heap.or]; rw [show (1 : Nat) = 0 + 1 from rfl, hT1]
      have hm0 : Hm 0 = some (.cells [.empty] 106) := by rw [hHm, or_old (by omega)]; rfl
      have hfl := oUFlat_len hO.1
      have s63 := ac63B Hm (0 + 1 + n0) 0 m.length 1 (oUs m (mm.map (sh (0 + 1)))).flatten c.q hm0 (by omega) ⟨rfl, rfl, _, _, hm1, by omega, by rw [List.drop_zero, List.take_of_length_le (by omega)]⟩ hy hm (by omega) (by simpa using hroom)
      rw [hHm] at s63
      have tE := And.intro (@upd_upd AV) <| And.intro (@upd_upd (Option Blk)) <| And.intro Cf.cells.eq_1 <| And.intro e1 <| And.intro ho <| And.intro ty3 <| And.intro ty4 <| And.intro ty5 <| And.intro ty23 <| And.intro ty25 <| And.intro ty55 <| And.intro ty56 <| And.intro ty58 <| And.intro ty106 <| Try.results29; repeat' first | ((with_reducible first | apply w_seq | apply w_region | apply wl_nil | apply wr_nil | apply wr_nilA | apply wr_nilE | apply go_normal | apply go_ret | apply go_exit | apply blk_normal | apply blk_ret | apply blk_here | apply w_block | apply w_skip | apply w_exit | apply w_label)) | ((with_reducible apply l_box (d := 21)); exact zV; exact zU; decide) | ((with_reducible apply w_live (lvAt [[0, 1, 2], [1, 2, 3], [], [1, 2, 3], [2, 3, 8], [], [8]])); (focus (simp only [lvAt_zero, lvAt_succ]; rfl)); exact zLv) | ((with_reducible first | apply wz (tok Try.prog) | apply wr_z (tok Try.prog)); exact zZ; decide) | ((with_reducible first | apply wzg (tok Try.prog) | apply wr_zg (tok Try.prog)); exact zU; exact zL; exact zU; exact zZ; decide) | ((with_reducible first | apply wcall' | apply wr_call); exact zV; exact zVs; exact zAs; (focus (with_unfolding_all first | exact pf33 c [] (by simp) | exact pf62 c m (by omega) | exact pf43_nilE)); decide) | ((with_reducible first | apply wcallg' | apply wr_callg); exact zU; exact zL; exact zU; exact zV; exact zVs; exact zAs; (focus (with_unfolding_all first | exact pf33 c [] (by simp) | exact pf62 c m (by omega) | exact pf43_nilE)); decide) | ((with_reducible first | apply m_calle); exact zU; exact zV; exact zVs; exact zAs; (focus (first | exact ⟨_, Try.func43, rfl, rfl⟩ | exact ⟨_, Try.func63, rfl, rfl⟩)); (focus (with_unfolding_all first | exact t43 _ _ | exact s63)); decide) | ((with_reducible first | apply w_iff'); exact zV; exact zU) | ((with_reducible first | apply fm_nil | apply fm_cons)) | ((with_reducible apply m_next); exact zU) | ((with_reducible apply m_nil0); exact zU) | ((with_reducible first | apply m_v (tok Try.prog)); exact zU; exact zZ; decide) | ((with_reducible apply w_drawN (id := 4) [4, 5] [([4, 5], [3, 4, 0, 1, 2, 5, 6])] mixed); (focus (decide +kernel))) | ((with_reducible apply w_ret); (repeat (with_reducible first | apply go_ret | apply blk_ret)); (with_reducible first | apply donef_ret (tok Try.prog) | apply doneA_ret (tok Try.prog)); exact zT; exact zD) | fail
      all_goals try clear tE
      have hN : (0 + 1 + n0) ≠ 0 := by omega
      have hres : Own (upd (upd ((shH (0 + 1) T).or (upd (hl []) 0 (some (Blk.cells [AV.empty] 106)))) (0 + 1 + n0) (some (Blk.cells (oUs m (List.map (sh (0 + 1)) mm)).flatten 58))) 0 (some (Blk.cells [AV.slice (0 + 1 + n0) 0 m.length none 4] 106))) (fun _ => True) (.slice (1 + n0) 0 m.length none 4) (.view (unRows m)) := by
        have hO2 : OwnUs (upd (upd ((shH (0 + 1) T).or (upd (hl []) 0 (some (Blk.cells [AV.empty] 106)))) (0 + 1 + n0) (some (Blk.cells (oUs m (List.map (sh (0 + 1)) mm)).flatten 58))) 0 (some (Blk.cells [AV.slice (0 + 1 + n0) 0 m.length none 4] 106))) (fun _ => True) m (mm.map (sh (0 + 1))) := hO.mv fun id b hid hb => by
          have hid : 0 + 1 + 1 ≤ id := hid
          have hlt : id < 0 + 1 + n0 := lt_top (hTt (0 + 1)) hb
          exact ⟨trivial, by rw [upd_ne _ _ (by omega), upd_ne _ _ (by omega)]; simp only [Heap.or, hb]⟩
        refine hO2.list (id := 1 + n0) trivial ?_ rfl
        rw [upd_ne _ _ (by omega), show 1 + n0 = 0 + 1 + n0 by omega, upd_same]
      exact ⟨_, _, rfl, OwnL.tuple (.cons hres (.cons (.int _ _) .nil)), rfl⟩
  · obtain ⟨Tq, mq, nq, hnq, hTq0, hTqo, hTqt, t43q⟩ := ac43x q hz (by omega) hdq
    have tE := And.intro (@upd_upd AV) <| And.intro (@upd_upd (Option Blk)) <| And.intro Cf.cells.eq_1 <| And.intro e1 <| And.intro ho <| And.intro ty3 <| And.intro ty4 <| And.intro ty5 <| And.intro ty23 <| And.intro ty25 <| And.intro ty55 <| And.intro ty56 <| And.intro ty58 <| And.intro ty106 <| Try.results29; repeat' first | ((with_reducible first | apply w_seq | apply w_region | apply wl_nil | apply wr_nil | apply wr_nilA | apply wr_nilE | apply go_normal | apply go_ret | apply go_exit | apply blk_normal | apply blk_ret | apply blk_here | apply w_block | apply w_skip | apply w_exit | apply w_label)) | ((with_reducible first | apply wz (tok Try.prog) | apply wr_z (tok Try.prog)); exact zZ; decide) | ((with_reducible first | apply wzg (tok Try.prog) | apply wr_zg (tok Try.prog)); exact zU; exact zL; exact zU; exact zZ; decide) | ((with_reducible first | apply wcall' | apply wr_call); exact zV; exact zVs; exact zAs; (focus (with_unfolding_all first | exact pf33 c q (by omega) | exact pf62 c m (by omega))); decide) | ((with_reducible first | apply wcallg' | apply wr_callg); exact zU; exact zL; exact zU; exact zV; exact zVs; exact zAs; (focus (with_unfolding_all first | exact pf33 c q (by omega) | exact pf62 c m (by omega))); decide) | ((with_reducible first | apply w_iff'); exact zV; exact zU) | fail
    all_goals try clear tE
    (have tE := And.intro (@upd_upd AV) <| And.intro (@upd_upd (Option Blk)) <| Cf.cells.eq_1; (with_reducible apply wacall); exact zV; exact zVs; exact zAs; exact cal43; (focus (with_unfolding_all exact t43q _ _)); decide; clear tE)
    rintro r H1 k1 ⟨rfl, hH1, hk1⟩
    have hk1 : k1 = 0 + nq := hk1
    have b1 : H1 0 = some (.cells (oUs q (mq.map (sh 0))).flatten 58) := by rw [hH1]; simp only [Heap.or, hTq0 0]
    have hO1 : OwnUs H1 (fun id => 1 ≤ id) q (mq.map (sh 0)) := (hTqo 0).mv fun id b hid hb => ⟨by have hid : 0 + 1 ≤ id := hid; omega, by rw [hH1]; simp only [Heap.or, hb]⟩
    have htop1 : ∀ id, k1 ≤ id → H1 id = none := fun id hid => by
      rw [hH1]
      simp only [Heap.or, hTqt 0 id (by omega)]
      rfl
    clear hH1
    have hfl1 := oUFlat_len hO1.1
    generalize mq.map (sh 0) = aq at b1 hO1 hfl1
    have hk10 : 1 ≤ k1 := by omega
    rcases Nat.eq_zero_or_pos m.length with hy | hy
    · obtain rfl := List.eq_nil_of_length_eq_zero hy
      have hb0 : upd H1 k1 (some (.cells [.slice 0 0 q.length none 4] 106)) 0 = some (.cells (oUs q aq).flatten 58) := by rw [upd_ne _ _ (by omega)]; exact b1
      have s63 := ac63A (upd H1 k1 (some (.cells [.slice 0 0 q.length none 4] 106))) (k1 + 1) k1 0 q.length 0 .empty (oUs q aq).flatten [] c.q (upd_same _ _ _) hb0 hfl1.symm (by omega) (by omega) ⟨rfl, rfl⟩ (by simp) (.inl ⟨rfl, rfl⟩) hq (by omega) (by omega) (by simpa using hroom)
      have tE := And.intro (@upd_upd AV) <| And.intro (@upd_upd (Option Blk)) <| And.intro Cf.cells.eq_1 <| And.intro e1 <| And.intro ho <| And.intro ty3 <| And.intro ty4 <| And.intro ty5 <| And.intro ty23 <| And.intro ty25 <| And.intro ty55 <| And.intro ty56 <| And.intro ty58 <| And.intro ty106 <| Try.results29; repeat' first | ((with_reducible first | apply w_seq | apply w_region | apply wl_nil | apply wr_nil | apply wr_nilA | apply wr_nilE | apply go_normal | apply go_ret | apply go_exit | apply blk_normal | apply blk_ret | apply blk_here | apply w_block | apply w_skip | apply w_exit | apply w_label)) | ((with_reducible apply l_box (d := 21)); exact zV; exact zU; decide) | ((with_reducible apply w_live (lvAt [[0, 1, 2], [1, 2, 3], [], [1, 2, 3], [2, 3, 8], [], [8]])); (focus (simp only [lvAt_zero, lvAt_succ]; rfl)); exact zLv) | ((with_reducible first | apply wz (tok Try.prog) | apply wr_z (tok Try.prog)); exact zZ; decide) | ((with_reducible first | apply m_calle); exact zU; exact zV; exact zVs; exact zAs; (focus (first | exact ⟨_, Try.func63, rfl, rfl⟩)); (focus (with_unfolding_all first | exact s63)); decide) | ((with_reducible first | apply w_iff'); exact zV; exact zU) | ((with_reducible first | apply fm_nil | apply fm_cons)) | ((with_reducible apply m_next); exact zU) | ((with_reducible apply m_nil0); exact zU) | ((with_reducible first | apply m_v (tok Try.prog)); exact zU; exact zZ; decide) | ((with_reducible first | apply m_call); exact zU; exact zV; exact zVs; exact zAs; (focus (with_unfolding_all first | exact pf62 c [] (by simp) | exact pf43_nilE)); decide) | ((with_reducible apply w_drawN (id := 4) [5] [([5], [0, 1, 2, 3, 4, 5, 6])] mixed); (focus (decide +kernel))) | ((with_reducible apply w_ret); (repeat (with_reducible first | apply go_ret | apply blk_ret)); (with_reducible first | apply donef_ret (tok Try.prog) | apply doneA_ret (tok Try.prog)); exact zT; exact zD) | fail
      all_goals try clear tE
      have hO2 : OwnUs (upd (upd (upd (upd H1 k1 (some (Blk.cells [AV.slice 0 0 q.length none 4] 106))) 0 none) (k1 + 1) (some (Blk.cells ((oUs q aq).flatten ++ []) 58))) k1 (some (Blk.cells [AV.slice (k1 + 1) 0 (q.length + 0) none 4] 106))) (fun _ => True) q aq := hO1.mv fun id b hid hb => by
        have hid : 1 ≤ id := hid
        have hlt : id < k1 := lt_top htop1 hb
        exact ⟨trivial, by rw [upd_ne _ _ (by omega), upd_ne _ _ (by omega), upd_ne _ _ (by omega), upd_ne _ _ (by omega)]; exact hb⟩
      refine ⟨_, _, rfl, OwnL.tuple (.cons (hO2.list (id := k1 + 1) trivial ?_ rfl) (.cons (.int _ _) .nil)), by rw [List.append_nil]⟩
      rw [upd_ne _ _ (by omega), upd_same, List.append_nil]
    · obtain ⟨T, mm, n0, hn0, hT0, hTo, hTt, t43⟩ := ac43x m hy (by omega) hdm
      have hT1 := hT0 (k1 + 1)
      have hO := hTo (k1 + 1)
      have hfl2 := oUFlat_len hO.1
      obtain ⟨Hm, hHm⟩ : ∃ X, X = (shH (k1 + 1) T).or (upd H1 k1 (some (.cells [.slice 0 0 q.length none 4] 106))) := ⟨_, rfl⟩
      have hm1 : Hm (k1 + 1) = some (.cells (oUs m (mm.map (sh (k1 + 1)))).flatten 58) := by rw [hHm]; simp only [Heap.or, hT1]
      have hmL : Hm k1 = some (.cells [.slice 0 0 q.length none 4] 106) := by rw [hHm, or_old (by omega), upd_same]
      have hmb : Hm 0 = some (.cells (oUs q aq).flatten 58) := by rw [hHm, or_old (by omega), upd_ne _ _ (by omega)]; exact b1
      have s63 := ac63A Hm (k1 + 1 + n0) k1 0 q.length m.length (.slice (k1 + 1) 0 m.length none 4) (oUs q aq).flatten (oUs m (mm.map (sh (k1 + 1)))).flatten c.q hmL hmb hfl1.symm (by omega) (by omega) ⟨rfl, rfl, _, _, hm1, by omega, by rw [List.drop_zero, List.take_of_length_le (by omega)]⟩ (oUs_scal hO) (.inr ⟨_, rfl⟩) hq hm (by omega) hroom
      rw [hHm] at s63
      have tE := And.intro (@upd_upd AV) <| And.intro (@upd_upd (Option Blk)) <| And.intro Cf.cells.eq_1 <| And.intro e1 <| And.intro ho <| And.intro ty3 <| And.intro ty4 <| And.intro ty5 <| And.intro ty23 <| And.intro ty25 <| And.intro ty55 <| And.intro ty56 <| And.intro ty58 <| And.intro ty106 <| Try.results29; repeat' first | ((with_reducible first | apply w_seq | apply w_region | apply wl_nil | apply wr_nil | apply wr_nilA | apply wr_nilE | apply go_normal | apply go_ret | apply go_exit | apply blk_normal | apply blk_ret | apply blk_here | apply w_block | apply w_skip | apply w_exit | apply w_label)) | ((with_reducible apply l_box (d := 21)); exact zV; exact zU; decide) | ((with_reducible apply w_live (lvAt [[0, 1, 2], [1, 2, 3], [], [1, 2, 3], [2, 3, 8], [], [8]])); (focus (simp only [lvAt_zero, lvAt_succ]; rfl)); exact zLv) | ((with_reducible first | apply wz (tok Try.prog) | apply wr_z (tok Try.prog)); exact zZ; decide) | ((with_reducible first | apply m_calle); exact zU; exact zV; exact zVs; exact zAs; (focus (first | exact ⟨_, Try.func43, rfl, rfl⟩ | exact ⟨_, Try.func63, rfl, rfl⟩)); (focus (with_unfolding_all first | exact t43 _ _ | exact s63)); decide) | ((with_reducible first | apply w_iff'); exact zV; exact zU) | ((with_reducible first | apply fm_nil | apply fm_cons)) | ((with_reducible apply m_next); exact zU) | ((with_reducible apply m_nil0); exact zU) | ((with_reducible first | apply m_v (tok Try.prog)); exact zU; exact zZ; decide) | ((with_reducible apply w_drawN (id := 4) [4, 5] [([4, 5], [3, 4, 0, 1, 2, 5, 6])] mixed); (focus (decide +kernel))) | ((with_reducible apply w_ret); (repeat (with_reducible first | apply go_ret | apply blk_ret)); (with_reducible first | apply donef_ret (tok Try.prog) | apply doneA_ret (tok Try.prog)); exact zT; exact zD) | fail
      all_goals try clear tE
      have hOq : OwnUs (upd (upd (upd ((shH (k1 + 1) T).or (upd H1 k1 (some (Blk.cells [AV.slice 0 0 q.length none 4] 106)))) 0 none) (k1 + 1 + n0) (some (Blk.cells ((oUs q aq).flatten ++ (oUs m (List.map (sh (k1 + 1)) mm)).flatten) 58))) k1 (some (Blk.cells [AV.slice (k1 + 1 + n0) 0 (q.length + m.length) none 4] 106))) (fun _ => True) q aq := hO1.mv fun id b hid hb => by
        have hid : 1 ≤ id := hid
        have hlt : id < k1 := lt_top htop1 hb
        exact ⟨trivial, by rw [upd_ne _ _ (by omega), upd_ne _ _ (by omega), upd_ne _ _ (by omega), or_old (by omega), upd_ne _ _ (by omega)]; exact hb⟩
      have hOm : OwnUs (upd (upd (upd ((shH (k1 + 1) T).or (upd H1 k1 (some (Blk.cells [AV.slice 0 0 q.length none 4] 106)))) 0 none) (k1 + 1 + n0) (some (Blk.cells ((oUs q aq).flatten ++ (oUs m (List.map (sh (k1 + 1)) mm)).flatten) 58))) k1 (some (Blk.cells [AV.slice (k1 + 1 + n0) 0 (q.length + m.length) none 4] 106))) (fun _ => True) m (mm.map (sh (k1 + 1))) := hO.mv fun id b hid hb => by
        have hid : k1 + 1 + 1 ≤ id := hid
        have hlt : id < k1 + 1 + n0 := lt_top (hTt (k1 + 1)) hb
        exact ⟨trivial, by rw [upd_ne _ _ (by omega), upd_ne _ _ (by omega), upd_ne _ _ (by omega)]; simp only [Heap.or, hb]⟩
      refine ⟨_, _, rfl, OwnL.tuple (.cons ((hOq.app hOm).list (id := k1 + 1 + n0) trivial ?_ (by rw [List.length_append])) (.cons (.int _ _) .nil)), rfl⟩
      rw [upd_ne _ _ (by omega), upd_same, oUs_app hO1.1]
theorem nf29 (c : Cf) (q m : List Un) (hq : q.length ≤ 1000) (hm : m.length ≤ 1000) (hdq : ∀ u, u ∈ q → u.d.length ≤ 1000000) (hdm : ∀ u, u ∈ m → u.d.length ≤ 1000000) : NF Try.prog 29 [.agg c.cells, .view (unRows q), .view (unRows m)] (fun r => r = .tuple [.view (unRows (putU c q m)), .int .i64 (putE c q m)]) := by
  cases h : put1 c q m with
  | false =>
    refine nf_of_0 cal29 (args_cll c q m) ((ac_pure (pf29_bad c q m hq hm h) _ _).mono ?_)
    rintro r H n ⟨rfl, rfl, x, rfl, _, rfl⟩
    exact ⟨_, _, rfl, zt_own _ _ 8, by simp [putU, putE, h]⟩
  | true =>
    by_cases hr : (q.length : Int) + m.length ≤ c.q
    · exact (nf29_ok c q m hq hm hdq hdm h hr).mono (fun x hx => by simp [hx, putU, putE, h, hr])
    · refine nf_of_0 cal29 (args_cll c q m) ((ac_pure (pf29_full c q m hq hm hdq hdm h hr) _ _).mono ?_)
      rintro r H n ⟨rfl, rfl, x, rfl, _, rfl⟩
      exact ⟨_, _, rfl, zt_own _ _ 230, by simp [putU, putE, h, hr]⟩
end Go.Proofs.Ytclldbeefbbdlaa
