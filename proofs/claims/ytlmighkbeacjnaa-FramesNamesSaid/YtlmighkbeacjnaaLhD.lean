/- One operation, run: that the machine does so. -/
import Derived.Test.YtlmighkbeacjnaaLhC
set_option linter.unusedSimpArgs false
set_option linter.unusedSectionVars false
namespace Go.Lg
open Go
set_option linter.unusedVariables false
section
variable {P : Program} {T : TT} (hT : TOK P T) {eq : TypeId → Bool} (heq : ∀ t, eq t = true → P.stoodInHeld t = false ∧ P.eqGuardType P.depth t = false) {N : Nat} {o : Oper} {tm : Nat → AV} {h : Heap} {n : Nat} {df : List Nat}
include hT in
theorem litA_sound {t : TypeId} {len : Nat} {parts : Array (Nat × Operand)} {ps : List (Nat × AV)} {r : AV × HC} (hop : o.op = .buildSlice t len parts) (hp : evp tm parts.toList = some ps) (e : litA T n t len ps = some r) :
    OpV P N o ⟨tm, h, n, df⟩ r.1 (r.2.h h n) (r.2.n n) := by
  unfold litA at e
  split at e
  · rename_i el ei hel
    obtain ⟨ti, ht, hd, he⟩ := elemOf_sound hel
    split at e
    · rename_i h1
      split at e
      · rename_i h2
        split at e
        · rename_i h3
          split at e
          · rename_i ys hy
            split at e
            · rename_i h4
              cases e
              exact opv_buildSlice hT (σ := ⟨tm, h, n, df⟩) hop ht hd he (Nat.le_of_ble_eq_true h1) (Nat.le_of_ble_eq_true h2) (Nat.eq_of_beq_eq_true h3) hp hy (Nat.eq_of_beq_eq_true h4)
            · cases e
          · cases e
        · cases e
      · cases e
    · cases e
  · cases e
include hT in
theorem storeA_sound {t : TypeId} {a v : Operand} {x y : AV} {r : AV × HC} (hop : o.op = .store t a v) (ha : evo tm a = some x) (hv : evo tm v = some y) (e : storeA T h t x y = some r) :
    OpV P N o ⟨tm, h, n, df⟩ r.1 (r.2.h h n) (r.2.n n) := by
  unfold storeA at e
  split at e
  · rename_i i ht
    split at e
    · split at e
      · rename_i cs el hH
        split at e
        · rename_i h1
          split at e
          · rename_i h2
            split at e
            · rename_i h3
              cases e
              exact opv_store hT (σ := ⟨tm, h, n, df⟩) hop ha hv hH ht (Nat.eq_of_beq_eq_true h1) (Nat.le_of_ble_eq_true h2) (fun c hc => List.all_eq_true.1 h3 c hc)
            · cases e
          · cases e
        · cases e
      · cases e
    · cases e
  · cases e
include hT in
theorem sliceA_sound {t : TypeId} {x : Operand} {lo hi mx : Option Operand} {a y : AV} {l h' m : Option Nat} (hop : o.op = .slice t x lo hi mx) (hx : evo tm x = some a) (hl : natO tm lo = some l) (hh : natO tm hi = some h') (hm : natO tm mx = some m)
    (e : sliceA T t a l h' m = some y) : OpV P N o ⟨tm, h, n, df⟩ y h n := by
  unfold sliceA at e
  split at e
  · rename_i el ei hel
    obtain ⟨ti, ht, hd, he⟩ := elemOf_sound hel
    split at e
    · split at e
      · split at e
        · rename_i h1
          split at e
          · rename_i h2
            split at e
            · rename_i h3
              cases e
              have hmx : mx = none := by
                cases mx with
                | none => rfl
                | some x => simp only [natO] at hm; split at hm <;> (try split at hm) <;> simp at hm
              subst hmx
              exact opv_slice_view hT (σ := ⟨tm, h, n, df⟩) hop hx (natO_isNat hl) (natO_isNat hh) ht hd he h1 h2 (fun r hr => by have := List.all_eq_true.1 h3 r hr; simpa using this)
            · cases e
          · cases e
        · cases e
      · cases e
    · split at e
      · rename_i h1
        split at e
        · rename_i h2
          split at e
          · rename_i h3
            split at e
            · cases e
              exact opv_slice_own hT (σ := ⟨tm, h, n, df⟩) (m := none) hop hx (natO_isNat hl) (natO_isNat hh) (natO_isNat hm) ht hd he h1 h2 (fun m' hm' => by cases hm') h3
            · split at e
              · rename_i h4
                split at e
                · rename_i h5
                  split at e
                  · rename_i h6
                    cases e
                    exact opv_slice_own hT (σ := ⟨tm, h, n, df⟩) (m := some _) hop hx (natO_isNat hl) (natO_isNat hh) (natO_isNat hm) ht hd he h1 h2 (fun m' hm' => by cases hm'; exact ⟨h4, h5, h6⟩) h3
                  · cases e
                · cases e
              · cases e
          · cases e
        · cases e
      · cases e
    · cases e
  · cases e
include hT heq in
theorem binA_sound {op : BinOp} {t yt : TypeId} {x y : Operand} {a b r : AV} (hop : o.op = .binOp op t x y yt) (hx : evo tm x = some a) (hy : evo tm y = some b) (e : binA eq T op t a b = some r) : OpV P N o ⟨tm, h, n, df⟩ r h n := by
  unfold binA at e
  split at e
  · split at e
    · rename_i he
      obtain ⟨h1, h2⟩ := heq _ he
      split at e
      · rename_i i ht
        split at e
        · rename_i fs hd
          split at e
          · split at e
            · rename_i r' hr
              cases e
              exact (pure_eql hT ht hd h1 h2 hx hy hr).2 N o tm h n df hop (fun _ _ => rfl)
            · cases e
          · split at e
            · rename_i r' hr
              cases e
              exact (pure_neq hT ht hd h1 h2 hx hy hr).2 N o tm h n df hop (fun _ _ => rfl)
            · cases e
          · cases e
        · cases e
      · cases e
    · cases e
  · exact pv_sound hT (σ := ⟨tm, h, n, df⟩) (by rw [hop]; simp only [pv, hx, hy, Option.bind_some]; exact e)
omit hT heq in
theorem nilI_run (hT : TOK P T) {t : TypeId} {i : TI} {ms : Array (String × TypeId)} (ht : T t = some i) (hd : i.desc = .interface ms) (w : World) : (∀ d, (Op.equalIn (d + 1) t .nilIface .nilIface).run P w = .ok true w) := by
  intro d
  have hu := r_und hT ht w
  rw [hd] at hu
  unfold Op.equalIn
  rw [run_bindv hu]
  rfl
include hT in
theorem nilA_sound {op : BinOp} {t yt : TypeId} {x : Operand} {c : Value} {a r : AV} (hop : o.op = .binOp op t x (.const c) yt) (hx : evo tm x = some a) (e : nilA T op t a c = some r) : OpV P N o ⟨tm, h, n, df⟩ r h n := by
  unfold nilA at e
  split at e
  · rename_i ti ht
    split at e
    · rename_i b hb
      split at e
      · cases e; exact (p_nil hT ht hx hb).2 N o tm h n df hop (fun _ _ => rfl)
      · cases e; exact (p_nnil hT ht hx hb).2 N o tm h n df hop (fun _ _ => rfl)
      · cases e
    · split at e
      · rename_i ms hd
        split at e
        · split at e
          · have key : ∀ K ac, SR K N (⟨tm, h, n, df⟩ : St) ac → ∀ v, (binOp op t .nilIface .nilIface).run P K.w = .ok v K.w → VR K r v → ∃ v, (execOp ac.eval o).run P K.w = .ok (.value v) K.w ∧ VR K r v := by
              intro K ac hs v hr hv
              have hvx := evo_sound hs.tr hx
              generalize hh : ac.eval x = u at hvx
              cases hvx
              refine ⟨v, ?_, hv⟩
              unfold execOp; rw [hop]
              refine run_v ?_
              have hg : (eqGuard op t x (.const .nilIface) .nilIface .nilIface).run P K.w = .ok () K.w := by
                unfold eqGuard
                cases op <;> simp [Sem.run_pure]
              have hc : ac.eval (.const .nilIface) = .nilIface := rfl
              rw [hh, hc, run_bindv hg]
              exact hr
            split at e
            · cases e
              exact opv_of fun K ac hs => key K ac hs (.bool true) (run_eqbin (nilI_run hT ht hd K.w) rfl) (.bool _)
            · cases e
              exact opv_of fun K ac hs => key K ac hs (.bool false) (run_nebin (b := true) (nilI_run hT ht hd K.w) rfl) (.bool _)
            · cases e
          · cases e
        · cases e
      · cases e
  · cases e
include hT in
theorem pvz_sound {x : AV} (e : pvz T tm h o.op = some x) : (∀ c, o.op ≠ .defer c) ∧ OpV P N o ⟨tm, h, n, df⟩ x h n := by
  rcases pvz_cases e with e | e
  · exact ⟨fun c hc => by rw [hc] at e; simp [pv] at e, pv_sound hT (σ := ⟨tm, h, n, df⟩) e⟩
  · exact ⟨fun c hc => by rw [hc] at e; simp [pvx] at e, pvx_sound hT (σ := ⟨tm, h, n, df⟩) e⟩
omit hT heq in
theorem isConst_sound {y : Operand} {c : Value} (h : isConst y = some c) : y = .const c := by
  unfold isConst at h
  split at h
  · cases h; rfl
  · cases h
include hT in
theorem mkSlA_sound {t : TypeId} {x y : Operand} {k1 k2 : IntKind} {l c : Int} {r : AV × HC} (hop : o.op = .makeSlice t x y) (hx : evo tm x = some (.int k1 l)) (hy : evo tm y = some (.int k2 c)) (e : mkSlA T n t l c = some r) : OpV P N o ⟨tm, h, n, df⟩ r.1 (r.2.h h n) (r.2.n n) := by
  unfold mkSlA at e
  split at e
  · rename_i el ei hel
    obtain ⟨ti, ht, hd, he⟩ := elemOf_sound hel
    split at e
    · rename_i h1
      split at e
      · rename_i h2
        split at e
        · rename_i h3
          split at e
          · rename_i h4
            cases e
            have e1 : ((l.toNat : Nat) : Int) = l := Int.toNat_of_nonneg h1
            have e2 : ((c.toNat : Nat) : Int) = c := Int.toNat_of_nonneg (Int.le_trans h1 h2)
            exact opv_makeSlice hT (σ := ⟨tm, h, n, df⟩) hop (by rw [e1]; exact hx) (by rw [e2]; exact hy) ht hd he (by omega) (Nat.le_of_ble_eq_true h3) (Nat.le_of_ble_eq_true h4)
          · cases e
        · cases e
      · cases e
    · cases e
  · cases e
omit hT heq in
theorem mapOf_sound {t : TypeId} {z : AV} (e : mapOf T t = some z) : ∃ ti kt et ki kd ei, T t = some ti ∧ ti.desc = .map kt et ∧ T kt = some ki ∧ ki.desc = .int kd ∧ T et = some ei ∧ zeroA ei = some z := by
  unfold mapOf at e
  split at e
  · rename_i ti ht
    split at e
    · rename_i kt et hd
      split at e
      · rename_i ki hk
        split at e
        · rename_i kd hkd
          split at e
          · rename_i ei he
            exact ⟨ti, kt, et, ki, kd, ei, ht, hd, hk, hkd, he, e⟩
          · cases e
        · cases e
      · cases e
    · cases e
  · cases e
include hT in
theorem lookA_sound {t : TypeId} {x ix : Operand} {ok : Bool} {a b r : AV} (hop : o.op = .lookup t x ix ok) (hx : evo tm x = some a) (hy : evo tm ix = some b) (e : lookA T h t a b ok = some r) : OpV P N o ⟨tm, h, n, df⟩ r h n := by
  unfold lookA at e
  split at e
  · split at e
    · rename_i es hH
      split at e
      · rename_i z hz
        obtain ⟨ti, kt, et, ki, kd, ei, ht, hd, hk, hkd, he, hz'⟩ := mapOf_sound hz
        split at e
        · rename_i r' hr
          cases e
          exact opv_lookup hT (σ := ⟨tm, h, n, df⟩) hop hx hy hH ht hd hk hkd he hz' hr
        · cases e
      · cases e
    · cases e
  · cases e
include hT in
theorem updA_sound {t : TypeId} {x ix y : Operand} {a b c : AV} {r : AV × HC} (hop : o.op = .mapUpdate t x ix y ∨ o.op = .insert t x ix y) (hx : evo tm x = some a) (hi : evo tm ix = some b) (hy : evo tm y = some c) (e : updA T h t a b c = some r) : OpV P N o ⟨tm, h, n, df⟩ r.1 (r.2.h h n) (r.2.n n) := by
  unfold updA at e
  split at e
  · split at e
    · rename_i es hH
      split at e
      · rename_i z hz
        obtain ⟨ti, kt, et, ki, kd, ei, ht, hd, hk, hkd, he, hz'⟩ := mapOf_sound hz
        split at e
        · rename_i r' hr
          cases e
          exact opv_mapUpdate hT (σ := ⟨tm, h, n, df⟩) hop hx hi hy hH ht hd hk hkd hr
        · cases e
      · cases e
    · cases e
  · cases e
include hT in
theorem bytA_sound {s d : TypeId} {x : Operand} {a r : AV} (hop : o.op = .convert s d x) (hx : evo tm x = some a) (e : bytA T h s d a = some r) : OpV P N o ⟨tm, h, n, df⟩ r h n := by
  unfold bytA at e
  split at e
  · rename_i el ei hel
    obtain ⟨ti, ht, hd, he⟩ := elemOf_sound hel
    split at e
    · rename_i hei
      split at e
      · rename_i di hdi
        split at e
        · rename_i hds
          split at e
          · rename_i hns
            split at e
            · rename_i k news hsrc
              split at e
              · rename_i bs hb
                cases e
                have hsr := srcA_sound hsrc
                rw [bytesOf_sound hb] at hsr
                exact opv_bytes hT (σ := ⟨tm, h, n, df⟩) hop ht hd he hei hdi hds hx (fun s hs => by rw [hs] at hns; cases hns) hsr
              · cases e
            · cases e
          · cases e
        · cases e
      · cases e
    · cases e
  · cases e
include hT heq in
theorem eop_opv {op : Op} {r : AV × HC} (e : eop eq T tm h n op = some r) : (∀ c, op ≠ .defer c) ∧ ∀ (o : Oper) (df : List Nat), o.op = op → OpV P N o ⟨tm, h, n, df⟩ r.1 (r.2.h h n) (r.2.n n) := by
  unfold eop at e
  split at e
  · split at e
    · rename_i i ht
      cases e
      exact ⟨fun c hc => (by cases hc), fun o df hop => opv_alloc hT (σ := ⟨tm, h, n, df⟩) hop ht⟩
    · cases e
  · split at e
    · rename_i y hy
      split at e
      · rename_i hk
        cases e
        exact ⟨fun c hc => (by cases hc), fun o df hop => opv_box (σ := ⟨tm, h, n, df⟩) hop hy hk⟩
      · cases e
    · cases e
  · split at e
    · rename_i x y hx hy
      exact ⟨fun c hc => (by cases hc), fun o df hop => storeA_sound hT hop hx hy e⟩
    · cases e
  · split at e
    · rename_i hp
      split at e
      · rename_i hl
        split at e
        · rename_i p hel
          cases e
          obtain ⟨el, ei⟩ := p
          obtain ⟨ti, ht, hd, he⟩ := elemOf_sound hel
          refine ⟨fun c hc => (by cases hc), fun o df hop => ?_⟩
          have := Nat.eq_of_beq_eq_true hl
          subst this
          have hpp : ∀ {parts : Array (Nat × Operand)}, parts.toList = [] → parts = #[] := fun {parts} hp => by cases parts; simp at hp; rw [hp]
          rw [hpp hp] at hop
          exact (p_bs0 (tm := tm) hT ht hd he).2 N o tm h n df hop (fun _ _ => rfl)
        · cases e
      · refine ⟨fun c hc => (by cases hc), fun o df hop => litA_sound hT hop (by rw [hp]; rfl) e⟩
    · rename_i p ps hp
      split at e
      · rename_i ps' hps
        refine ⟨fun c hc => (by cases hc), fun o df hop => litA_sound hT hop (by rw [hp]; exact hps) e⟩
      · cases e
  · split at e
    · rename_i x l h' m h1 h2 h3 h4
      obtain ⟨e1, e2⟩ := sameH_sound e
      refine ⟨fun c hc => (by cases hc), fun o df hop => ?_⟩
      rw [e2]
      exact sliceA_sound hT hop h1 h2 h3 h4 e1
    · cases e
  · split at e
    · rename_i x z hx hz
      exact ⟨fun c hc => (by cases hc), fun o df hop => appA_sound hT hop hx hz e⟩
    · cases e
  · split at e
    · rename_i a b hx hy
      split at e
      · rename_i r' hr
        cases e
        exact ⟨fun c hc => (by cases hc), fun o df hop => binA_sound hT heq hop hx hy hr⟩
      · split at e
        · rename_i c hc
          obtain ⟨e1, e2⟩ := sameH_sound e
          refine ⟨fun c hc => (by cases hc), fun o df hop => ?_⟩
          rw [e2]
          rw [isConst_sound hc] at hop
          exact nilA_sound hT hop hx e1
        · cases e
    · cases e
  · split at e
    · cases e
      exact ⟨fun c hc => (by cases hc), fun o df hop => opv_makeMap (σ := ⟨tm, h, n, df⟩) hop⟩
    · cases e
  · split at e
    · rename_i hx hy
      exact ⟨fun c hc => (by cases hc), fun o df hop => mkSlA_sound hT hop hx hy e⟩
    · cases e
  · split at e
    · rename_i hx hy
      obtain ⟨e1, e2⟩ := sameH_sound e
      refine ⟨fun c hc => (by cases hc), fun o df hop => ?_⟩
      rw [e2]
      exact lookA_sound hT hop hx hy e1
    · cases e
  · split at e
    · rename_i h1 h2 h3
      exact ⟨fun c hc => (by cases hc), fun o df hop => updA_sound hT (.inl hop) h1 h2 h3 e⟩
    · cases e
  · split at e
    · rename_i h1 h2 h3
      exact ⟨fun c hc => (by cases hc), fun o df hop => updA_sound hT (.inr hop) h1 h2 h3 e⟩
    · cases e
  · split at e
    · rename_i a hx
      split at e
      · rename_i y hy
        cases e
        exact ⟨fun c hc => (by cases hc), fun o df hop => pv_sound hT (σ := ⟨tm, h, n, df⟩) (by rw [hop]; simp only [pv, hx, Option.bind_some]; exact hy)⟩
      · obtain ⟨e1, e2⟩ := sameH_sound e
        refine ⟨fun c hc => (by cases hc), fun o df hop => ?_⟩
        rw [e2]
        exact bytA_sound hT hop hx e1
    · cases e
  · split at e
    · rename_i a hx
      obtain ⟨e1, e2⟩ := sameH_sound e
      refine ⟨fun c hc => (by cases hc), fun o df hop => ?_⟩
      rw [e2]
      exact opv_typeAssert hT (σ := ⟨tm, h, n, df⟩) hop hx e1
    · cases e
  · split at e
    · rename_i k a k' b hx hy
      split at e
      · rename_i hk
        cases e
        subst hk
        exact ⟨fun c hc => (by cases hc), fun o df hop => (pure_max hx hy).2 N o tm h n df hop (fun _ _ => rfl)⟩
      · cases e
    · cases e
  · obtain ⟨e1, e2⟩ := sameH_sound e
    refine ⟨fun c hc => ?_, fun o df hop => ?_⟩
    · rw [hc] at e1; simp [pvz, pv, pvx] at e1
    · rw [e2]
      exact (pvz_sound hT (o := o) (by rw [hop]; exact e1)).2
end
theorem eop_congr {eq : TypeId → Bool} {T : TT} {tm tm' : Nat → AV} {h : Heap} {n : Nat} {op : Op} (ht : ∀ t, Operand.tmp t ∈ op.operands.toList → tm' t = tm t) : eop eq T tm' h n op = eop eq T tm h n op := by
  have hz : pvz T tm' h op = pvz T tm h op := by simp only [pvz, pv_congr ht, pvx_congr ht]
  unfold eop
  split
  · rfl
  · rename_i t x
    rw [evo_congr (x := x) fun t e => ht t (by simp [Op.operands, e])]
  · rename_i t a v
    rw [evo_congr (x := a) fun t e => ht t (by simp [Op.operands, e]), evo_congr (x := v) fun t e => ht t (by simp [Op.operands, e])]
  · rename_i t len parts
    split
    · rfl
    · rename_i p ps hp
      rw [evp_congr (l := p :: ps) fun t e => ht t (by simp only [Op.operands, hp]; exact e)]
  · rename_i t x lo hi mx
    rw [evo_congr (x := x) fun t e => ht t (by simp [Op.operands, e]), natO_congr (x := lo) fun t e => ht t (by subst e; simp [Op.operands]), natO_congr (x := hi) fun t e => ht t (by subst e; simp [Op.operands]), natO_congr (x := mx) fun t e => ht t (by subst e; simp [Op.operands])]
  · rename_i x z t t2
    rw [evo_congr (x := x) fun t e => ht t (by simp [Op.operands, Call.operands, e]), evo_congr (x := z) fun t e => ht t (by simp [Op.operands, Call.operands, e])]
  · rename_i op t x y yt
    rw [evo_congr (x := x) fun t e => ht t (by simp [Op.operands, e]), evo_congr (x := y) fun t e => ht t (by simp [Op.operands, e])]
  · rfl
  · rename_i t x y
    rw [evo_congr (x := x) fun t e => ht t (by simp [Op.operands, e]), evo_congr (x := y) fun t e => ht t (by simp [Op.operands, e])]
  · rename_i t x ix ok
    rw [evo_congr (x := x) fun t e => ht t (by simp [Op.operands, e]), evo_congr (x := ix) fun t e => ht t (by simp [Op.operands, e])]
  · rename_i t x ix y
    rw [evo_congr (x := x) fun t e => ht t (by simp [Op.operands, e]), evo_congr (x := ix) fun t e => ht t (by simp [Op.operands, e]), evo_congr (x := y) fun t e => ht t (by simp [Op.operands, e])]
  · rename_i t x ix y
    rw [evo_congr (x := x) fun t e => ht t (by simp [Op.operands, e]), evo_congr (x := ix) fun t e => ht t (by simp [Op.operands, e]), evo_congr (x := y) fun t e => ht t (by simp [Op.operands, e])]
  · rename_i s d x
    rw [evo_congr (x := x) fun t e => ht t (by simp [Op.operands, e])]
  · rename_i x xt t ok
    rw [evo_congr (x := x) fun t e => ht t (by simp [Op.operands, e])]
  · rename_i x y ats
    rw [evo_congr (x := x) fun t e => ht t (by simp [Op.operands, Call.operands, e]), evo_congr (x := y) fun t e => ht t (by simp [Op.operands, Call.operands, e])]
  · rw [hz]
theorem eop_chg {P : Program} {T : TT} (hT : TOK P T) {eq : TypeId → Bool} (heq : ∀ t, eq t = true → P.stoodInHeld t = false ∧ P.eqGuardType P.depth t = false) {N : Nat} {tm : Nat → AV} {h : Heap} {n : Nat} {op : Op} {r : AV × HC}
    (e : eop eq T tm h n op = some r) : Chg P N tm op h n r.1 (r.2.h h n) (r.2.n n) :=
  ⟨(eop_opv (P := P) (N := N) hT heq e).1, fun o tm' df hop hr => (eop_opv (N := N) hT heq ((eop_congr hr).trans e)).2 o df hop⟩
end Go.Lg
