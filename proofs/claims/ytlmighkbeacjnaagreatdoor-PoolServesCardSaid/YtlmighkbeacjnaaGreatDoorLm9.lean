/- The evaluator: that the machine does so. Regions and code. -/
import Derived.Test.YtlmighkbeacjnaaGreatDoorLm8

set_option linter.unusedSimpArgs false
set_option linter.unusedSectionVars false
namespace Go.Lg
open Go
variable [GO]
set_option linter.unusedVariables false
def Out (L : List O) : AEx → St → Prop := fun e σ => ∃ o, o ∈ L ∧ e = o.e ∧ σ = o.s.st
def COut (L : List CO) : AR → Heap → Nat → Prop := fun r h n => ∃ o, o ∈ L ∧ r = o.r ∧ h = hF o.h ∧ n = o.n
structure EnvOK (P : Program) (ev : Env) : Prop where
  hT : TOK P ev.T
  heq : EqOK P ev.eq
  hF : ∀ g fn, ev.F g = some fn → P.funcs[g]? = some fn ∧ (fn.name == "runtime.NumGoroutine") = false
  hsm : ∀ g args y, ev.sm g args = some y → PF P g args (fun r => r = y)
  hex : ∀ g args h n L, ev.ex g args h n = some L → Callable P g ∧ AC P g args (Go.Lg.hF h) n (COut L)
def AskOK (P : Program) (ask : Ask) : Prop := ∀ rq h n L, ask rq h n = some L → match rq with
  | .fn g args => Callable P g ∧ AC P g args (hF h) n (COut L)
  | .yd id args => YX P id args (hF h) n (COut L)
theorem bindL_mem {α β : Type} {f : α → Option (List β)} : ∀ {l : List α} {L : List β}, bindL l f = some L → ∀ a, a ∈ l → ∃ La, f a = some La ∧ ∀ b, b ∈ La → b ∈ L
  | [], _, _, a, ha => by cases ha
  | [x], L, h, a, ha => by
    rcases List.mem_singleton.1 ha with rfl
    exact ⟨L, h, fun _ hb => hb⟩
  | x :: y :: l, L, h, a, ha => by
    unfold bindL at h
    simp only at h
    cases hx : f x with
    | none => rw [hx] at h; simp at h
    | some X =>
      cases hy : bindL (y :: l) f with
      | none => rw [hx, hy] at h; simp at h
      | some Y =>
        rw [hx, hy] at h
        simp only [Option.some.injEq] at h
        subst h
        rcases List.mem_cons.1 ha with rfl | ha
        · exact ⟨X, hx, fun b hb => List.mem_append.2 (.inl hb)⟩
        · obtain ⟨La, h1, h2⟩ := bindL_mem hy a ha
          exact ⟨La, h1, fun b hb => List.mem_append.2 (.inr (h2 b hb))⟩
theorem gd_sound {all : List Oper} {o : Oper} {tm : Trie AV} {b : Bool} (h : gd all o.guard tm = some b) : unguarded all o (tmF tm) b := by
  unfold gd at h
  split at h
  · rename_i hg; cases h; exact ung_none hg
  · rename_i j want hg
    split at h
    · rename_i t ht
      split at h
      · rename_i c hc
        cases h
        exact ung_some hg ht hc
      · rename_i hc
        cases h
        exact ung_off (y := .tuple []) hg ht hc rfl
      · cases h
    · cases h
theorem putD_sound {β : Type} {N : Nat} {tm : Trie AV} {d : Option Tmp} {x : AV} {K : Trie AV → Option β} {r : β} (h : putD N tm d x K = some r) : (∀ t, d = some t → t < N) ∧ ∃ tm', tmF tm' = putT (tmF tm) d x ∧ K tm' = some r := by
  unfold putD at h
  split at h
  · exact ⟨fun t ht => (by cases ht), tm, rfl, h⟩
  · rename_i d
    split at h
    · rename_i hd
      rw [Trie.putK_put] at h
      exact ⟨fun t ht => (by cases ht; exact Nat.le_of_ble_eq_true hd), _, tmF_put _ _ _, h⟩
    · cases h
theorem callOf_sound {op : Op} {f : Operand} {as : List Operand} (h : callOf op = some (f, as)) : ∃ args ats, op = .call { callee := .value f, args := args, argTypes := ats } ∧ args.toList = as := by
  unfold callOf at h
  split at h
  · cases h; exact ⟨_, _, rfl, rfl⟩
  · cases h
theorem nilU_sound {T : TT} {tm : Nat → AV} {op : Op} (h : nilU T tm op = true) : ∃ bop t x yt a e ei, op = .binOp bop t x (.const (.slice none 0 0)) yt ∧ (bop = .eql ∨ bop = .neq) ∧ elemOf T t = some (e, ei) ∧ evo tm x = some a ∧ (a = .empty ∨ a = .view []) := by
  unfold nilU at h
  split at h
  · split at h
    · split at h
      · rename_i p hp
        split at h
        · rename_i hx; exact ⟨_, _, _, _, _, p.1, p.2, rfl, .inl rfl, hp, hx, .inl rfl⟩
        · rename_i hx; exact ⟨_, _, _, _, _, p.1, p.2, rfl, .inl rfl, hp, hx, .inr rfl⟩
        · cases h
      · cases h
    · split at h
      · rename_i p hp
        split at h
        · rename_i hx; exact ⟨_, _, _, _, _, p.1, p.2, rfl, .inr rfl, hp, hx, .inl rfl⟩
        · rename_i hx; exact ⟨_, _, _, _, _, p.1, p.2, rfl, .inr rfl, hp, hx, .inr rfl⟩
        · cases h
      · cases h
    · cases h
  · cases h
/-- A comparison with nil whose answer isn't known, wherever its answer goes. -/
theorem wl_nilO {P : Program} {T : TT} (hT : TOK P T) {B : Fb → Prop} {N m : Nat} {all rest : List Oper} {Q : AEx → St → Prop} {o : Oper} {bop : BinOp} {t yt : TypeId} {x : Operand} {a : AV} {e : TypeId} {ei : TI} {σ : St}
    (hop : o.op = .binOp bop t x (.const (.slice none 0 0)) yt) (hb : bop = .eql ∨ bop = .neq) (ht : elemOf T t = some (e, ei)) (hx : evo σ.tm x = some a) (ha : a = .empty ∨ a = .view []) (hu : unguarded all o σ.tm true) (hd : ∀ t, o.dst = some t → t < N)
    (h : ∀ b, WL P B N m all rest Q ⟨putT σ.tm o.dst (.bool b), σ.h, σ.n, σ.df⟩) : WL P B N m all (o :: rest) Q σ := by
  intro pre hpre K ac hm hs
  obtain ⟨ti, ht1, hd0, _⟩ := elemOf_sound ht
  have hv := evo_sound hs.tr hx
  obtain ⟨ad, l, c, hvs⟩ : ∃ ad l c, ac.eval x = .slice ad l c := by
    rcases ha with rfl | rfl
    · generalize ac.eval x = v at hv; cases hv; exact ⟨_, _, _, rfl⟩
    · obtain ⟨a, c, _, hv, _⟩ := view_cells hv; exact ⟨_, _, _, hv⟩
  have hun := r_und hT ht1 K.w
  rw [hd0] at hun
  have key : ∃ b, ∀ dd, (Op.equalIn (dd + 1) t (.slice ad l c) (.slice none 0 0)).run P K.w = .ok b K.w := by
    cases ad with
    | none => exact ⟨true, fun dd => by unfold Op.equalIn; rw [run_bindv hun]; rfl⟩
    | some q => exact ⟨false, fun dd => by unfold Op.equalIn; rw [run_bindv hun]; rfl⟩
  obtain ⟨b, hbb⟩ := key
  rw [range'_cons]
  refine mo_value (at_pre hpre) (wanted_of hs.tr hu) (fun c h => by rw [hop] at h; cases h) (w' := K.w) (v := .bool (if bop = .eql then b else !b)) (.inl ?_) ?_
  · unfold execOp
    rw [hop]
    refine run_v ?_
    rw [run_bindv (guard_int P _ t _ _ _ _ K.w (by rw [hvs]; simp) (.inl (by rw [hvs]; simp)))]
    rw [hvs]
    rcases hb with rfl | rfl
    · exact run_eqbin hbb rfl
    · exact run_nebin hbb rfl
  · have hs' : SR K N ⟨putT σ.tm o.dst (.bool (if bop = .eql then b else !b)), σ.h, σ.n, σ.df⟩ (ac.put o.dst (.bool (if bop = .eql then b else !b))) := ⟨hs.next, hs.rel, hs.tr.put hd (.bool _), by rw [put_defers]; exact hs.dr⟩
    exact h _ (pre ++ [_]) (by simp [hpre]) K _ hm hs'
section
variable {P : Program} {ev : Env} (hv : EnvOK P ev) {ask : Ask} (ha : AskOK P ask) {B : Fb → Prop} {N m : Nat}
include hv ha
theorem evL_sound {all : List Oper} : ∀ (rest : List Oper) (s : S) (L : List O), evL ev ask N all rest s = some L → WL P B N m all rest (Out L) s.st := by
  intro rest
  induction rest with
  | nil =>
    intro s L h
    cases h
    exact wl_nil ⟨_, List.mem_singleton.2 rfl, rfl, rfl⟩
  | cons o rest ih =>
    intro s L h
    replace h : (match gd all o.guard s.tm with
    | none => none
    | some false => putD N s.tm o.dst (.tuple []) fun tm => evL ev ask N all rest ⟨tm, s.h, s.n, s.df⟩
    | some true => match callOf o.op with
      | some (f, as) => if dOk N o.dst = true then match evCall ask (tmF s.tm) f as s.h s.n with
        | some L => bindL L fun co => match co.r with
          | .ret x => putD N s.tm o.dst x fun tm => evL ev ask N all rest ⟨tm, co.h, co.n, s.df⟩
          | .panic x => some [⟨.panic x, ⟨s.tm, co.h, co.n, s.df⟩⟩]
        | none => none
        else none
      | none => match nilU ev.T (tmF s.tm) o.op with
        | true => match putD N s.tm o.dst (.bool true) fun tm => evL ev ask N all rest ⟨tm, s.h, s.n, s.df⟩ with
          | some x => match putD N s.tm o.dst (.bool false) fun tm => evL ev ask N all rest ⟨tm, s.h, s.n, s.df⟩ with
            | some y => some (x ++ y)
            | none => none
          | none => none
        | false => match eop ev.eq ev.T (tmF s.tm) (hF s.h) s.n o.op with
          | some r => fAV 9 r.1 fun x => r.2.tK s.h s.n fun h n => putD N s.tm o.dst x fun tm => evL ev ask N all rest ⟨tm, h, n, s.df⟩
          | none => match o.op with
            | .panic x => match evo (tmF s.tm) x with
              | some (.iface t y) => some [⟨.panic (.iface t y), s⟩]
              | _ => none
            | _ => none) = some L := h
    cases hg : gd all o.guard s.tm with
    | none => rw [hg] at h; cases h
    | some b =>
      have hu := gd_sound hg
      rw [hg] at h
      cases b with
      | false =>
        obtain ⟨hd, tm', h1, h2⟩ := putD_sound h
        refine wl_skip (σ := s.st) hu hd ?_
        have := ih _ _ h2
        simp only [S.st, h1] at this ⊢
        exact this
      | true =>
        simp only at h
        cases hc : callOf o.op with
        | some p =>
          obtain ⟨f, as⟩ := p
          rw [hc] at h
          simp only at h
          obtain ⟨args, ats, hop, has⟩ := callOf_sound hc
          split at h
          rotate_left
          · cases h
          rename_i hdk
          have hd := dOk_sound hdk
          cases hcall : evCall ask (tmF s.tm) f as s.h s.n with
          | none => rw [hcall] at h; cases h
          | some LC =>
            rw [hcall] at h
            simp only at h
            have next : ∀ (co : CO), co ∈ LC → match co.r with
                | .ret x => (∀ t, o.dst = some t → t < N) ∧ WL P B N m all rest (Out L) ⟨putT (tmF s.tm) o.dst x, hF co.h, co.n, s.df⟩
                | .panic x => Out L (.panic x) ⟨tmF s.tm, hF co.h, co.n, s.df⟩ := by
              intro co hco
              obtain ⟨La, h1, h2⟩ := bindL_mem h co hco
              cases hr : co.r with
              | ret x =>
                rw [hr] at h1
                obtain ⟨hd, tm', h3, h4⟩ := putD_sound h1
                refine ⟨hd, ?_⟩
                have := ih _ _ h4
                simp only [S.st, h3] at this
                exact this.mono fun e σ ⟨o, ho, h5, h6⟩ => ⟨o, h2 o ho, h5, h6⟩
              | panic x =>
                rw [hr] at h1
                cases h1
                exact ⟨_, h2 _ (List.mem_singleton.2 rfl), rfl, rfl⟩
            unfold evCall at hcall
            split at hcall
            · rename_i g first cap hf
              split at hcall
              · rename_i xs hxs
                obtain ⟨hcal, hac⟩ := ha _ _ _ _ hcall
                refine wl_callR (tm := tmF s.tm) (hp := hF s.h) (n := s.n) (df := s.df) hop hu hd hf (by rw [has]; exact hxs) rfl hcal hac ?_
                rintro r h' n' ⟨co, hco, rfl, rfl, rfl⟩
                have := next co hco
                cases hr : co.r with
                | ret x => rw [hr] at this; exact this.2
                | panic x => rw [hr] at this; exact this
              · cases hcall
            · rename_i id hf
              split at hcall
              · rename_i xs hxs
                have hyc := ha _ _ _ _ hcall
                refine wl_yieldX (σ := s.st) hop hf (by rw [has]; exact hxs) hyc hu hd ?_
                rintro r h' n' ⟨co, hco, rfl, rfl, rfl⟩
                have := next co hco
                cases hr : co.r with
                | ret x => rw [hr] at this; exact this.2
                | panic x => rw [hr] at this; exact this
              · cases hcall
            · cases hcall
        | none =>
          rw [hc] at h
          simp only at h
          cases hn : nilU ev.T (tmF s.tm) o.op with
          | true =>
            rw [hn] at h
            simp only at h
            obtain ⟨bop, t, x, yt, a, e, ei, hop, hb, ht, hx, hae⟩ := nilU_sound hn
            cases h1 : putD N s.tm o.dst (.bool true) fun tm => evL ev ask N all rest ⟨tm, s.h, s.n, s.df⟩ with
            | none => rw [h1] at h; cases h
            | some X =>
              rw [h1] at h
              simp only at h
              cases h2 : putD N s.tm o.dst (.bool false) fun tm => evL ev ask N all rest ⟨tm, s.h, s.n, s.df⟩ with
              | none => rw [h2] at h; cases h
              | some Y =>
                rw [h2] at h
                cases h
                obtain ⟨hd, tm1, e1, e2⟩ := putD_sound h1
                obtain ⟨_, tm2, e3, e4⟩ := putD_sound h2
                refine wl_nilO hv.hT hop hb ht hx hae hu hd fun b => ?_
                cases b with
                | true =>
                  have := ih _ _ e2
                  simp only [S.st, e1] at this
                  exact this.mono fun e σ ⟨o, ho, h5, h6⟩ => ⟨o, List.mem_append.2 (.inl ho), h5, h6⟩
                | false =>
                  have := ih _ _ e4
                  simp only [S.st, e3] at this
                  exact this.mono fun e σ ⟨o, ho, h5, h6⟩ => ⟨o, List.mem_append.2 (.inr ho), h5, h6⟩
          | false =>
            rw [hn] at h
            simp only at h
            cases he : eop ev.eq ev.T (tmF s.tm) (hF s.h) s.n o.op with
            | some r =>
              rw [he] at h
              simp only [fAV_eq, HC.tK_eq] at h
              obtain ⟨hd, tm', h1, h2⟩ := putD_sound h
              obtain ⟨hdf, hopv⟩ := eop_opv (N := N) hv.hT hv.heq he
              refine wl_op (σ := s.st) hu hd hdf (hopv o s.df rfl) ?_
              have := ih _ _ h2
              simp only [S.st, h1, HC.t_eq] at this
              exact this
            | none =>
              rw [he] at h
              simp only at h
              split at h
              · rename_i x hop
                split at h
                · rename_i t y hx
                  cases h
                  exact wl_panic (σ := s.st) hop hu hx ⟨_, List.mem_singleton.2 rfl, rfl, rfl⟩
                · cases h
              · cases h
end
end Go.Lg


