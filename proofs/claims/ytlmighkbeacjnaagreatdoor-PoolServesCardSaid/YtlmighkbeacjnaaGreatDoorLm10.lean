/- The evaluator: that the machine does so. Code, functions, rounds. -/
import Derived.Test.YtlmighkbeacjnaaGreatDoorLm9

set_option linter.unusedSimpArgs false
set_option linter.unusedSectionVars false
namespace Go.Lg
open Go
variable [GO]
set_option linter.unusedVariables false
def PB (rd : Bool) : Fb → Prop := match rd with
  | true => Round
  | false => Plain
section
variable {P : Program} {ev : Env} (hv : EnvOK P ev) {ask : Ask} (ha : AskOK P ask) {evD : Nat → List Oper → S → Option (List O)}
theorem loopN_sound {B : Fb → Prop} {N m : Nat} {c : Code} {body : S → Option (List O)} (hb : ∀ s L, body s = some L → W P B N m c (Out L) s.st) {f : Nat} {s : S} {L : List O} (h : loopN body f s = some L) : W P B N m (.loop c) (Out L) s.st := by
  refine w_loop (fun n σ => ∃ s' L', σ = s'.st ∧ loopN body n s' = some L' ∧ ∀ o, o ∈ L' → o ∈ L) f ⟨s, L, rfl, h, fun _ ho => ho⟩ ?_
  rintro n σ ⟨s', L', rfl, h', hsub⟩
  cases n with
  | zero => cases h'
  | succ n =>
    replace h' : (match body s' with
      | some L => bindL L fun o => match o.e with
        | .normal => loopN body n o.s
        | _ => some [o]
      | none => none) = some L' := h'
    cases hbody : body s' with
    | none => rw [hbody] at h'; cases h'
    | some Lb =>
      rw [hbody] at h'
      simp only at h'
      refine (hb _ _ hbody).mono ?_
      rintro e σ' ⟨o, ho, rfl, rfl⟩
      obtain ⟨La, h1, h2⟩ := bindL_mem h' o ho
      cases he : o.e with
      | normal => rw [he] at h1; exact ⟨n, Nat.lt_succ_self n, o.s, La, rfl, h1, fun b hb => hsub b (h2 b hb)⟩
      | exit i => rw [he] at h1; cases h1; exact ⟨o, hsub _ (h2 _ (List.mem_singleton.2 rfl)), he.symm, rfl⟩
      | goto i => rw [he] at h1; cases h1; exact ⟨o, hsub _ (h2 _ (List.mem_singleton.2 rfl)), he.symm, rfl⟩
      | ret => rw [he] at h1; cases h1; exact ⟨o, hsub _ (h2 _ (List.mem_singleton.2 rfl)), he.symm, rfl⟩
      | panic x => rw [he] at h1; cases h1; exact ⟨o, hsub _ (h2 _ (List.mem_singleton.2 rfl)), he.symm, rfl⟩
theorem isRE_sound {c : Code} {e : AEx} (h : isRE c = some e) {B : Fb → Prop} {N m : Nat} {Q : AEx → St → Prop} {σ : St} (hq : Q e σ) : W P B N m c Q σ := by
  unfold isRE at h
  split at h
  · cases h; exact w_ret hq
  · cases h; exact w_exit hq
  · cases h
include ha
theorem evRange_sound {rd : Bool} {N m : Nat} {f : Operand} {ps : Array Tmp} {as bd : Code} {s : S} {L : List O} (h : evRange ask rd N f ps as bd s = some L) : W P (PB rd) N m (.rangeFunc f ps as bd) (Out L) s.st := by
  unfold evRange at h
  split at h
  · cases h
  · split at h
    · rename_i g first cap hf
      split at h
      · rename_i LC hask
        obtain ⟨hc, hac⟩ := ha _ _ _ _ hask
        simp only [hF_put, EB.toBlk] at hac
        refine w_rangeX (tm := tmF s.tm) (hp := hF s.h) (n := s.n) (df := s.df) hf hc hac ?_
        rintro r h' n' ⟨co, hco, rfl, rfl, rfl⟩
        obtain ⟨La, h1, h2⟩ := bindL_mem h co hco
        split at h1
        · rename_i x hr
          split at h1
          · rename_i g1 tm1 N1 ps1 as1 bd1 st pend hget
            have hblk : hF co.h (s.n + 1) = some (.loop ⟨tmF tm1, N1, ps1, as1, bd1, st, pend⟩) := by simp only [hF, hget, EB.toBlk]
            split at h1
            · cases h1
            · rename_i hst
              refine .inl ⟨x, _, hr, hblk, fun hh => hst hh, ?_⟩
              split at h1
              · cases h1
                simp only
                refine ⟨_, h2 _ (List.mem_singleton.2 rfl), rfl, ?_⟩
                simp only [S.st, hF_del]
              · rename_i c
                simp only
                split at h1
                · rename_i e he
                  cases h1
                  refine isRE_sound he ⟨_, h2 _ (List.mem_singleton.2 rfl), rfl, ?_⟩
                  simp only [S.st, hF_del]
                · cases h1
          · cases h1
        · rename_i x hr
          cases h1
          exact .inr ⟨x, hr, _, h2 _ (List.mem_singleton.2 rfl), rfl, rfl⟩
      · cases h
    · cases h
include hv
theorem evC_sound {rd : Bool} {N m : Nat} (hD : ∀ id (ops : Array Oper) s L, evD N ops.toList s = some L → W P (PB rd) N m (.region id ops true) (Out L) s.st) : ∀ (c : Code) (s : S) (L : List O), evC ev ask evD rd N c s = some L → W P (PB rd) N m c (Out L) s.st := by
  have one : ∀ {o : O} {L : List O}, some [o] = some L → o ∈ L := fun h => by cases h; exact List.mem_singleton.2 rfl
  intro c
  induction c with
  | skip => intro s L h; exact w_skip ⟨_, one h, rfl, rfl⟩
  | region id ops draw =>
    intro s L h
    cases draw with
    | false => exact w_region (evL_sound hv ha _ _ _ h)
    | true => exact hD id ops s L h
  | seq a b iha ihb =>
    intro s L h
    replace h : (match evC ev ask evD rd N a s with
      | some L => bindL L fun o => match o.e with
        | .normal => evC ev ask evD rd N b o.s
        | _ => some [o]
      | none => none) = some L := h
    cases ha' : evC ev ask evD rd N a s with
    | none => rw [ha'] at h; cases h
    | some La =>
      rw [ha'] at h
      refine w_seq ((iha _ _ ha').mono ?_)
      rintro e σ ⟨o, ho, rfl, rfl⟩
      obtain ⟨Lb, h1, h2⟩ := bindL_mem h o ho
      cases he : o.e with
      | normal =>
        rw [he] at h1
        exact (ihb _ _ h1).mono fun e σ ⟨o', ho', h3, h4⟩ => ⟨o', h2 _ ho', h3, h4⟩
      | exit i => rw [he] at h1; exact ⟨o, h2 _ (one h1), he.symm, rfl⟩
      | goto i => rw [he] at h1; exact ⟨o, h2 _ (one h1), he.symm, rfl⟩
      | ret => rw [he] at h1; exact ⟨o, h2 _ (one h1), he.symm, rfl⟩
      | panic x => rw [he] at h1; exact ⟨o, h2 _ (one h1), he.symm, rfl⟩
  | cond c a b iha ihb =>
    intro s L h
    replace h : (match evo (tmF s.tm) c with
      | some (.bool b') => match b' with
        | true => evC ev ask evD rd N a s
        | false => evC ev ask evD rd N b s
      | _ => none) = some L := h
    split at h
    · rename_i b' hc
      split at h
      · exact w_ift (tm := tmF s.tm) hc (iha _ _ h)
      · exact w_iff (tm := tmF s.tm) hc (ihb _ _ h)
    · cases h
  | block id c ih =>
    intro s L h
    replace h : (match evC ev ask evD rd N c s with
      | some L => bindL L fun o => match o.e with
        | .exit i => bif Nat.beq i id then some [⟨.normal, o.s⟩] else some [o]
        | _ => some [o]
      | none => none) = some L := h
    cases ha' : evC ev ask evD rd N c s with
    | none => rw [ha'] at h; cases h
    | some La =>
      rw [ha'] at h
      refine w_block ((ih _ _ ha').mono ?_)
      rintro e σ ⟨o, ho, rfl, rfl⟩
      obtain ⟨Lb, h1, h2⟩ := bindL_mem h o ho
      cases he : o.e with
      | exit i =>
        rw [he] at h1
        simp only [nbeq] at h1
        by_cases hi : i = id
        · subst hi
          simp only [decide_true, cond_true] at h1
          exact blk_here ⟨_, h2 _ (one h1), rfl, rfl⟩
        · simp only [hi, decide_false, cond_false] at h1
          exact blk_off hi ⟨o, h2 _ (one h1), he.symm, rfl⟩
      | normal => rw [he] at h1; exact blk_normal ⟨o, h2 _ (one h1), he.symm, rfl⟩
      | goto i => rw [he] at h1; exact blk_goto ⟨o, h2 _ (one h1), he.symm, rfl⟩
      | ret => rw [he] at h1; exact blk_ret ⟨o, h2 _ (one h1), he.symm, rfl⟩
      | panic x => rw [he] at h1; exact ⟨o, h2 _ (one h1), he.symm, rfl⟩
  | loop c ih => intro s L h; exact loopN_sound ih h
  | rangeFunc f ps as bd _ _ => intro s L h; exact evRange_sound ha h
  | exit id => intro s L h; exact w_exit ⟨_, one h, rfl, rfl⟩
  | scope c ih =>
    intro s L h
    replace h : (match evC ev ask evD rd N c s with
      | some L => bindL L fun o => match o.e with
        | .goto _ => none
        | _ => some [o]
      | none => none) = some L := h
    cases ha' : evC ev ask evD rd N c s with
    | none => rw [ha'] at h; cases h
    | some La =>
      rw [ha'] at h
      refine w_scope ((ih _ _ ha').mono ?_)
      rintro e σ ⟨o, ho, rfl, rfl⟩
      obtain ⟨Lb, h1, h2⟩ := bindL_mem h o ho
      cases he : o.e with
      | exit i => rw [he] at h1; exact ⟨o, h2 _ (one h1), he.symm, rfl⟩
      | normal => rw [he] at h1; exact ⟨o, h2 _ (one h1), he.symm, rfl⟩
      | goto i => rw [he] at h1; cases h1
      | ret => rw [he] at h1; exact ⟨o, h2 _ (one h1), he.symm, rfl⟩
      | panic x => rw [he] at h1; exact ⟨o, h2 _ (one h1), he.symm, rfl⟩
  | label l => intro s L h; exact w_label ⟨_, one h, rfl, rfl⟩
  | goto l => intro s L h; exact w_goto ⟨_, one h, rfl, rfl⟩
  | ret => intro s L h; exact w_ret ⟨_, one h, rfl, rfl⟩
  | refuse _ => intro s L h; cases h
end
theorem killT_sound : ∀ {df : List Nat} {h h' : Trie EB}, killT h df = some h' → Marks (hF h) df ∧ killAll (hF h) df = hF h'
  | [], h, h', e => by cases e; exact ⟨trivial, rfl⟩
  | id :: r, h, h', e => by
    unfold killT at e
    split at e
    · rename_i hg
      have := killT_sound e
      rw [hF_del] at this
      exact ⟨⟨by simp only [hF, hg, EB.toBlk], this.1⟩, this.2⟩
    · cases e
theorem setPT_eq : ∀ (l : List (Tmp × AV)) (tm : Trie AV), tmF (setPT tm l) = setPs (tmF tm) l
  | [], _ => rfl
  | (t, x) :: r, tm => by
    show tmF (setPT (tm.put t (some x)) r) = setPs (upd (tmF tm) t x) r
    rw [setPT_eq r, tmF_put]
theorem ofArgs_get : ∀ (xs : List AV) (i : Nat) (t : Trie AV) (j : Nat), tmF (ofArgs i xs t) j = if i ≤ j ∧ j < i + xs.length then xs.getD (j - i) (.tuple []) else tmF t j
  | [], i, t, j => by
    show tmF t j = _
    rw [if_neg (by simp only [List.length_nil]; omega)]
  | x :: xs, i, t, j => by
    show tmF (ofArgs (i + 1) xs (t.put i (some x))) j = _
    rw [ofArgs_get xs (i + 1), tmF_put]
    by_cases h : i + 1 ≤ j ∧ j < i + 1 + xs.length
    · rw [if_pos h, if_pos (by simp; omega)]
      obtain ⟨k, rfl⟩ : ∃ k, j = i + 1 + k := ⟨j - (i + 1), by omega⟩
      rw [show i + 1 + k - (i + 1) = k by omega, show i + 1 + k - i = k + 1 by omega]
      rfl
    · rw [if_neg h]
      by_cases e : j = i
      · subst e
        rw [upd_same, if_pos (by simp), Nat.sub_self]; rfl
      · rw [upd_ne _ _ e, if_neg (by simp; omega)]
theorem ofArgs_eq (xs : List AV) : tmF (ofArgs 0 xs .nil) = args0 xs := by
  funext j
  rw [ofArgs_get]
  by_cases h : j < xs.length
  · rw [if_pos (by omega)]; rfl
  · rw [if_neg (by omega)]
    simp only [args0]
    rw [List.getD_eq_getElem?_getD, List.getElem?_eq_none (by omega)]; rfl
section
variable {P : Program} {ev : Env} (hv : EnvOK P ev) {ask : Ask} (ha : AskOK P ask) {evD : Nat → List Oper → S → Option (List O)}
  (hD : ∀ rd N m id (ops : Array Oper) s L, evD N ops.toList s = some L → W P (PB rd) N m (.region id ops true) (Out L) s.st)
include hv ha hD
theorem finO_sound {fn : Func} {o : O} {L La : List CO} (h1 : finO ev fn o = some La) (h2 : ∀ c, c ∈ La → c ∈ L) : DoneX P fn (COut L) o.e o.s.st := by
  have fin : ∀ {h' : Trie EB} {xs : List AV}, killT o.s.h o.s.df = some h' → resA ev.T ⟨tmF o.s.tm, hF h', o.s.n, []⟩ fn.results.toList = some xs → (⟨.ret (tup xs), h', o.s.n⟩ : CO) ∈ L →
      Marks o.s.st.h o.s.st.df ∧ ∃ x, ResV P fn.ntmps fn ⟨o.s.st.tm, killAll o.s.st.h o.s.st.df, o.s.st.n, []⟩ x ∧ COut L (.ret x) (killAll o.s.st.h o.s.st.df) o.s.st.n := by
    intro h' xs hk hres hmem
    obtain ⟨k1, k2⟩ := killT_sound hk
    refine ⟨k1, tup xs, ?_, _, hmem, rfl, k2, rfl⟩
    show ResV P fn.ntmps fn ⟨tmF o.s.tm, killAll (hF o.s.h) o.s.df, o.s.n, []⟩ _
    rw [k2]
    exact resv_of hv.hT hres
  unfold finO at h1
  split at h1
  · rename_i he
    rw [he]
    split at h1
    · rename_i h' hk
      split at h1
      · rename_i xs hres
        rw [fAV_eq] at h1
        cases h1
        exact fin hk hres (h2 _ (List.mem_singleton.2 rfl))
      · cases h1
    · cases h1
  · rename_i he
    rw [he]
    split at h1
    · rename_i h' hk
      split at h1
      · rename_i xs hres
        rw [fAV_eq] at h1
        cases h1
        exact fin hk hres (h2 _ (List.mem_singleton.2 rfl))
      · cases h1
    · cases h1
  · rename_i x he
    rw [he]
    split at h1
    · rename_i h' hk
      cases h1
      obtain ⟨k1, k2⟩ := killT_sound hk
      exact ⟨k1, _, h2 _ (List.mem_singleton.2 rfl), rfl, k2, rfl⟩
    · cases h1
  · cases h1
omit hv ha hD in
theorem recD_sound {ops : List Oper} {d : Tmp} (h : recD ops = some d) : ∃ o, ops = [o] ∧ isRec o d := by
  unfold recD at h
  split at h
  · cases h; exact ⟨_, rfl, rfl, rfl, _, rfl⟩
  · cases h
theorem dc_sound {g : FuncId} {cap : List AV} {pv : Option AV} {h : Trie EB} {n : Nat} {fn : Func} {tm : Trie AV} {L La : List CO} (h1 : finC ev fn tm (evDC ev ask evD g cap pv h n) = some La) (h2 : ∀ c, c ∈ La → c ∈ L) :
    DC P g cap pv (hF h) n fun H n => ∃ x, ResV P fn.ntmps fn ⟨tmF tm, H, n, []⟩ x ∧ COut L (.ret x) H n := by
  unfold finC at h1
  split at h1
  · rename_i LO hev
    unfold evDC at hev
    split at hev
    · rename_i fg hfg
      obtain ⟨hp, hnm⟩ := hv.hF _ _ hfg
      split at hev
      · rename_i id ops rest hb
        split at hev
        · rename_i d hrec
          obtain ⟨o, ho, hiso⟩ := recD_sound hrec
          split at hev
          · rename_i hres
            split at hev
            · rename_i hN
              split at hev
              · rename_i hd
                have hops : ops = #[o] := by cases ops; simp at ho; rw [ho]
                have hr0 : fg.results = #[] := by cases hh : fg.results; rw [hh] at hres; simp at hres; rw [hres]
                refine dc_of_w hp hb hops hiso hr0 (Nat.le_of_ble_eq_true hN) (Nat.le_of_ble_eq_true hd) ?_
                have hw := evC_sound (rd := false) (m := n) hv ha (fun id ops s L => hD false fg.ntmps n id ops s L) rest _ _ hev
                simp only [S.st, tmF_put, ofArgs_eq] at hw
                refine hw.mono ?_
                rintro e σ ⟨o2, ho2, rfl, rfl⟩
                obtain ⟨Lb, h3, h4⟩ := bindL_mem h1 o2 ho2
                have key : ∀ {Lb' : Option (List CO)}, (match o2.s.df with
                    | [] => match resA ev.T ⟨tmF tm, hF o2.s.h, o2.s.n, []⟩ fn.results.toList with
                      | some xs => fAV 9 (tup xs) fun x => some [⟨.ret x, o2.s.h, o2.s.n⟩]
                      | none => none
                    | _ => none) = some Lb → o2.s.st.df = [] ∧ ∃ x, ResV P fn.ntmps fn ⟨tmF tm, o2.s.st.h, o2.s.st.n, []⟩ x ∧ COut L (.ret x) o2.s.st.h o2.s.st.n := by
                  intro _ h3
                  split at h3
                  · rename_i hdf
                    split at h3
                    · rename_i xs hxs
                      rw [fAV_eq] at h3
                      cases h3
                      exact ⟨hdf, tup xs, resv_of hv.hT hxs, _, h2 _ (h4 _ (List.mem_singleton.2 rfl)), rfl, rfl, rfl⟩
                    · cases h3
                  · cases h3
                split at h3
                · rename_i he; exact ⟨.inl he, key (Lb' := none) h3⟩
                · rename_i he; exact ⟨.inr he, key (Lb' := none) h3⟩
                · cases h3
              · cases hev
            · cases hev
          · cases hev
        · cases hev
      · cases hev
    · cases hev
  · cases h1
theorem finT_sound {fn : Func} {dc : Option (FuncId × List AV)} {o : O} {L La : List CO} (h1 : finT ev ask evD fn dc o = some La) (h2 : ∀ c, c ∈ La → c ∈ L) : match o.e with
    | .normal => FinR P fn (COut L) dc o.s.st
    | .ret => FinR P fn (COut L) dc o.s.st
    | .panic x => FinP P fn (COut L) dc x o.s.st
    | _ => False := by
  unfold finT at h1
  split at h1
  · have := finO_sound hv ha hD h1 h2
    cases he : o.e with
    | normal => rw [he] at this; exact this
    | ret => rw [he] at this; exact this
    | panic x => rw [he] at this; exact this
    | exit i => rw [he] at this; exact this.elim
    | goto i => rw [he] at this; exact this.elim
  · rename_i p
    obtain ⟨g, cap⟩ := p
    split at h1
    · rename_i he
      rw [he]
      split at h1
      · rename_i h' hk
        obtain ⟨k1, k2⟩ := killT_sound hk
        refine ⟨k1, ?_⟩
        show DC P g cap none (killAll (hF o.s.h) o.s.df) _ _
        rw [k2]
        exact dc_sound hv ha hD h1 h2
      · cases h1
    · rename_i he
      rw [he]
      split at h1
      · rename_i h' hk
        obtain ⟨k1, k2⟩ := killT_sound hk
        refine ⟨k1, ?_⟩
        show DC P g cap none (killAll (hF o.s.h) o.s.df) _ _
        rw [k2]
        exact dc_sound hv ha hD h1 h2
      · cases h1
    · rename_i x he
      rw [he]
      split at h1
      · rename_i h' hk
        obtain ⟨k1, k2⟩ := killT_sound hk
        refine ⟨k1, ?_⟩
        show DC P g cap (some x) (killAll (hF o.s.h) o.s.df) _ _
        rw [k2]
        exact dc_sound hv ha hD h1 h2
      · cases h1
    · cases h1
omit hv ha hD in
theorem evTR_cons {N : Nat} {all rest : List Oper} {o : Oper} {s : S} {dc : Option (FuncId × List AV)} {K : TK} : evTR ev N all (o :: rest) s dc K = (match gd all o.guard s.tm with
    | some true => match defOf o.op with
      | some fo => match dc with
        | none => match s.df with
          | [] => match evo (tmF s.tm) fo with
            | some (.func (.func g) [] cap) => match ev.F g with
              | some fg => match fg.body with
                | some _ => putD N s.tm o.dst (.tuple []) fun tm => evTR ev N all rest ⟨tm, s.h, s.n, []⟩ (some (g, cap)) K
                | none => none
              | none => none
            | _ => none
          | _ => none
        | _ => none
      | none => match eop ev.eq ev.T (tmF s.tm) (hF s.h) s.n o.op with
        | some r => fAV 9 r.1 fun x => r.2.tK s.h s.n fun h n => putD N s.tm o.dst x fun tm => evTR ev N all rest ⟨tm, h, n, s.df⟩ dc K
        | none => none
    | _ => none) := rfl
section
variable {f : FuncId} {fn : Func} (hf : P.funcs[f]? = some fn) {L : List CO}
include hf
theorem evP_sound {c : Code} {s : S} {dc : Option (FuncId × List AV)} {K : TK} {todo : List Item} {La : List CO} (hK : ∀ s' dc' L', K s' dc' = some L' → (∀ o, o ∈ L' → o ∈ L) → FT P f fn.ntmps (COut L) dc' todo s'.st)
    (h : evP ev ask evD fn c s dc K = some La) (h2 : ∀ o, o ∈ La → o ∈ L) : FT P f fn.ntmps (COut L) dc (.code c :: todo) s.st := by
  unfold evP at h
  split at h
  · rename_i LO hev
    refine ft_code hf ?_
    refine (evC_sound (rd := false) (m := s.n) hv ha (fun id ops s' L => hD false fn.ntmps s.n id ops s' L) c _ _ hev).mono ?_
    rintro e σ ⟨o, ho, rfl, rfl⟩
    obtain ⟨Lb, h3, h4⟩ := bindL_mem h o ho
    have h5 : ∀ c, c ∈ Lb → c ∈ L := fun c hc => h2 c (h4 c hc)
    cases he : o.e with
    | normal => rw [he] at h3; exact hK _ _ _ h3 h5
    | ret => rw [he] at h3; have := finT_sound hv ha hD h3 h5; rw [he] at this; exact this
    | panic x => rw [he] at h3; have := finT_sound hv ha hD h3 h5; rw [he] at this; exact this
    | exit i => rw [he] at h3; have := finT_sound hv ha hD h3 h5; rw [he] at this; exact this
    | goto i => rw [he] at h3; have := finT_sound hv ha hD h3 h5; rw [he] at this; exact this
  · cases h
theorem evTR_sound {all : List Oper} {todo : List Item} {K : TK} (hK : ∀ s' dc' L', K s' dc' = some L' → (∀ o, o ∈ L' → o ∈ L) → FT P f fn.ntmps (COut L) dc' todo s'.st) : ∀ (rest pre : List Oper) (s : S) (dc : Option (FuncId × List AV)) (La : List CO), all = pre ++ rest →
    evTR ev fn.ntmps all rest s dc K = some La → (∀ o, o ∈ La → o ∈ L) → FT P f fn.ntmps (COut L) dc (.inRegion all.toArray (List.range' pre.length rest.length) :: todo) s.st := by
  intro rest
  induction rest with
  | nil => intro pre s dc La _ h h2; exact ft_rnil (hK _ _ _ h h2)
  | cons o rest ih =>
    intro pre s dc La hall h h2
    rw [evTR_cons] at h
    rw [range'_cons pre rest o]
    have hat : all[pre.length]? = some o := by rw [hall]; simp
    have hall2 : all = (pre ++ [o]) ++ rest := by rw [hall]; simp
    split at h
    · rename_i hg
      have hu := gd_sound hg
      split at h
      · rename_i fo hdef
        split at h
        · split at h
          · rename_i hdf
            split at h
            · rename_i g cap hfo
              split at h
              · rename_i fg hfg
                split at h
                · rename_i cg hcg
                  obtain ⟨hp, hnm⟩ := hv.hF _ _ hfg
                  obtain ⟨hd, tm', h3, h4⟩ := putD_sound h
                  have hop : ∃ ats, o.op = .defer { callee := .value fo, args := #[], argTypes := ats } := by
                    unfold defOf at hdef
                    split at hdef
                    · rename_i hop; cases hdef; exact ⟨_, hop⟩
                    · cases hdef
                  obtain ⟨ats, hop⟩ := hop
                  refine ft_defer (σ := s.st) hat hop hu hd hfo hdf ⟨fg, hp, hnm, by rw [hcg]; rfl⟩ ?_
                  have := ih (pre ++ [o]) _ _ _ hall2 h4 h2
                  simp only [S.st, h3] at this
                  exact this
                · cases h
              · cases h
            · cases h
          · cases h
        · cases h
      · split at h
        · rename_i r he
          simp only [fAV_eq, HC.tK_eq] at h
          obtain ⟨hd, tm', h3, h4⟩ := putD_sound h
          obtain ⟨hdf, hopv⟩ := eop_opv (N := fn.ntmps) hv.hT hv.heq he
          refine ft_op (σ := s.st) hat hu hd hdf (hopv o s.df rfl) ?_
          have := ih (pre ++ [o]) _ _ _ hall2 h4 h2
          simp only [S.st, h3, HC.t_eq] at this
          exact this
        · cases h
    · cases h
theorem evT_sound : ∀ (c : Code) (s : S) (dc : Option (FuncId × List AV)) (K : TK) (todo : List Item) (La : List CO), (∀ s' dc' L', K s' dc' = some L' → (∀ o, o ∈ L' → o ∈ L) → FT P f fn.ntmps (COut L) dc' todo s'.st) →
    evT ev ask evD fn c s dc K = some La → (∀ o, o ∈ La → o ∈ L) → FT P f fn.ntmps (COut L) dc (.code c :: todo) s.st := by
  intro c
  induction c with
  | skip => intro s dc K todo La hK h h2; exact evP_sound hv ha hD hf hK h h2
  | region id ops draw =>
    intro s dc K todo La hK h h2
    cases draw with
    | true => exact evP_sound hv ha hD hf hK h h2
    | false =>
      replace h : (match ops.toList.any fun o => isDef o.op with
        | true => evTR ev fn.ntmps ops.toList ops.toList s dc K
        | false => evP ev ask evD fn (.region id ops false) s dc K) = some La := h
      split at h
      · have := evTR_sound hv ha hD hf hK ops.toList [] s dc La rfl h h2
        refine ft_region ?_
        have e1 : List.range ops.size = List.range' 0 ops.toList.length := by rw [Array.length_toList, List.range_eq_range']
        rw [e1]
        simpa using this
      · exact evP_sound hv ha hD hf hK h h2
  | seq x y ihx ihy =>
    intro s dc K todo La hK h h2
    exact ft_seq (ihx s dc _ (.code y :: todo) La (fun s' dc' L' hk hl => ihy s' dc' K todo L' hK hk hl) h h2)
  | cond c x y _ _ => intro s dc K todo La hK h h2; exact evP_sound hv ha hD hf hK h h2
  | block id c _ => intro s dc K todo La hK h h2; exact evP_sound hv ha hD hf hK h h2
  | loop c _ => intro s dc K todo La hK h h2; exact evP_sound hv ha hD hf hK h h2
  | rangeFunc f ps as bd _ _ => intro s dc K todo La hK h h2; exact evP_sound hv ha hD hf hK h h2
  | exit id => intro s dc K todo La hK h h2; exact evP_sound hv ha hD hf hK h h2
  | scope c _ => intro s dc K todo La hK h h2; exact evP_sound hv ha hD hf hK h h2
  | label l => intro s dc K todo La hK h h2; exact evP_sound hv ha hD hf hK h h2
  | goto l => intro s dc K todo La hK h h2; exact evP_sound hv ha hD hf hK h h2
  | ret => intro s dc K todo La hK h h2; exact evP_sound hv ha hD hf hK h h2
  | refuse w => intro s dc K todo La hK h h2; exact evP_sound hv ha hD hf hK h h2
end
theorem evF_sound {g : FuncId} {args : List AV} {h : Trie EB} {n : Nat} {L : List CO} (e : evF ev ask evD g args h n = some L) : Callable P g ∧ AC P g args (hF h) n (COut L) := by
  unfold evF at e
  split at e
  · rename_i L' hL'
    cases e
    exact hv.hex _ _ _ _ _ hL'
  split at e
  · rename_i y hy
    cases e
    have hp := hv.hsm _ _ _ hy
    refine ⟨hp.cal, (ac_pure hp (hF h) n).mono ?_⟩
    rintro r H' n' ⟨rfl, rfl, x, rfl, _, rfl⟩
    exact ⟨_, List.mem_singleton.2 rfl, rfl, rfl, rfl⟩
  · split at e
    · rename_i fn hfn
      obtain ⟨hp, hnm⟩ := hv.hF _ _ hfn
      split at e
      · rename_i c hc
        split at e
        · rename_i hN
          refine ⟨⟨fn, hp, hnm, by rw [hc]; rfl⟩, ?_⟩
          split at e
          · split at e
            · rename_i LO hev
              refine ac_of_wdp hp hc (Nat.le_of_ble_eq_true hN) ?_
              have hw := evC_sound (rd := false) (m := n) hv ha (fun id ops s L => hD false fn.ntmps n id ops s L) c _ _ hev
              simp only [S.st, ofArgs_eq] at hw
              refine hw.mono ?_
              rintro ex σ ⟨o, ho, rfl, rfl⟩
              obtain ⟨La, h1, h2⟩ := bindL_mem e o ho
              exact finO_sound hv ha hD h1 h2
            · cases e
          · refine ac_of_ft hp hc (Nat.le_of_ble_eq_true hN) ?_
            have := evT_sound hv ha hD hp (L := L) c _ none _ [] L (fun s' dc' L' hk hl => ft_nil hp (finT_sound hv ha hD (o := ⟨.normal, s'⟩) hk hl)) e (fun _ h => h)
            simp only [S.st, ofArgs_eq] at this
            exact this
        · cases e
      · cases e
    · cases e
theorem evY_sound {id : Nat} {args : List AV} {h : Trie EB} {n : Nat} {L : List CO} (e : evY ev ask evD id args h n = some L) : YX P id args (hF h) n (COut L) := by
  unfold evY at e
  split at e
  · rename_i g tm N ps as bd st pend hget
    have hblk : hF h id = some (.loop ⟨tmF tm, N, ps, as, bd, st, pend⟩) := by simp only [hF, hget, EB.toBlk]
    split at e
    · split at e
      · rename_i hlen
        split at e
        · rename_i hps
          split at e
          · rename_i LO hev
            refine yx_of_w hblk rfl (Nat.eq_of_beq_eq_true hlen) (fun t ht => Nat.le_of_ble_eq_true (List.all_eq_true.1 hps t ht)) ?_
            have hw := evC_sound (rd := true) (m := n) hv ha (fun id ops s L => hD true N n id ops s L) as _ _ hev
            simp only [S.st, setPT_eq] at hw
            refine hw.mono ?_
            rintro ex σ ⟨o, ho, rfl, rfl⟩
            obtain ⟨La, h1, h2⟩ := bindL_mem e o ho
            split at h1
            · rename_i he
              split at h1
              · rename_i hdf
                split at h1
                · rename_i g1 tm1 N1 ps1 as1 bd1 st1 pend1 hget1
                  split at h1
                  · split at h1
                    · rename_i LB hevb
                      refine ⟨he, hdf, ⟨tmF tm1, N1, ps1, as1, bd1, .ready, pend1⟩, by simp only [S.st, hF, hget1, EB.toBlk], rfl, ?_⟩
                      have hw2 := evC_sound (rd := true) (m := n) hv ha (fun id ops s L => hD true N n id ops s L) bd _ _ hevb
                      simp only [S.st, hF_put, EB.toBlk] at hw2
                      refine hw2.mono ?_
                      rintro e2 σ2 ⟨o2, ho2, rfl, rfl⟩
                      obtain ⟨Lb, h3, h4⟩ := bindL_mem h1 o2 ho2
                      unfold finY at h3
                      split at h3
                      · rename_i hdf2
                        refine ⟨hdf2, ?_⟩
                        split at h3
                        · rename_i x he2
                          rw [he2]
                          cases h3
                          exact ⟨_, h2 _ (h4 _ (List.mem_singleton.2 rfl)), rfl, rfl, rfl⟩
                        · split at h3
                          · rename_i g2 tm2 N2 ps2 as2 bd2 st2 pend2 hget2
                            have hb2 : o2.s.st.h id = some (.loop ⟨tmF tm2, N2, ps2, as2, bd2, st2, pend2⟩) := by simp only [S.st, hF, hget2, EB.toBlk]
                            split at h3
                            · rename_i he2
                              rw [he2]
                              cases h3
                              exact ⟨_, hb2, _, h2 _ (h4 _ (List.mem_singleton.2 rfl)), rfl, by simp only [hF_put, EB.toBlk]; rfl, rfl⟩
                            · rename_i he2
                              rw [he2]
                              cases h3
                              exact ⟨_, hb2, _, h2 _ (h4 _ (List.mem_singleton.2 rfl)), rfl, by simp only [hF_put, EB.toBlk]; rfl, rfl⟩
                            · rename_i i he2
                              rw [he2]
                              cases h3
                              exact ⟨_, hb2, _, h2 _ (h4 _ (List.mem_singleton.2 rfl)), rfl, by simp only [hF_put, EB.toBlk]; rfl, rfl⟩
                            · cases h3
                          · cases h3
                      · cases h3
                    · cases h1
                  · cases h1
                · cases h1
              · cases h1
            · cases h1
          · cases e
        · cases e
      · cases e
    · cases e
  · cases e
end
end Go.Lg


