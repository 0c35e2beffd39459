/- The evaluator: regions that draw their order; that the machine does so. -/
import Derived.Test.YtlmighkbeacjnaaGreatDoorLm11

set_option linter.unusedSimpArgs false
set_option linter.unusedSectionVars false
namespace Go.Lg
open Go
variable [GO]
set_option linter.unusedVariables false
theorem ung_congr {all : List Oper} {o : Oper} {tm tm' : Nat → AV} {b : Bool} (h : unguarded all o tm b) (hr : ∀ t, t ∈ rd all o → tm' t = tm t) : unguarded all o tm' b := by
  unfold unguarded at h ⊢
  cases hg : o.guard with
  | none => rw [hg] at h; exact h
  | some p =>
    obtain ⟨j, want⟩ := p
    rw [hg] at h
    obtain ⟨oj, t, h1, h2, h3⟩ := h
    have hgs : gslot all j = some t := by unfold gslot; rw [h1]; exact h2
    have := hr t (by unfold rd; rw [List.mem_append, hg]; left; simp [hgs])
    exact ⟨oj, t, h1, h2, by rw [this]; exact h3⟩
/-- What is owed, as data and as a claim. -/
inductive ObR : List (Nat × (Trie EB → Bool)) → List (Nat × (Heap → Prop)) → Prop
  | nil : ObR [] []
  | cons {i : Nat} {c : Trie EB → Bool} {C : Heap → Prop} {l : List (Nat × (Trie EB → Bool))} {l' : List (Nat × (Heap → Prop))} (h : ∀ g, c g = true → C (hF g)) (hs : ObR l l') : ObR ((i, c) :: l) ((i, C) :: l')
theorem owedB_sound {all : List Oper} {π : List Nat} {i : Nat} {c : Trie EB → Bool} {C : Heap → Prop} (hc : ∀ g, c g = true → C (hF g)) : ∀ (F : List (Trie EB)) (F' : List (Heap × Nat)) (s : Nat), F'.map (·.1) = F.map hF → owedB all π i c s F = true → Owed all π i C s F'
  | [], F', s, hF', _ => by
    have : F' = [] := by cases F' <;> simp at hF'; rfl
    subst this; trivial
  | g :: F, F', s, hF', h => by
    cases F' with
    | nil => simp at hF'
    | cons g' F' =>
      simp only [List.map_cons, List.cons.injEq] at hF'
      obtain ⟨h1, h2⟩ := Bool.and_eq_true_iff.1 h
      refine ⟨fun ha => ?_, owedB_sound hc F F' (s + 1) hF'.2 h2⟩
      rw [ha] at h1
      rw [hF'.1]
      exact hc g h1
theorem owedAllB_sound {all : List Oper} {π : List Nat} {F : List (Trie EB)} {F' : List (Heap × Nat)} (hF' : F'.map (·.1) = F.map hF) : ∀ {l : List (Nat × (Trie EB → Bool))} {l' : List (Nat × (Heap → Prop))}, ObR l l' → owedAllB all π F l = true → OwedAll all π F' l'
  | _, _, .nil, _ => trivial
  | _, _, .cons h hs, e => by
    obtain ⟨h1, h2⟩ := Bool.and_eq_true_iff.1 e
    exact ⟨owedB_sound h F F' 0 hF' h1, owedAllB_sound hF' hs h2⟩
theorem atE_sound {π : List Nat} {s i : Nat} (h : atE π s i = true) : π[s]? = some i := by
  unfold atE at h
  split at h
  · rename_i j hj; rw [hj, Nat.eq_of_beq_eq_true h]
  · cases h
theorem anyT_get : ∀ (all : List Oper) (tm : Trie AV) (t : Nat), tmF (anyT tm all) t = .any ∨ ((∀ o, o ∈ all → o.dst ≠ some t) ∧ tmF (anyT tm all) t = tmF tm t)
  | [], tm, t => .inr ⟨fun o h => (by cases h), rfl⟩
  | o :: r, tm, t => by
    unfold anyT
    cases hd : o.dst with
    | none =>
      simp only
      rcases anyT_get r tm t with h | ⟨h1, h2⟩
      · exact .inl h
      · refine .inr ⟨fun o' ho' => ?_, h2⟩
        rcases List.mem_cons.1 ho' with rfl | h
        · rw [hd]; intro hh; cases hh
        · exact h1 o' h
    | some d =>
      simp only
      rcases anyT_get r (tm.put d (some .any)) t with h | ⟨h1, h2⟩
      · exact .inl h
      · rw [tmF_put] at h2
        by_cases e : t = d
        · subst e; left; rw [h2, upd_same]
        · refine .inr ⟨fun o' ho' => ?_, by rw [h2, upd_ne _ _ e]⟩
          rcases List.mem_cons.1 ho' with rfl | h
          · rw [hd]; intro hh; cases hh; exact e rfl
          · exact h1 o' h
/-- A call that panics, wherever the region stands. -/
theorem wo_panic {P : Program} {B : Fb → Prop} {N m : Nat} {all : List Oper} {Q : AEx → St → Prop} {o : Oper} {σ : St} {f : FuncId} {args : List AV} {i : Nat} {l : List Nat} {x : AV} {h' : Heap} {n' : Nat} {tmX : Nat → AV} (ho : all[i]? = some o) (hu : unguarded all o σ.tm true) (hdf : ∀ c, o.op ≠ .defer c) (hc : OpC P N o σ f args)
    (hac : AC P f args σ.h σ.n (fun r h n => r = .panic x ∧ h = h' ∧ n = n')) (hX : ∀ t, tmX t = .any ∨ tmX t = σ.tm t) (hq : Q (.panic x) ⟨tmX, h', n', σ.df⟩) : WO P B N m all.toArray (i :: l) Q σ := by
  intro K a hm hs
  obtain ⟨vs, hr, hvs⟩ := hc K a hs
  refine mo_call (by simpa using ho) (wanted_of hs.tr hu) hdf hr (hac K vs hs.next hs.rel hvs) ?_
  rintro e w2 ⟨K', H', r, rfl, hrel, hst, hrr, rfl, rfl, rfl⟩
  have hE := hst.ext hs.rel
  cases hrr with
  | @panic _ v hv =>
    refine .inr ⟨v, rfl, K', ⟨tmX, H', K'.next, σ.df⟩, .panic x, rfl, ⟨rfl, hrel, ⟨hs.tr.1, fun t => ?_⟩, hs.dr.mono hE⟩, hst.stm hm, .panic hv, hq⟩
    show VR K' (tmX t) _
    rcases hX t with h | h
    · rw [h]; exact .any _
    · rw [h]; exact (hs.tr.2 t).mono hE
section
variable {P : Program} {ev : Env} (hv : EnvOK P ev) {ask : Ask} (ha : AskOK P ask) {B : Fb → Prop} {N m : Nat}
include hv ha
theorem evW_sound {all : List Oper} {π : List Nat} {Q : AEx → St → Prop} : ∀ (L : List Nat) (st : Nat) (G : List (Trie EB)) (G' : List (Heap × Nat)) (ob : List (Nat × (Trie EB → Bool))) (ob' : List (Nat × (Heap → Prop))) (s : S) (s' : O),
    G'.map (·.1) = G.map hF → ObR ob ob' → evW ev ask N all π L st G ob s = some s' → Q s'.e s'.s.st → s'.s.df = s.df ∧ WM P B N m all π Q s.df st G' ob' (prs all L) (tmF s.tm) (hF s.h) s.n := by
  intro L
  induction L with
  | nil =>
    intro st G G' ob ob' s s' hG hob h hq
    replace h : (if Nat.beq st π.length = true then if owedAllB all π (s.h :: G).reverse ob = true then some ⟨.normal, s⟩ else none else none) = some s' := h
    split at h
    · rename_i hst
      split at h
      · rename_i how
        cases h
        refine ⟨rfl, m_nilO (Nat.eq_of_beq_eq_true hst) rfl (owedAllB_sound (F := (s.h :: G).reverse) ?_ hob how) hq⟩
        rw [List.map_reverse, List.map_reverse, List.map_cons, List.map_cons, hG]
      · cases h
    · cases h
  | cons i L ih =>
    intro st G G' ob ob' s s' hG hob h hq
    replace h : (match all[i]? with
      | none => none
      | some o => match gd all o.guard s.tm with
        | none => none
        | some false => match π.contains i with
          | true => if atE π st i = true then putD N s.tm o.dst (.tuple []) fun tm => evW ev ask N all π L (st + 1) (s.h :: G) ob ⟨tm, s.h, s.n, s.df⟩ else none
          | false => putD N s.tm o.dst (.tuple []) fun tm => evW ev ask N all π L st G ob ⟨tm, s.h, s.n, s.df⟩
        | some true => match π.contains i with
          | true => if atE π st i = true then match callOf o.op with
            | some (f, as) => match evFC ask (tmF s.tm) f as s.h s.n with
              | some co => match co.r with
                | .ret x => putD N s.tm o.dst x fun tm => evW ev ask N all π L (st + 1) (s.h :: G) ob ⟨tm, co.h, co.n, s.df⟩
                | .panic x => if panOk all π st i L = true then if owedAllB all π (s.h :: G).reverse ob = true then some ⟨.panic x, ⟨anyT s.tm all, co.h, co.n, s.df⟩⟩ else none else none
              | none => none
            | none => match eop ev.eq ev.T (tmF s.tm) (hF s.h) s.n o.op with
              | some r => fAV 9 r.1 fun x => r.2.tK s.h s.n fun h n => putD N s.tm o.dst x fun tm => evW ev ask N all π L (st + 1) (s.h :: G) ob ⟨tm, h, n, s.df⟩
              | none => none
            else none
          | false => match pv ev.T (tmF s.tm) o.op with
            | some x => fAV 9 x fun x => putD N s.tm o.dst x fun tm => evW ev ask N all π L st G ob ⟨tm, s.h, s.n, s.df⟩
            | none => match eoq ev.eq ev.T (tmF s.tm) (hF s.h) o.op with
              | some x => fAV 9 x fun x => putD N s.tm o.dst x fun tm => evW ev ask N all π L st G (match onlyB all π i st with
                | true => ob
                | false => (i, fun h => match eoq ev.eq ev.T (tmF s.tm) (hF h) o.op with
                  | some y => eqAV 9 y x
                  | none => false) :: ob) ⟨tm, s.h, s.n, s.df⟩
              | none => none) = some s' := h
    cases ho : all[i]? with
    | none => rw [ho] at h; cases h
    | some o =>
      rw [ho] at h
      simp only at h
      have hprs : prs all (i :: L) = (i, o) :: prs all L := by simp [prs, ho]
      rw [hprs]
      cases hg : gd all o.guard s.tm with
      | none => rw [hg] at h; cases h
      | some b =>
        have hu := gd_sound hg
        rw [hg] at h
        have hoi : ∀ {i' : Nat}, all[i']? = some o → all[i']? = some o := fun h => h
        cases b with
        | false =>
          simp only at h
          cases hc : π.contains i with
          | true =>
            rw [hc] at h
            simp only at h
            split at h
            · rename_i hat
              obtain ⟨hd, tm', h1, h2⟩ := putD_sound h
              have hnext := ih (st + 1) (s.h :: G) ((hF s.h, s.n) :: G') ob ob' _ s' (by rw [List.map_cons, List.map_cons, hG]) hob h2 hq
              refine ⟨hnext.1, .eff (atE_sound hat) (fun tm2 hr i' hi' => does_skip (σ := ⟨tm2, hF s.h, s.n, s.df⟩) hi' (ung_congr hu hr) hd) ?_⟩
              have := hnext.2
              simp only [h1] at this
              exact this
            · cases h
          | false =>
            rw [hc] at h
            simp only at h
            obtain ⟨hd, tm', h1, h2⟩ := putD_sound h
            have hnext := ih st G G' ob ob' _ s' hG hob h2 hq
            refine ⟨hnext.1, .opT hc (fun tm2 h n _ hr i' hi' => does_skip (σ := ⟨tm2, h, n, s.df⟩) hi' (ung_congr hu hr) hd) ?_⟩
            have := hnext.2
            simp only [h1] at this
            exact this
        | true =>
          simp only at h
          cases hc : π.contains i with
          | true =>
            rw [hc] at h
            simp only at h
            split at h
            · rename_i hat
              cases hcall : callOf o.op with
              | some p =>
                obtain ⟨f, as⟩ := p
                rw [hcall] at h
                simp only at h
                obtain ⟨args, ats, hop, has⟩ := callOf_sound hcall
                cases hfc : evFC ask (tmF s.tm) f as s.h s.n with
                | none => rw [hfc] at h; cases h
                | some co =>
                  rw [hfc] at h
                  simp only at h
                  cases hr : co.r with
                  | panic x =>
                    rw [hr] at h
                    simp only at h
                    split at h
                    · rename_i hpk
                      split at h
                      · rename_i how
                        cases h
                        refine ⟨rfl, .pan (atE_sound hat) (fun tm2 hrr hnd i' hi' l => ?_) (fun p hp => ?_) ?_⟩
                        · unfold evFC at hfc
                          split at hfc
                          · rename_i g first cap hf
                            split at hfc
                            · rename_i xs hxs
                              split at hfc
                              · rename_i co' hask
                                cases hfc
                                obtain ⟨hcal, hac⟩ := ha _ _ _ _ hask
                                have hro := rd_op hrr
                                have hf2 : evo tm2 f = some (.func (.func g) first cap) := by rw [← hf]; exact evo_congr fun t e => hro t (by rw [hop]; simp [Op.operands, Call.operands, e])
                                have hx2 : evs tm2 args.toList = some xs := by rw [has, ← hxs]; exact evs_congr fun t ht => hro t (by rw [hop]; simp only [Op.operands, Call.operands, Array.toList_append]; rw [List.mem_append]; right; rw [has]; exact ht)
                                refine wo_panic (hi') (ung_congr hu hrr) (fun c hc => by rw [hop] at hc; cases hc) (opc_call (σ := ⟨tm2, hF s.h, s.n, s.df⟩) hop hf2 hx2 hcal (Subs.refl _)) (hac.mono ?_) (fun t => ?_) hq
                                · rintro r H' n' ⟨o', ho', rfl, rfl, rfl⟩
                                  rcases List.mem_singleton.1 ho' with rfl
                                  exact ⟨hr, rfl, rfl⟩
                                · show tmF (anyT s.tm all) t = .any ∨ tmF (anyT s.tm all) t = tm2 t
                                  rcases anyT_get all s.tm t with h1 | ⟨h1, h2⟩
                                  · exact .inl h1
                                  · exact .inr (by rw [h2, hnd t h1])
                              · cases hfc
                            · cases hfc
                          · cases hfc
                        · obtain ⟨j, o2⟩ := p
                          have hjL : j ∈ L := by
                            simp only [prs, List.mem_filterMap] at hp
                            obtain ⟨j', hj', he⟩ := hp
                            rw [Option.map_eq_some_iff] at he
                            obtain ⟨_, _, he⟩ := he
                            cases he
                            exact hj'
                          have h3 := List.all_eq_true.1 hpk j hjL
                          rw [Bool.and_eq_true] at h3
                          refine ⟨h3.1, fun s' hs' he => ?_⟩
                          have h4 := h3.2
                          have hmem : j ∈ π.take (st + 1) := by
                            refine List.mem_of_getElem? (i := s') ?_
                            rw [List.getElem?_take, if_pos (by omega)]
                            exact he
                          simp only [Bool.not_eq_true', List.contains_eq_mem] at h4
                          simp only [hmem, decide_true] at h4
                          cases h4
                        · have hm := owedAllB_sound (all := all) (π := π) (F := (s.h :: G).reverse) (F' := ((hF s.h, s.n) :: G').reverse) (by rw [List.map_reverse, List.map_reverse, List.map_cons, List.map_cons, hG]) hob how
                          exact hm.get
                      · cases h
                    · cases h
                  | ret x =>
                    rw [hr] at h
                    simp only at h
                    obtain ⟨hd, tm', h1, h2⟩ := putD_sound h
                    have hnext := ih (st + 1) (s.h :: G) ((hF s.h, s.n) :: G') ob ob' _ s' (by rw [List.map_cons, List.map_cons, hG]) hob h2 hq
                    refine ⟨hnext.1, .eff (h' := hF co.h) (n' := co.n) (x := x) (atE_sound hat) (fun tm2 hrr i' hi' => ?_) ?_⟩
                    · unfold evFC at hfc
                      split at hfc
                      · rename_i g first cap hf
                        split at hfc
                        · rename_i xs hxs
                          split at hfc
                          · rename_i co' hask
                            cases hfc
                            obtain ⟨hcal, hac⟩ := ha _ _ _ _ hask
                            have hro := rd_op hrr
                            have hf2 : evo tm2 f = some (.func (.func g) first cap) := by rw [← hf]; exact evo_congr fun t e => hro t (by rw [hop]; simp [Op.operands, Call.operands, e])
                            have hx2 : evs tm2 args.toList = some xs := by rw [has, ← hxs]; exact evs_congr fun t ht => hro t (by rw [hop]; simp only [Op.operands, Call.operands, Array.toList_append]; rw [List.mem_append]; right; rw [has]; exact ht)
                            refine does_callA (σ := ⟨tm2, hF s.h, s.n, s.df⟩) hi' (ung_congr hu hrr) hd (fun c hc => by rw [hop] at hc; cases hc) (opc_call (σ := ⟨tm2, hF s.h, s.n, s.df⟩) hop hf2 hx2 hcal (Subs.refl _)) (hac.mono ?_)
                            rintro r H' n' ⟨o', ho', rfl, rfl, rfl⟩
                            rcases List.mem_singleton.1 ho' with rfl
                            exact ⟨hr, rfl, rfl⟩
                          · cases hfc
                        · cases hfc
                      · cases hfc
                    · have := hnext.2
                      simp only [h1] at this
                      exact this
              | none =>
                rw [hcall] at h
                simp only at h
                cases he : eop ev.eq ev.T (tmF s.tm) (hF s.h) s.n o.op with
                | none => rw [he] at h; cases h
                | some r =>
                  rw [he] at h
                  simp only [fAV_eq, HC.tK_eq] at h
                  obtain ⟨hd, tm', h1, h2⟩ := putD_sound h
                  have hnext := ih (st + 1) (s.h :: G) ((hF s.h, s.n) :: G') ob ob' _ s' (by rw [List.map_cons, List.map_cons, hG]) hob h2 hq
                  have hchg := eop_chg (P := P) (N := N) hv.hT hv.heq he
                  refine ⟨hnext.1, .eff (atE_sound hat) (fun tm2 hrr i' hi' => does_op (σ := ⟨tm2, hF s.h, s.n, s.df⟩) hi' (ung_congr hu hrr) hd hchg.1 (hchg.2 o tm2 s.df rfl (rd_op hrr))) ?_⟩
                  have := hnext.2
                  simp only [h1, HC.t_eq] at this
                  exact this
            · cases h
          | false =>
            rw [hc] at h
            simp only at h
            cases hp : pv ev.T (tmF s.tm) o.op with
            | some x =>
              rw [hp] at h
              simp only [fAV_eq] at h
              obtain ⟨hd, tm', h1, h2⟩ := putD_sound h
              have hnext := ih st G G' ob ob' _ s' hG hob h2 hq
              refine ⟨hnext.1, .opT hc (fun tm2 h n _ hrr i' hi' => does_op (σ := ⟨tm2, h, n, s.df⟩) hi' (ung_congr hu hrr) hd (fun c hcc => by rw [hcc] at hp; cases hp) (pv_sound hv.hT (σ := ⟨tm2, h, n, s.df⟩) (by rw [← hp]; exact pv_congr (rd_op hrr)))) ?_⟩
              have := hnext.2
              simp only [h1] at this
              exact this
            | none =>
              rw [hp] at h
              simp only at h
              cases he : eoq ev.eq ev.T (tmF s.tm) (hF s.h) o.op with
              | none => rw [he] at h; cases h
              | some x =>
                rw [he] at h
                simp only [fAV_eq] at h
                obtain ⟨hd, tm', h1, h2⟩ := putD_sound h
                have hcalm : ∀ (A : Heap → Nat → Prop), (∀ h n, A h n → eoq ev.eq ev.T (tmF s.tm) h o.op = some x) → Calm P B N m all A o (tmF s.tm) s.df x := fun A hA tm2 h n hAh hrr i' hi' => by
                  have hq2 : eoq ev.eq ev.T tm2 h o.op = some x := by rw [← hA h n hAh]; exact eoq_congr (rd_op hrr)
                  obtain ⟨k1, k2⟩ := eoq_sound (P := P) (N := N) (n := n) (df := s.df) hv.hT hv.heq hq2
                  exact does_op (σ := ⟨tm2, h, n, s.df⟩) hi' (ung_congr hu hrr) hd k1 k2
                cases hon : onlyB all π i st with
                | true =>
                  rw [hon] at h2
                  have hnext := ih st G G' ob ob' _ s' hG hob h2 hq
                  refine ⟨hnext.1, .opO hc hon (hcalm _ fun h n hA => by rw [hA.1]; exact he) ?_⟩
                  have := hnext.2
                  simp only [h1] at this
                  exact this
                | false =>
                  rw [hon] at h2
                  have hnext := ih st G G' _ ((i, fun h => eoq ev.eq ev.T (tmF s.tm) h o.op = some x) :: ob') _ s' hG (.cons (fun g hg2 => by
                    split at hg2
                    · rename_i y hy
                      rw [hy, eqAV_sound 9 _ _ hg2]
                    · cases hg2) hob) h2 hq
                  refine ⟨hnext.1, .op hc (hcalm (fun h _ => eoq ev.eq ev.T (tmF s.tm) h o.op = some x) fun h n hA => hA) ?_⟩
                  have := hnext.2
                  simp only [h1] at this
                  exact this
end
end Go.Lg


