/- frames.Check. -/
import Derived.Test.YtlmighkbeacjnaaLm6
import Derived.Test.YtlmighkbeacjnaaF2
open Go Go.Lg
set_option linter.unusedSimpArgs false
set_option linter.unusedVariables false
set_option maxHeartbeats 4000000
namespace Go.Proofs.Ytlmighkbeacjnaa
/-- The pages that frames hold. -/
def held (l : List Fr) : List Int := l.flatMap fun x => if x.k = 0 then [] else [x.p]
theorem held_snoc (l : List Fr) (x : Fr) : held (l ++ [x]) = held l ++ (if x.k = 0 then [] else [x.p]) := by simp [held]
/-- May frames be, behind some that hold these pages? -/
def okL (c : Cf) (s : List Int) : List Fr → Bool
  | [] => true
  | x :: r => mayF c x && bif x.k == 0 then okL c s r else !s.contains x.p && okL c (s ++ [x.p]) r
def okS (c : Cf) (f : Fs) : Bool := c.good && decide ((f.l.length : Int) = c.fr) && decide (0 ≤ f.h) && decide (f.h < f.l.length)
def okF (c : Cf) (f : Fs) : Bool := okS c f && okL c [] f.l
def eF (c : Cf) (f : Fs) : Int := if okF c f = true then 0 else 8
def ones (s : List Int) : List (Int × Int) := s.map fun p => (p, 1)
theorem ones_ne {s : List Int} {p : Int} (h : s.contains p = false) : ∀ q, q ∈ ones s → q.1 ≠ p := by
  intro q hq e
  simp only [ones, List.mem_map] at hq
  obtain ⟨a, ha, rfl⟩ := hq
  subst e
  simp at h; exact h ha
theorem ones_at : ∀ {s : List Int} {p : Int}, s.contains p = true → ∃ j, (ones s)[j]? = some (p, 1) ∧ ∀ (a : Nat) q, a < j → (ones s)[a]? = some q → q.1 ≠ p
  | [], p, h => by simp at h
  | x :: s, p, h => by
    by_cases e : x = p
    · exact ⟨0, by simp [ones, e], fun a q ha => absurd ha (Nat.not_lt_zero _)⟩
    · obtain ⟨j, h1, h2⟩ := ones_at (s := s) (p := p) (by simpa [Ne.symm e] using h)
      refine ⟨j + 1, by simpa [ones] using h1, fun a q ha hq => ?_⟩
      cases a with
      | zero => simp [ones] at hq; subst hq; exact e
      | succ a => exact h2 a q (by omega) (by simpa [ones] using hq)
theorem ones_snoc (s : List Int) (p : Int) : ones s ++ [(p, 1)] = ones (s ++ [p]) := by simp [ones]
theorem pf11 (c : Cf) (f : Fs) (hl : f.l.length ≤ 1000000) (hpl : ∀ x, x ∈ f.l → x.pins.length ≤ 1000000) : PF Try.prog 11 [.agg c.cells, .agg f.cells] (fun r => r = .int .i64 (eF c f)) := by
  refine pf_of_w0 Try.func11 (c := _) rfl rfl (Nat.le_of_ble_eq_true rfl) (args_2 (cf_pur c) (fsa_pur f)) ?_
  rw [show Try.f11.ntmps = 58 from rfl]
  cases hs : okS c f with
  | false =>
    have ev : eF c f = 8 := by simp [eF, okF, hs]
    cases hg : c.good with
    | false =>
      have ee : c.err = 8 := by simp [Cf.err, hg]
      have tE := And.intro (@upd_upd AV) <| And.intro (@upd_upd (Option Blk)) <| And.intro Cf.cells.eq_1 <| And.intro Fs.cells.eq_1 <| And.intro ee <| And.intro frRows_len <| And.intro ty3 <| And.intro ty4 <| And.intro ty5 <| And.intro ty23 <| And.intro ty24 <| And.intro ty26 <| And.intro ty29 <| And.intro ty34 <| And.intro ty35 <| And.intro ty37 <| And.intro ty81 <| Try.results11; repeat' first | ((with_reducible first | apply w_seq | apply w_region | apply wl_nil | apply wr_nil | apply wr_nilA | apply wr_nilE | apply go_normal | apply go_ret | apply go_exit | apply blk_normal | apply blk_ret | apply blk_here | apply w_block | apply w_skip | apply w_exit | apply w_label)) | ((with_reducible first | apply wz (tok Try.prog) | apply wr_z (tok Try.prog)); exact zZ; decide) | ((with_reducible first | apply wskip' | apply wr_skip); exact zU; exact zL; exact zU; decide) | ((with_reducible first | apply wcall' | apply wr_call); exact zV; exact zVs; exact zAs; (focus (with_unfolding_all first | exact pf46 c)); decide) | ((with_reducible first | apply w_ift'); exact zV; exact zU) | ((with_reducible apply w_ret); (repeat (with_reducible first | apply go_ret | apply blk_ret)); (with_reducible apply done_ret (tok Try.prog)); exact zT; exact zD; exact zX) | fail
      all_goals try clear tE
      rw [ev]; rfl
    | true =>
      have ee : c.err = 0 := by simp [Cf.err, hg]
      by_cases h1 : (f.l.length : Int) = c.fr
      · by_cases h2 : f.h < 0
        · have h2' : (f.h < 0) = True := eq_true h2
          have h1' : ((f.l.length : Int) != c.fr) = false := by simp [h1]
          have tE := And.intro (@upd_upd AV) <| And.intro (@upd_upd (Option Blk)) <| And.intro Cf.cells.eq_1 <| And.intro Fs.cells.eq_1 <| And.intro ee <| And.intro frRows_len <| And.intro h1' <| And.intro h2' <| And.intro ty3 <| And.intro ty4 <| And.intro ty5 <| And.intro ty23 <| And.intro ty24 <| And.intro ty26 <| And.intro ty29 <| And.intro ty34 <| And.intro ty35 <| And.intro ty37 <| And.intro ty81 <| Try.results11; repeat' first | ((with_reducible first | apply w_seq | apply w_region | apply wl_nil | apply wr_nil | apply wr_nilA | apply wr_nilE | apply go_normal | apply go_ret | apply go_exit | apply blk_normal | apply blk_ret | apply blk_here | apply w_block | apply w_skip | apply w_exit | apply w_label)) | ((with_reducible first | apply wz (tok Try.prog) | apply wr_z (tok Try.prog)); exact zZ; decide) | ((with_reducible first | apply wzg (tok Try.prog) | apply wr_zg (tok Try.prog)); exact zU; exact zL; exact zU; exact zZ; decide) | ((with_reducible first | apply wskip' | apply wr_skip); exact zU; exact zL; exact zU; decide) | ((with_reducible first | apply wcall' | apply wr_call); exact zV; exact zVs; exact zAs; (focus (with_unfolding_all first | exact pf46 c)); decide) | ((with_reducible first | apply w_ift'); exact zV; exact zU) | ((with_reducible apply w_ret); (repeat (with_reducible first | apply go_ret | apply blk_ret)); (with_reducible apply done_ret (tok Try.prog)); exact zT; exact zD; exact zX) | fail
          all_goals try clear tE
          rw [ev]; rfl
        · have h2' : (f.h < 0) = False := eq_false h2
          have h1' : ((f.l.length : Int) != c.fr) = false := by simp [h1]
          have h3 : (f.h ≥ (f.l.length : Int)) = True := by
            simp [okS, hg, h1] at hs
            simp; omega
          have tE := And.intro (@upd_upd AV) <| And.intro (@upd_upd (Option Blk)) <| And.intro Cf.cells.eq_1 <| And.intro Fs.cells.eq_1 <| And.intro ee <| And.intro frRows_len <| And.intro h1' <| And.intro h2' <| And.intro h3 <| And.intro ty3 <| And.intro ty4 <| And.intro ty5 <| And.intro ty23 <| And.intro ty24 <| And.intro ty26 <| And.intro ty29 <| And.intro ty34 <| And.intro ty35 <| And.intro ty37 <| And.intro ty81 <| Try.results11; repeat' first | ((with_reducible first | apply w_seq | apply w_region | apply wl_nil | apply wr_nil | apply wr_nilA | apply wr_nilE | apply go_normal | apply go_ret | apply go_exit | apply blk_normal | apply blk_ret | apply blk_here | apply w_block | apply w_skip | apply w_exit | apply w_label)) | ((with_reducible first | apply wz (tok Try.prog) | apply wr_z (tok Try.prog)); exact zZ; decide) | ((with_reducible first | apply wzg (tok Try.prog) | apply wr_zg (tok Try.prog)); exact zU; exact zL; exact zU; exact zZ; decide) | ((with_reducible first | apply wcall' | apply wr_call); exact zV; exact zVs; exact zAs; (focus (with_unfolding_all first | exact pf46 c)); decide) | ((with_reducible first | apply w_ift'); exact zV; exact zU) | ((with_reducible apply w_ret); (repeat (with_reducible first | apply go_ret | apply blk_ret)); (with_reducible apply done_ret (tok Try.prog)); exact zT; exact zD; exact zX) | fail
          all_goals try clear tE
          rw [ev]; rfl
      · have h1' : ((f.l.length : Int) != c.fr) = true := by simp [h1]
        have tE := And.intro (@upd_upd AV) <| And.intro (@upd_upd (Option Blk)) <| And.intro Cf.cells.eq_1 <| And.intro Fs.cells.eq_1 <| And.intro ee <| And.intro frRows_len <| And.intro h1' <| And.intro ty3 <| And.intro ty4 <| And.intro ty5 <| And.intro ty23 <| And.intro ty24 <| And.intro ty26 <| And.intro ty29 <| And.intro ty34 <| And.intro ty35 <| And.intro ty37 <| And.intro ty81 <| Try.results11; repeat' first | ((with_reducible first | apply w_seq | apply w_region | apply wl_nil | apply wr_nil | apply wr_nilA | apply wr_nilE | apply go_normal | apply go_ret | apply go_exit | apply blk_normal | apply blk_ret | apply blk_here | apply w_block | apply w_skip | apply w_exit | apply w_label)) | ((with_reducible first | apply wz (tok Try.prog) | apply wr_z (tok Try.prog)); exact zZ; decide) | ((with_reducible first | apply wzg (tok Try.prog) | apply wr_zg (tok Try.prog)); exact zU; exact zL; exact zU; exact zZ; decide) | ((with_reducible first | apply wskip' | apply wr_skip); exact zU; exact zL; exact zU; decide) | ((with_reducible first | apply wcall' | apply wr_call); exact zV; exact zVs; exact zAs; (focus (with_unfolding_all first | exact pf46 c)); decide) | ((with_reducible first | apply w_ift'); exact zV; exact zU) | ((with_reducible apply w_ret); (repeat (with_reducible first | apply go_ret | apply blk_ret)); (with_reducible apply done_ret (tok Try.prog)); exact zT; exact zD; exact zX) | fail
        all_goals try clear tE
        rw [ev]; rfl
  | true =>
    have hs' := hs
    simp only [okS, Bool.and_eq_true, decide_eq_true_eq] at hs
    obtain ⟨⟨⟨hg, h1⟩, h2⟩, h3⟩ := hs
    have ee : c.err = 0 := by simp [Cf.err, hg]
    have h1' : ((f.l.length : Int) != c.fr) = false := by simp [h1]
    have h2' : (f.h < 0) = False := by simp; omega
    have h3' : (f.h ≥ (f.l.length : Int)) = False := by simp; omega
    have ev : eF c f = if okL c [] f.l = true then 0 else 8 := by simp [eF, okF, hs']
    have tE := And.intro (@upd_upd AV) <| And.intro (@upd_upd (Option Blk)) <| And.intro Cf.cells.eq_1 <| And.intro Fs.cells.eq_1 <| And.intro ee <| And.intro frRows_len <| And.intro h1' <| And.intro h2' <| And.intro h3' <| And.intro ty3 <| And.intro ty4 <| And.intro ty5 <| And.intro ty23 <| And.intro ty24 <| And.intro ty26 <| And.intro ty29 <| And.intro ty34 <| And.intro ty35 <| And.intro ty37 <| And.intro ty81 <| Try.results11; repeat' first | ((with_reducible first | apply w_seq | apply w_region | apply wl_nil | apply wr_nil | apply wr_nilA | apply wr_nilE | apply go_normal | apply go_ret | apply go_exit | apply blk_normal | apply blk_ret | apply blk_here | apply w_block | apply w_skip | apply w_exit | apply w_label)) | ((with_reducible first | apply wz (tok Try.prog) | apply wr_z (tok Try.prog)); exact zZ; decide) | ((with_reducible first | apply wzg (tok Try.prog) | apply wr_zg (tok Try.prog)); exact zU; exact zL; exact zU; exact zZ; decide) | ((with_reducible first | apply w_mkmap); decide) | ((with_reducible first | apply wcall' | apply wr_call); exact zV; exact zVs; exact zAs; (focus (with_unfolding_all first | exact pf46 c)); decide) | ((with_reducible first | apply w_iff'); exact zV; exact zU) | fail
    all_goals try clear tE
    refine w_loopS (S := Nat) (fun i => [(2, .vptr c.cells), (5, .map 0), (34, .view (frRows f.l)), (35, .int .i64 (f.l.length : Int)), (36, .int .i64 (i : Int))]) (fun i => [some (.map (entM .i64 .i64 (ones (held (f.l.take i)))))]) [] (fun i => i ≤ f.l.length ∧ okL c [] f.l = okL c (held (f.l.take i)) (f.l.drop i)) (fun i => f.l.length - i) 0 ?_ ⟨Nat.zero_le _, rfl⟩ ?_
    · have hv := frRows_pur f.l
      have hc : Pur (.vptr c.cells) := .vptr (cells_pur c)
      (have tE := And.intro (@upd_upd AV) <| @upd_upd (Option Blk); refine kcanS [0] (h6 := ?_)); clear tE
      exact ⟨⟨0, _, rfl, rfl, .map (by intro p hp; cases hp)⟩, trivial⟩
    · rintro i ⟨hi, hix⟩
      simp only [St.ofS, List.length_nil, List.length_cons, Nat.zero_add]
      have hw : IntKind.i64.wrap ((i : Int) + 1) = ((i + 1 : Nat) : Int) := by rw [wrap64 (by omega) (by omega)]; rfl
      have hv := frRows_pur f.l
      have hcv : Pur (.vptr c.cells) := .vptr (cells_pur c)
      by_cases e : i < f.l.length
      · have g1 : ((i : Int) < (f.l.length : Int)) = True := by simp; omega
        have g0 : (0 ≤ (i : Int)) = True := by simp
        obtain ⟨u, hu⟩ : ∃ u, f.l[i]? = some u := ⟨f.l[i], List.getElem?_eq_getElem e⟩
        have hr := fr_row hu
        have hd : f.l.drop i = u :: f.l.drop (i + 1) := by rw [List.drop_eq_getElem_cons e]; rw [List.getElem?_eq_getElem e] at hu; cases hu; rfl
        have htk : f.l.take (i + 1) = f.l.take i ++ [u] := by rw [List.take_add_one, hu]; rfl
        rw [hd] at hix
        have h47 := pf47 c u (hpl u (List.mem_of_getElem? hu))
        cases hm : mayF c u with
        | false =>
          have tE := And.intro (@upd_upd AV) <| And.intro (@upd_upd (Option Blk)) <| And.intro Cf.cells.eq_1 <| And.intro Fr.cells.eq_1 <| And.intro frRows_len <| And.intro g1 <| And.intro g0 <| And.intro hr <| And.intro hw <| And.intro hm <| And.intro ty3 <| And.intro ty4 <| And.intro ty5 <| And.intro ty23 <| And.intro ty24 <| And.intro ty26 <| And.intro ty29 <| And.intro ty34 <| And.intro ty35 <| And.intro ty37 <| And.intro ty81 <| Try.results11; repeat' first | ((with_reducible first | apply w_seq | apply w_region | apply wl_nil | apply wr_nil | apply wr_nilA | apply wr_nilE | apply go_normal | apply go_ret | apply go_exit | apply blk_normal | apply blk_ret | apply blk_here | apply w_block | apply w_skip | apply w_exit | apply w_label)) | ((with_reducible first | apply wz (tok Try.prog) | apply wr_z (tok Try.prog)); exact zZ; decide) | ((with_reducible first | apply w_alloc (tok Try.prog)); exact zT; decide) | ((with_reducible first | apply w_store (tok Try.prog)); exact zV; exact zV; exact zS) | ((with_reducible first | apply wcall' | apply wr_call); exact zV; exact zVs; exact zAs; (focus (with_unfolding_all first | exact h47)); decide) | ((with_reducible first | apply w_ift'); exact zV; exact zU) | ((with_reducible apply w_ret); (repeat (with_reducible first | apply go_ret | apply blk_ret)); (with_reducible apply done_ret (tok Try.prog)); exact zT; exact zD; exact zX) | fail
          all_goals try clear tE
          rw [ev, hix]; simp [okL, hm, tup]
        | true =>
          by_cases hk : u.k = 0
          · have hk' : (u.k == 0) = true := by simpa using hk
            have tE := And.intro (@upd_upd AV) <| And.intro (@upd_upd (Option Blk)) <| And.intro Cf.cells.eq_1 <| And.intro Fr.cells.eq_1 <| And.intro frRows_len <| And.intro g1 <| And.intro g0 <| And.intro hr <| And.intro hw <| And.intro hm <| And.intro hk' <| And.intro ty3 <| And.intro ty4 <| And.intro ty5 <| And.intro ty23 <| And.intro ty24 <| And.intro ty26 <| And.intro ty29 <| And.intro ty34 <| And.intro ty35 <| And.intro ty37 <| And.intro ty81 <| Try.results11; repeat' first | ((with_reducible first | apply w_seq | apply w_region | apply wl_nil | apply wr_nil | apply wr_nilA | apply wr_nilE | apply go_normal | apply go_ret | apply go_exit | apply blk_normal | apply blk_ret | apply blk_here | apply w_block | apply w_skip | apply w_exit | apply w_label)) | ((with_reducible first | apply wz (tok Try.prog) | apply wr_z (tok Try.prog)); exact zZ; decide) | ((with_reducible first | apply w_alloc (tok Try.prog)); exact zT; decide) | ((with_reducible first | apply w_store (tok Try.prog)); exact zV; exact zV; exact zS) | ((with_reducible first | apply wcall' | apply wr_call); exact zV; exact zVs; exact zAs; (focus (with_unfolding_all first | exact h47)); decide) | ((with_reducible first | apply w_ift'); exact zV; exact zU) | ((with_reducible first | apply w_iff'); exact zV; exact zU) | fail
            all_goals try clear tE
            have hh : held (f.l.take (i + 1)) = held (f.l.take i) := by rw [htk, held_snoc, if_pos hk, List.append_nil]
            refine ⟨i + 1, by omega, ⟨by omega, by rw [hix, hh]; simp [okL, hm, hk]⟩, ?_⟩
            rw [hh]
            (have tE := And.intro (@upd_upd AV) <| @upd_upd (Option Blk); refine kcanS [0] (h6 := ?_)); clear tE
            exact ⟨⟨0, _, rfl, rfl, .map (entM_pur _ _ _)⟩, trivial⟩
          · have hk' : (u.k == 0) = false := by simpa using hk
            have hh : held (f.l.take (i + 1)) = held (f.l.take i) ++ [u.p] := by rw [htk, held_snoc, if_neg hk]
            have w1 : IntKind.i64.wrap (Int.ofNat 0 + 1) = 1 := rfl
            have w2 : IntKind.i64.wrap (1 + 1) = 2 := rfl
            generalize hsn : held (f.l.take i) = s at hix hh
            cases hin : s.contains u.p with
            | true =>
              obtain ⟨j, hj1, hj2⟩ := ones_at hin
              have m1 : findM u.p .i64 (entM .i64 .i64 (ones s)) 0 = some (some (j, .int .i64 1)) := by have := findM_some (kk := .i64) (vk := .i64) (i := 0) hj1 hj2; simpa using this
              have hjl : j < (ones s).length := (List.getElem?_eq_some_iff.1 hj1).1
              have m2 : findM u.p .i64 (entM .i64 .i64 ((ones s).set j (u.p, 2))) 0 = some (some (j, .int .i64 2)) := by
                have := findM_some (kk := .i64) (vk := .i64) (i := 0) (l := (ones s).set j (u.p, 2)) (j := j) (k := u.p) (v := 2) (by rw [List.getElem?_set_self hjl]) (fun a q ha hq => hj2 a q ha (by rw [List.getElem?_set_ne (by omega)] at hq; exact hq))
                simpa using this
              have m3 : ((2 : Int) > 1) = True := by simp
              have tE := And.intro (@upd_upd AV) <| And.intro (@upd_upd (Option Blk)) <| And.intro Cf.cells.eq_1 <| And.intro Fr.cells.eq_1 <| And.intro frRows_len <| And.intro g1 <| And.intro g0 <| And.intro hr <| And.intro hw <| And.intro hm <| And.intro hk' <| And.intro w1 <| And.intro w2 <| And.intro m1 <| And.intro m2 <| And.intro m3 <| And.intro ty3 <| And.intro ty4 <| And.intro ty5 <| And.intro ty23 <| And.intro ty24 <| And.intro ty26 <| And.intro ty29 <| And.intro ty34 <| And.intro ty35 <| And.intro ty37 <| And.intro ty81 <| Try.results11; repeat' first | ((with_reducible first | apply w_seq | apply w_region | apply wl_nil | apply wr_nil | apply wr_nilA | apply wr_nilE | apply go_normal | apply go_ret | apply go_exit | apply blk_normal | apply blk_ret | apply blk_here | apply w_block | apply w_skip | apply w_exit | apply w_label)) | ((with_reducible first | apply wz (tok Try.prog) | apply wr_z (tok Try.prog)); exact zZ; decide) | ((with_reducible first | apply w_alloc (tok Try.prog)); exact zT; decide) | ((with_reducible first | apply w_mapget (tok Try.prog)); exact zV; exact zV; exact zH; exact zT; exact zU; exact zT; exact zU; exact zT; exact zU; exact zT; exact zG; decide) | ((with_reducible first | apply w_mapput (tok Try.prog)); exact zV; exact zV; exact zV; exact zH; exact zT; exact zU; exact zT; exact zU; exact zT; exact zG) | ((with_reducible first | apply w_store (tok Try.prog)); exact zV; exact zV; exact zS) | ((with_reducible first | apply wcall' | apply wr_call); exact zV; exact zVs; exact zAs; (focus (with_unfolding_all first | exact h47)); decide) | ((with_reducible first | apply w_ift'); exact zV; exact zU) | ((with_reducible first | apply w_iff'); exact zV; exact zU) | ((with_reducible apply w_ret); (repeat (with_reducible first | apply go_ret | apply blk_ret)); (with_reducible apply done_ret (tok Try.prog)); exact zT; exact zD; exact zX) | fail
              all_goals try clear tE
              rw [ev, hix]; simp [okL, hm, hk, tup]
              intro h; simp at hin; exact absurd hin h
            | false =>
              have m1 : findM u.p .i64 (entM .i64 .i64 (ones s)) 0 = some none := findM_none (ones_ne hin)
              have m2 : findM u.p .i64 (entM .i64 .i64 (ones s ++ [(u.p, 1)])) 0 = some (some ((ones s).length, .int .i64 1)) := findM_last (ones_ne hin)
              have m3 : ((1 : Int) > 1) = False := by simp
              have tE := And.intro (@upd_upd AV) <| And.intro (@upd_upd (Option Blk)) <| And.intro Cf.cells.eq_1 <| And.intro Fr.cells.eq_1 <| And.intro frRows_len <| And.intro g1 <| And.intro g0 <| And.intro hr <| And.intro hw <| And.intro hm <| And.intro hk' <| And.intro w1 <| And.intro m1 <| And.intro m2 <| And.intro m3 <| And.intro ty3 <| And.intro ty4 <| And.intro ty5 <| And.intro ty23 <| And.intro ty24 <| And.intro ty26 <| And.intro ty29 <| And.intro ty34 <| And.intro ty35 <| And.intro ty37 <| And.intro ty81 <| Try.results11; repeat' first | ((with_reducible first | apply w_seq | apply w_region | apply wl_nil | apply wr_nil | apply wr_nilA | apply wr_nilE | apply go_normal | apply go_ret | apply go_exit | apply blk_normal | apply blk_ret | apply blk_here | apply w_block | apply w_skip | apply w_exit | apply w_label)) | ((with_reducible first | apply wz (tok Try.prog) | apply wr_z (tok Try.prog)); exact zZ; decide) | ((with_reducible first | apply w_alloc (tok Try.prog)); exact zT; decide) | ((with_reducible first | apply w_mapget (tok Try.prog)); exact zV; exact zV; exact zH; exact zT; exact zU; exact zT; exact zU; exact zT; exact zU; exact zT; exact zG; decide) | ((with_reducible first | apply w_mapput (tok Try.prog)); exact zV; exact zV; exact zV; exact zH; exact zT; exact zU; exact zT; exact zU; exact zT; exact zG) | ((with_reducible first | apply w_store (tok Try.prog)); exact zV; exact zV; exact zS) | ((with_reducible first | apply wcall' | apply wr_call); exact zV; exact zVs; exact zAs; (focus (with_unfolding_all first | exact h47)); decide) | ((with_reducible first | apply w_ift'); exact zV; exact zU) | ((with_reducible first | apply w_iff'); exact zV; exact zU) | fail
              all_goals try clear tE
              refine ⟨i + 1, by omega, ⟨by omega, by rw [hix, hh]; simp only [okL, hm, hk', Bool.true_and, cond_false, hin, Bool.not_false]⟩, ?_⟩
              rw [hh, ← ones_snoc]
              (have tE := And.intro (@upd_upd AV) <| @upd_upd (Option Blk); refine kcanS [0] (h6 := ?_)); clear tE
              exact ⟨⟨0, _, rfl, rfl, .map (entM_pur _ _ _)⟩, trivial⟩
      · have g1 : ((i : Int) < (f.l.length : Int)) = False := by simp; omega
        have hd : f.l.drop i = [] := List.drop_eq_nil_iff.2 (by omega)
        rw [hd] at hix
        have tE := And.intro (@upd_upd AV) <| And.intro (@upd_upd (Option Blk)) <| And.intro Cf.cells.eq_1 <| And.intro Fr.cells.eq_1 <| And.intro frRows_len <| And.intro g1 <| And.intro ty3 <| And.intro ty4 <| And.intro ty5 <| And.intro ty23 <| And.intro ty24 <| And.intro ty26 <| And.intro ty29 <| And.intro ty34 <| And.intro ty35 <| And.intro ty37 <| And.intro ty81 <| Try.results11; repeat' first | ((with_reducible first | apply w_seq | apply w_region | apply wl_nil | apply wr_nil | apply wr_nilA | apply wr_nilE | apply go_normal | apply go_ret | apply go_exit | apply blk_normal | apply blk_ret | apply blk_here | apply w_block | apply w_skip | apply w_exit | apply w_label)) | ((with_reducible first | apply wz (tok Try.prog) | apply wr_z (tok Try.prog)); exact zZ; decide) | ((with_reducible first | apply w_iff'); exact zV; exact zU) | ((with_reducible apply w_ret); (repeat (with_reducible first | apply go_ret | apply blk_ret)); (with_reducible apply done_ret (tok Try.prog)); exact zT; exact zD; exact zX) | fail
        all_goals try clear tE
        rw [ev, hix]; rfl
end Go.Proofs.Ytlmighkbeacjnaa
