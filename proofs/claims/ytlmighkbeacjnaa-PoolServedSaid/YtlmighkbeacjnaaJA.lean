/- Frames behind what was served, and the reference's. -/
import Derived.Test.YtlmighkbeacjnaaHK
open Go Go.Lg
set_option linter.unusedSimpArgs false
set_option linter.unusedVariables false
set_option maxHeartbeats 4000000
set_option maxRecDepth 20000
namespace Go.Proofs.Ytlmighkbeacjnaa
/-- What is served: a unit, and bytes. -/
def dnC (u : Un) (data : List UInt8) : List AV := [.int .u8 u.k, .int .i64 u.p, .int .i64 u.f, .view (byteRows u.d), .view (byteRows data)]
theorem args_5 {a b c d e : AV} (ha : Pur a) (hb : Pur b) (hc : Pur c) (hd : Pur d) (he : Pur e) : ∀ x, x ∈ [a, b, c, d, e] → Pur x := fun x hx => by
  simp only [List.mem_cons, List.not_mem_nil, or_false] at hx
  rcases hx with rfl | rfl | rfl | rfl | rfl <;> assumption
theorem dn_pur (u : Un) (data : List UInt8) : Pur (.agg (dnC u data)) := .agg (args_5 (.int _ _) (.int _ _) (.int _ _) (byteRows_pur _) (byteRows_pur _))
def srvE (c : Cf) (f : Fs) (u : Un) (data : List UInt8) : Int := if okF c f = true then (if mayU c u = true then (if u.k = 2 then 0 else if f.l[u.f.toNat]?.map Fr.p = some u.p then turnE c f u.f (fillE c data) else 2) else 2) else 8
def srvF (c : Cf) (f : Fs) (u : Un) (data : List UInt8) : Fs := if okF c f = true then (if mayU c u = true then (if u.k = 2 then f else if f.l[u.f.toNat]?.map Fr.p = some u.p then turnF c f u.f (fillE c data) (fillV data) else ⟨[], 0⟩) else ⟨[], 0⟩) else ⟨[], 0⟩
theorem wide_qok {c : Cf} (u : Un) (hg : c.good = true) : qok { c with q := 16 } [u] = mayU c u := by
  have h1 : Cf.good { c with q := 16 } = true := by
    simp only [Cf.good, Bool.and_eq_true, decide_eq_true_eq] at hg ⊢
    refine ⟨?_, hg.2⟩
    have hall : ∀ x, x ∈ c.spans → inB x = true := by simpa [Cf.ok] using hg.1
    simp only [Cf.spans, List.mem_cons, List.not_mem_nil, or_false, forall_eq_or_imp, forall_eq] at hall
    simp only [Cf.ok, Cf.spans, List.all_cons, List.all_nil, Bool.and_true, hall, Bool.true_and, Bool.and_self]
    decide
  simp only [qok, h1, Bool.true_and, List.all_cons, List.all_nil, Bool.and_true, List.length_cons, List.length_nil]
  have : mayU { c with q := 16 } u = mayU c u := rfl
  rw [this]
  simp
theorem mayU_parts {c : Cf} {u : Un} (h : mayU c u = true) : (u.k = 2 ∨ u.k = 1) ∧ 0 ≤ u.f ∧ u.f < c.fr := by
  simp only [mayU, decide_eq_true_eq] at h
  exact ⟨by rcases h.1 with h | h; exact .inl h.1; exact .inr h.1, h.2.2.2⟩
theorem pf55_t (f : Fs) (u : Un) (data : List UInt8) (hl : f.l.length ≤ 1000000) (hd : ∀ x, x ∈ f.l → x.d.length ≤ 1000000 ∧ x.pins.length ≤ 1000000) (hk : u.k ≠ 1) : PF Try.prog 55 [.agg f.cells, .agg (dnC u data)] (fun r => r = .agg f.cells) := by
  have h14 := (nf14 f hl hd).pf
  refine pf_of_wf0 Try.func55 (c := _) rfl rfl (Nat.le_of_ble_eq_true rfl) (args_2 (fsa_pur f) (dn_pur u data)) ?_
  rw [show Try.f55.ntmps = 29 from rfl]
  have k1 : (u.k != 1) = true := by simp [hk]
  have tE := And.intro (@upd_upd AV) <| And.intro (@upd_upd (Option Blk)) <| And.intro Fs.cells.eq_1 <| And.intro dnC.eq_1 <| And.intro k1 <| And.intro ty3 <| And.intro ty4 <| And.intro ty5 <| And.intro ty24 <| And.intro ty26 <| And.intro ty34 <| And.intro ty35 <| And.intro ty37 <| And.intro ty42 <| And.intro ty48 <| Try.results55; repeat' first | ((with_reducible first | apply w_seq | apply w_region | apply wl_nil | apply wr_nil | apply wr_nilA | apply wr_nilE | apply go_normal | apply go_ret | apply go_exit | apply blk_normal | apply blk_ret | apply blk_here | apply w_block | apply w_skip | apply w_exit | apply w_label)) | ((with_reducible first | apply wz (tok Try.prog) | apply wr_z (tok Try.prog)); exact zZ; decide) | ((with_reducible first | apply w_alloc (tok Try.prog)); exact zT; decide) | ((with_reducible first | apply w_store (tok Try.prog)); exact zV; exact zV; exact zS) | ((with_reducible first | apply wcall' | apply wr_call); exact zV; exact zVs; exact zAs; (focus (with_unfolding_all first | exact h14)); decide) | ((with_reducible first | apply w_ift'); exact zV; exact zU) | ((with_reducible apply w_ret); (repeat (with_reducible first | apply go_ret | apply blk_ret)); (with_reducible first | apply donef_ret (tok Try.prog) | apply doneA_ret (tok Try.prog)); exact zT; exact zD) | fail
  all_goals try clear tE
  · exact .pur (fsa_pur f)
  · exact fsa_pur f
  · rfl
theorem pf55_w (f : Fs) (u : Un) (data : List UInt8) (a : Nat) (x : Fr) (hl : f.l.length ≤ 1000000) (hd : ∀ x, x ∈ f.l → x.d.length ≤ 1000000 ∧ x.pins.length ≤ 1000000) (hdl : data.length ≤ 1000000) (hk : u.k = 1) (ha : u.f = a) (hx : f.l[a]? = some x) : PF Try.prog 55 [.agg f.cells, .agg (dnC u data)] (fun r => r = .agg (Fs.cells ⟨f.l.set a (fillV data x), f.h⟩)) := by
  have hal := (List.getElem?_eq_some_iff.1 hx).1
  have h60 := pf60 f a (fillV data x) hal hl hd hdl (hd x (List.mem_of_getElem? hx)).2
  simp only [fillV] at h60
  refine pf_of_wf0 Try.func55 (c := _) rfl rfl (Nat.le_of_ble_eq_true rfl) (args_2 (fsa_pur f) (dn_pur u data)) ?_
  rw [show Try.f55.ntmps = 29 from rfl]
  have k1 : (u.k != 1) = false := by simp [hk]
  have hr := fr_row hx
  have c0 : (0 ≤ (a : Int)) = True := by simp
  have c1 : ((a : Int) < (f.l.length : Int)) = True := by simp; omega
  have tE := And.intro (@upd_upd AV) <| And.intro (@upd_upd (Option Blk)) <| And.intro Fs.cells.eq_1 <| And.intro Fr.cells.eq_1 <| And.intro dnC.eq_1 <| And.intro frRows_len <| And.intro k1 <| And.intro ha <| And.intro hr <| And.intro c0 <| And.intro c1 <| And.intro ty3 <| And.intro ty4 <| And.intro ty5 <| And.intro ty24 <| And.intro ty26 <| And.intro ty34 <| And.intro ty35 <| And.intro ty37 <| And.intro ty42 <| And.intro ty48 <| Try.results55; repeat' first | ((with_reducible first | apply w_seq | apply w_region | apply wl_nil | apply wr_nil | apply wr_nilA | apply wr_nilE | apply go_normal | apply go_ret | apply go_exit | apply blk_normal | apply blk_ret | apply blk_here | apply w_block | apply w_skip | apply w_exit | apply w_label)) | ((with_reducible first | apply wz (tok Try.prog) | apply wr_z (tok Try.prog)); exact zZ; decide) | ((with_reducible first | apply w_alloc (tok Try.prog)); exact zT; decide) | ((with_reducible first | apply w_store (tok Try.prog)); exact zV; exact zV; exact zS) | ((with_reducible first | apply wcall' | apply wr_call); exact zV; exact zVs; exact zAs; (focus (with_unfolding_all first | exact h60)); decide) | ((with_reducible first | apply w_iff'); exact zV; exact zU) | ((with_reducible apply w_ret); (repeat (with_reducible first | apply go_ret | apply blk_ret)); (with_reducible first | apply donef_ret (tok Try.prog) | apply doneA_ret (tok Try.prog)); exact zT; exact zD) | fail
  all_goals try clear tE
  · exact .pur (fsa_pur ⟨f.l.set a (fillV data x), f.h⟩)
  · exact fsa_pur ⟨f.l.set a (fillV data x), f.h⟩
  · rfl
theorem pf18 (c : Cf) (f : Fs) (u : Un) (data : List UInt8) (hl : f.l.length ≤ 1000000) (hd : ∀ x, x ∈ f.l → x.d.length ≤ 1000000 ∧ x.pins.length ≤ 1000000) (hdl : data.length ≤ 1000000) : PF Try.prog 18 [.agg c.cells, .agg f.cells, .agg (dnC u data)] (fun r => r = .tuple [.agg (srvF c f u data).cells, .int .i64 (srvE c f u data)]) := by
  have h37 := pf37 c f hl (fun x hx => (hd x hx).2)
  have h54 := pf54 c u
  refine pf_of_wf0 Try.func18 (c := _) rfl rfl (Nat.le_of_ble_eq_true rfl) (args_3 (cf_pur c) (fsa_pur f) (dn_pur u data)) ?_
  rw [show Try.f18.ntmps = 54 from rfl]
  cases hok : okF c f with
  | false =>
    have ev : eF c f = 8 := by simp [eF, hok]
    rw [ev] at h37
    have tE := And.intro (@upd_upd AV) <| And.intro (@upd_upd (Option Blk)) <| And.intro Cf.cells.eq_1 <| And.intro Fs.cells.eq_1 <| And.intro Un.cells.eq_1 <| And.intro dnC.eq_1 <| And.intro ty3 <| And.intro ty4 <| And.intro ty5 <| And.intro ty23 <| And.intro ty24 <| And.intro ty26 <| And.intro ty34 <| And.intro ty35 <| And.intro ty37 <| And.intro ty42 <| And.intro ty48 <| Try.results18; repeat' first | ((with_reducible first | apply w_seq | apply w_region | apply wl_nil | apply wr_nil | apply wr_nilA | apply wr_nilE | apply go_normal | apply go_ret | apply go_exit | apply blk_normal | apply blk_ret | apply blk_here | apply w_block | apply w_skip | apply w_exit | apply w_label)) | ((with_reducible first | apply wz (tok Try.prog) | apply wr_z (tok Try.prog)); exact zZ; decide) | ((with_reducible first | apply w_alloc (tok Try.prog)); exact zT; decide) | ((with_reducible first | apply w_store (tok Try.prog)); exact zV; exact zV; exact zS) | ((with_reducible first | apply wcall' | apply wr_call); exact zV; exact zVs; exact zAs; (focus (with_unfolding_all first | exact h37 | exact h54)); decide) | ((with_reducible first | apply w_ift'); exact zV; exact zU) | ((with_reducible apply w_ret); (repeat (with_reducible first | apply go_ret | apply blk_ret)); (with_reducible first | apply donef_ret (tok Try.prog) | apply doneA_ret (tok Try.prog)); exact zT; exact zD) | fail
    all_goals try clear tE
    · exact tz _ _
    · exact tup_pur (fsa_pur ⟨[], 0⟩) (.int _ _)
    · simp only [srvE, srvF, hok, Bool.false_eq_true, if_false]
  | true =>
    have ev : eF c f = 0 := by simp [eF, hok]
    rw [ev] at h37
    obtain ⟨k1, k2, k3, k4, k5⟩ := okF_parts hok
    cases hm : mayU c u with
    | false =>
      rw [hm] at h54
      have tE := And.intro (@upd_upd AV) <| And.intro (@upd_upd (Option Blk)) <| And.intro Cf.cells.eq_1 <| And.intro Fs.cells.eq_1 <| And.intro Un.cells.eq_1 <| And.intro dnC.eq_1 <| And.intro ty3 <| And.intro ty4 <| And.intro ty5 <| And.intro ty23 <| And.intro ty24 <| And.intro ty26 <| And.intro ty34 <| And.intro ty35 <| And.intro ty37 <| And.intro ty42 <| And.intro ty48 <| Try.results18; repeat' first | ((with_reducible first | apply w_seq | apply w_region | apply wl_nil | apply wr_nil | apply wr_nilA | apply wr_nilE | apply go_normal | apply go_ret | apply go_exit | apply blk_normal | apply blk_ret | apply blk_here | apply w_block | apply w_skip | apply w_exit | apply w_label)) | ((with_reducible first | apply wz (tok Try.prog) | apply wr_z (tok Try.prog)); exact zZ; decide) | ((with_reducible first | apply w_alloc (tok Try.prog)); exact zT; decide) | ((with_reducible first | apply w_store (tok Try.prog)); exact zV; exact zV; exact zS) | ((with_reducible first | apply wcall' | apply wr_call); exact zV; exact zVs; exact zAs; (focus (with_unfolding_all first | exact h37 | exact h54)); decide) | ((with_reducible first | apply w_ift'); exact zV; exact zU) | ((with_reducible first | apply w_iff'); exact zV; exact zU) | ((with_reducible apply w_ret); (repeat (with_reducible first | apply go_ret | apply blk_ret)); (with_reducible first | apply donef_ret (tok Try.prog) | apply doneA_ret (tok Try.prog)); exact zT; exact zD) | fail
      all_goals try clear tE
      · exact tz _ _
      · exact tup_pur (fsa_pur ⟨[], 0⟩) (.int _ _)
      · simp only [srvE, srvF, hok, hm, Bool.false_eq_true, if_false, if_true]
    | true =>
      rw [hm] at h54
      obtain ⟨m1, m2, m3⟩ := mayU_parts hm
      by_cases hk : u.k = 2
      · have g1 : (u.k == 1) = false := by simp [hk]
        have h55 := pf55_t f u data hl hd (by omega)
        have tE := And.intro (@upd_upd AV) <| And.intro (@upd_upd (Option Blk)) <| And.intro Cf.cells.eq_1 <| And.intro Fs.cells.eq_1 <| And.intro Un.cells.eq_1 <| And.intro dnC.eq_1 <| And.intro g1 <| And.intro ty3 <| And.intro ty4 <| And.intro ty5 <| And.intro ty23 <| And.intro ty24 <| And.intro ty26 <| And.intro ty34 <| And.intro ty35 <| And.intro ty37 <| And.intro ty42 <| And.intro ty48 <| Try.results18; repeat' first | ((with_reducible first | apply w_seq | apply w_region | apply wl_nil | apply wr_nil | apply wr_nilA | apply wr_nilE | apply go_normal | apply go_ret | apply go_exit | apply blk_normal | apply blk_ret | apply blk_here | apply w_block | apply w_skip | apply w_exit | apply w_label)) | ((with_reducible first | apply wz (tok Try.prog) | apply wr_z (tok Try.prog)); exact zZ; decide) | ((with_reducible first | apply w_alloc (tok Try.prog)); exact zT; decide) | ((with_reducible first | apply w_store (tok Try.prog)); exact zV; exact zV; exact zS) | ((with_reducible first | apply wcall' | apply wr_call); exact zV; exact zVs; exact zAs; (focus (with_unfolding_all first | exact h37 | exact h54 | exact h55)); decide) | ((with_reducible first | apply w_iff'); exact zV; exact zU) | ((with_reducible apply w_ret); (repeat (with_reducible first | apply go_ret | apply blk_ret)); (with_reducible first | apply donef_ret (tok Try.prog) | apply doneA_ret (tok Try.prog)); exact zT; exact zD) | fail
        all_goals try clear tE
        · exact .pur (tup_pur (fsa_pur f) (.int _ _))
        · exact tup_pur (fsa_pur f) (.int _ _)
        · simp only [srvE, srvF, hok, hm, hk, if_true]
      · have hk1 : u.k = 1 := by omega
        have g1 : (u.k == 1) = true := by simp [hk1]
        obtain ⟨a, ha⟩ : ∃ a : Nat, u.f = a := ⟨u.f.toNat, by omega⟩
        have hal : a < f.l.length := by omega
        obtain ⟨x, hx⟩ : ∃ x, f.l[a]? = some x := ⟨_, List.getElem?_eq_getElem hal⟩
        have hr := fr_row hx
        have c0 : (0 ≤ (a : Int)) = True := by simp
        have c1 : ((a : Int) < (f.l.length : Int)) = True := by simp; omega
        have hE : srvE c f u data = if x.p = u.p then fillE c data x else 2 := by
          simp only [srvE, hok, hm, if_true, if_neg hk, ha, Int.toNat_natCast, hx, Option.map_some, Option.some.injEq]
          have : turnE c f (a : Int) (fillE c data) = fillE c data x := by rw [turnE, if_pos hok, if_neg (by omega), Int.toNat_natCast, hx]
          rw [this]
        have hF : srvF c f u data = if x.p = u.p then (if fillE c data x = 0 then ⟨f.l.set a (fillV data x), f.h⟩ else ⟨[], 0⟩) else ⟨[], 0⟩ := by
          simp only [srvF, hok, hm, if_true, if_neg hk, ha, Int.toNat_natCast, hx, Option.map_some, Option.some.injEq]
          have : turnE c f (a : Int) (fillE c data) = fillE c data x := by rw [turnE, if_pos hok, if_neg (by omega), Int.toNat_natCast, hx]
          rw [turnF, this, Int.toNat_natCast, hx]
        rw [hE, hF]
        simp only [Un.cells, ha] at h54
        by_cases hxk : x.k = 1
        · have g2 : (x.k != 1) = false := by simp [hxk]
          by_cases hp : x.p = u.p
          · have g3 : (x.p != u.p) = false := by simp [hp]
            rw [if_pos hp, if_pos hp]
            by_cases hz : (data.length : Int) = c.z
            · have g4 : ((data.length : Int) != c.z) = false := by simp [hz]
              have h55 := pf55_w f u data a x hl hd hdl hk1 ha hx
              simp only [dnC, ha] at h55
              rw [show fillE c data x = 0 from if_pos ⟨hxk, hz⟩, if_pos rfl]
              have tE := And.intro (@upd_upd AV) <| And.intro (@upd_upd (Option Blk)) <| And.intro Cf.cells.eq_1 <| And.intro Fs.cells.eq_1 <| And.intro Un.cells.eq_1 <| And.intro Fr.cells.eq_1 <| And.intro dnC.eq_1 <| And.intro frRows_len <| And.intro byteRows_len <| And.intro g1 <| And.intro g2 <| And.intro g3 <| And.intro g4 <| And.intro ha <| And.intro hr <| And.intro c0 <| And.intro c1 <| And.intro ty3 <| And.intro ty4 <| And.intro ty5 <| And.intro ty23 <| And.intro ty24 <| And.intro ty26 <| And.intro ty34 <| And.intro ty35 <| And.intro ty37 <| And.intro ty42 <| And.intro ty48 <| Try.results18; repeat' first | ((with_reducible first | apply w_seq | apply w_region | apply wl_nil | apply wr_nil | apply wr_nilA | apply wr_nilE | apply go_normal | apply go_ret | apply go_exit | apply blk_normal | apply blk_ret | apply blk_here | apply w_block | apply w_skip | apply w_exit | apply w_label)) | ((with_reducible first | apply wz (tok Try.prog) | apply wr_z (tok Try.prog)); exact zZ; decide) | ((with_reducible first | apply wzg (tok Try.prog) | apply wr_zg (tok Try.prog)); exact zU; exact zL; exact zU; exact zZ; decide) | ((with_reducible first | apply w_alloc (tok Try.prog)); exact zT; decide) | ((with_reducible first | apply w_store (tok Try.prog)); exact zV; exact zV; exact zS) | ((with_reducible first | apply wcall' | apply wr_call); exact zV; exact zVs; exact zAs; (focus (with_unfolding_all first | exact h37 | exact h54 | exact h55)); decide) | ((with_reducible first | apply w_ift'); exact zV; exact zU) | ((with_reducible first | apply w_iff'); exact zV; exact zU) | ((with_reducible apply w_ret); (repeat (with_reducible first | apply go_ret | apply blk_ret)); (with_reducible first | apply donef_ret (tok Try.prog) | apply doneA_ret (tok Try.prog)); exact zT; exact zD) | fail
              all_goals try clear tE
              · exact .pur (tup_pur (fsa_pur ⟨f.l.set a (fillV data x), f.h⟩) (.int _ _))
              · exact tup_pur (fsa_pur ⟨f.l.set a (fillV data x), f.h⟩) (.int _ _)
              · rfl
            · have g4 : ((data.length : Int) != c.z) = true := by simp [hz]
              rw [show fillE c data x = 2 from if_neg (fun h => hz h.2), if_neg (by decide)]
              have tE := And.intro (@upd_upd AV) <| And.intro (@upd_upd (Option Blk)) <| And.intro Cf.cells.eq_1 <| And.intro Fs.cells.eq_1 <| And.intro Un.cells.eq_1 <| And.intro Fr.cells.eq_1 <| And.intro dnC.eq_1 <| And.intro frRows_len <| And.intro byteRows_len <| And.intro g1 <| And.intro g2 <| And.intro g3 <| And.intro g4 <| And.intro ha <| And.intro hr <| And.intro c0 <| And.intro c1 <| And.intro ty3 <| And.intro ty4 <| And.intro ty5 <| And.intro ty23 <| And.intro ty24 <| And.intro ty26 <| And.intro ty34 <| And.intro ty35 <| And.intro ty37 <| And.intro ty42 <| And.intro ty48 <| Try.results18; repeat' first | ((with_reducible first | apply w_seq | apply w_region | apply wl_nil | apply wr_nil | apply wr_nilA | apply wr_nilE | apply go_normal | apply go_ret | apply go_exit | apply blk_normal | apply blk_ret | apply blk_here | apply w_block | apply w_skip | apply w_exit | apply w_label)) | ((with_reducible first | apply wz (tok Try.prog) | apply wr_z (tok Try.prog)); exact zZ; decide) | ((with_reducible first | apply wzg (tok Try.prog) | apply wr_zg (tok Try.prog)); exact zU; exact zL; exact zU; exact zZ; decide) | ((with_reducible first | apply w_alloc (tok Try.prog)); exact zT; decide) | ((with_reducible first | apply w_store (tok Try.prog)); exact zV; exact zV; exact zS) | ((with_reducible first | apply wcall' | apply wr_call); exact zV; exact zVs; exact zAs; (focus (with_unfolding_all first | exact h37 | exact h54)); decide) | ((with_reducible first | apply w_ift'); exact zV; exact zU) | ((with_reducible first | apply w_iff'); exact zV; exact zU) | ((with_reducible apply w_ret); (repeat (with_reducible first | apply go_ret | apply blk_ret)); (with_reducible first | apply donef_ret (tok Try.prog) | apply doneA_ret (tok Try.prog)); exact zT; exact zD) | fail
              all_goals try clear tE
              · exact tz _ _
              · exact tup_pur (fsa_pur ⟨[], 0⟩) (.int _ _)
              · rfl
          · have g3 : (x.p != u.p) = true := by simp [hp]
            rw [if_neg hp, if_neg hp]
            have tE := And.intro (@upd_upd AV) <| And.intro (@upd_upd (Option Blk)) <| And.intro Cf.cells.eq_1 <| And.intro Fs.cells.eq_1 <| And.intro Un.cells.eq_1 <| And.intro Fr.cells.eq_1 <| And.intro dnC.eq_1 <| And.intro frRows_len <| And.intro byteRows_len <| And.intro g1 <| And.intro g2 <| And.intro g3 <| And.intro ha <| And.intro hr <| And.intro c0 <| And.intro c1 <| And.intro ty3 <| And.intro ty4 <| And.intro ty5 <| And.intro ty23 <| And.intro ty24 <| And.intro ty26 <| And.intro ty34 <| And.intro ty35 <| And.intro ty37 <| And.intro ty42 <| And.intro ty48 <| Try.results18; repeat' first | ((with_reducible first | apply w_seq | apply w_region | apply wl_nil | apply wr_nil | apply wr_nilA | apply wr_nilE | apply go_normal | apply go_ret | apply go_exit | apply blk_normal | apply blk_ret | apply blk_here | apply w_block | apply w_skip | apply w_exit | apply w_label)) | ((with_reducible first | apply wz (tok Try.prog) | apply wr_z (tok Try.prog)); exact zZ; decide) | ((with_reducible first | apply wzg (tok Try.prog) | apply wr_zg (tok Try.prog)); exact zU; exact zL; exact zU; exact zZ; decide) | ((with_reducible first | apply wskip' | apply wr_skip); exact zU; exact zL; exact zU; decide) | ((with_reducible first | apply w_alloc (tok Try.prog)); exact zT; decide) | ((with_reducible first | apply w_store (tok Try.prog)); exact zV; exact zV; exact zS) | ((with_reducible first | apply wcall' | apply wr_call); exact zV; exact zVs; exact zAs; (focus (with_unfolding_all first | exact h37 | exact h54)); decide) | ((with_reducible first | apply w_ift'); exact zV; exact zU) | ((with_reducible first | apply w_iff'); exact zV; exact zU) | ((with_reducible apply w_ret); (repeat (with_reducible first | apply go_ret | apply blk_ret)); (with_reducible first | apply donef_ret (tok Try.prog) | apply doneA_ret (tok Try.prog)); exact zT; exact zD) | fail
            all_goals try clear tE
            · exact tz _ _
            · exact tup_pur (fsa_pur ⟨[], 0⟩) (.int _ _)
            · rfl
        · have g2 : (x.k != 1) = true := by simp [hxk]
          have hf2 : fillE c data x = 2 := if_neg (fun h => hxk h.1)
          rw [show (if x.p = u.p then fillE c data x else 2) = 2 by rw [hf2]; exact ite_self _, show (if x.p = u.p then (if fillE c data x = 0 then (⟨f.l.set a (fillV data x), f.h⟩ : Fs) else ⟨[], 0⟩) else ⟨[], 0⟩) = ⟨[], 0⟩ by rw [hf2]; simp]
          have tE := And.intro (@upd_upd AV) <| And.intro (@upd_upd (Option Blk)) <| And.intro Cf.cells.eq_1 <| And.intro Fs.cells.eq_1 <| And.intro Un.cells.eq_1 <| And.intro Fr.cells.eq_1 <| And.intro dnC.eq_1 <| And.intro frRows_len <| And.intro byteRows_len <| And.intro g1 <| And.intro g2 <| And.intro ha <| And.intro hr <| And.intro c0 <| And.intro c1 <| And.intro ty3 <| And.intro ty4 <| And.intro ty5 <| And.intro ty23 <| And.intro ty24 <| And.intro ty26 <| And.intro ty34 <| And.intro ty35 <| And.intro ty37 <| And.intro ty42 <| And.intro ty48 <| Try.results18; repeat' first | ((with_reducible first | apply w_seq | apply w_region | apply wl_nil | apply wr_nil | apply wr_nilA | apply wr_nilE | apply go_normal | apply go_ret | apply go_exit | apply blk_normal | apply blk_ret | apply blk_here | apply w_block | apply w_skip | apply w_exit | apply w_label)) | ((with_reducible first | apply wz (tok Try.prog) | apply wr_z (tok Try.prog)); exact zZ; decide) | ((with_reducible first | apply wskip' | apply wr_skip); exact zU; exact zL; exact zU; decide) | ((with_reducible first | apply w_alloc (tok Try.prog)); exact zT; decide) | ((with_reducible first | apply w_store (tok Try.prog)); exact zV; exact zV; exact zS) | ((with_reducible first | apply wcall' | apply wr_call); exact zV; exact zVs; exact zAs; (focus (with_unfolding_all first | exact h37 | exact h54)); decide) | ((with_reducible first | apply w_ift'); exact zV; exact zU) | ((with_reducible first | apply w_iff'); exact zV; exact zU) | ((with_reducible apply w_ret); (repeat (with_reducible first | apply go_ret | apply blk_ret)); (with_reducible first | apply donef_ret (tok Try.prog) | apply doneA_ret (tok Try.prog)); exact zT; exact zD) | fail
          all_goals try clear tE
          · exact tz _ _
          · exact tup_pur (fsa_pur ⟨[], 0⟩) (.int _ _)
          · rfl
end Go.Proofs.Ytlmighkbeacjnaa
