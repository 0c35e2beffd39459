/- The evaluator: its top. -/
import Derived.Test.YtlmighkbeacjnaaGreatDoorLm13

set_option linter.unusedSimpArgs false
set_option linter.unusedSectionVars false
namespace Go.Lg
open Go
variable [GO]
set_option linter.unusedVariables false
def effB (op : Op) : Bool :=
  match op with
  | .move _ | .assign _ | .pick _ _ _ | .load _ _ | .nilCheck _ | .binOp _ _ _ _ _ | .unOp _ _ _ | .convert _ _ _ | .makeInterface _ _ | .makeFunc _ _ _ | .slice _ _ _ _ _ | .fieldAddr _ _ _ | .field _ _ _ | .indexAddr _ _ _ | .index _ _ _ | .lookup _ _ _ _ | .typeAssert _ _ _ _ | .extract _ _ | .build _ _ => false
  | .call { callee := .builtin b, .. } => match b with
    | .len | .cap | .max | .min => false
    | _ => true
  | _ => true
def effs (all : List Oper) : List Nat := (List.range all.length).filter fun i => match all[i]? with
  | some o => effB o.op
  | none => false
def depsOf (all : List Oper) (i : Nat) : List Nat := match all[i]? with
  | some o => (o.after.toList.filter (Region.binds .any)).map (·.on)
  | none => []
/-- An order that has what leaves memory alone as early as may be. -/
def linG (all : List Oper) (E : List Nat) : Nat → List Nat → List Nat → List Nat
  | 0, seen, _ => seen
  | f + 1, seen, π => match (List.range all.length).find? fun i => !seen.contains i && (!E.contains i && (depsOf all i).all seen.contains) with
    | some i => linG all E f (i :: seen) π
    | none => match π with
      | e :: π' => linG all E f (e :: seen) π'
      | [] => seen
def linOf (all : List Oper) (π : List Nat) : List Nat := (linG all π all.length [] π).reverse
def wsOf (all : List Oper) (E : List Nat) : List (List Nat × List Nat) := (ordersR (relOf all) E.length E).map fun π => (π, linOf all π)
def chkD (all : List Oper) (E : List Nat) (Ws : List (List Nat × List Nat)) : Bool :=
  drawOk all && ((E.all fun e => decide (e < all.length)) && (decide E.Nodup && (((ordersR (relOf all) E.length E).all fun π => Ws.any fun w => w.1 == π) &&
      (Ws.all fun w => edgeOk all.length [] (prs all w.2) && (decide w.1.Nodup && ((w.1.all E.contains) && (E.all w.1.contains)))))))
def runs (f : List Nat × List Nat → Option O) : List (List Nat × List Nat) → Option (List O)
  | [] => some []
  | w :: r => match f w with
    | some s => match runs f r with
      | some L => some (s :: L)
      | none => none
    | none => none
theorem runs_mem {f : List Nat × List Nat → Option O} : ∀ {Ws : List (List Nat × List Nat)} {L : List O}, runs f Ws = some L → ∀ w, w ∈ Ws → ∃ s, f w = some s ∧ s ∈ L
  | [], _, _, w, hw => by cases hw
  | w0 :: r, L, h, w, hw => by
    unfold runs at h
    cases h1 : f w0 with
    | none => rw [h1] at h; cases h
    | some s =>
      cases h2 : runs f r with
      | none => rw [h1, h2] at h; cases h
      | some L' =>
        rw [h1, h2] at h
        cases h
        rcases List.mem_cons.1 hw with rfl | hw
        · exact ⟨s, h1, List.mem_cons_self ..⟩
        · obtain ⟨s', h3, h4⟩ := runs_mem h2 w hw
          exact ⟨s', h3, List.mem_cons_of_mem _ h4⟩
noncomputable def evD (ev : Env) (ask : Ask) (N : Nat) (all : List Oper) (s : S) : Option (List O) :=
  match chkD all (effs all) (wsOf all (effs all)) with
  | true => match runs (fun w => evW ev ask N all w.1 w.2 0 [] [] s) (wsOf all (effs all)) with
    | some L => match L with
      | _ :: _ :: _ => some (dedO L)
      | L => some L
    | none => none
  | false => none
theorem allW_of {p : List Nat → List Nat → Prop} : ∀ {Ws : List (List Nat × List Nat)}, (∀ w, w ∈ Ws → p w.1 w.2) → AllW p Ws
  | [], _ => fm_nil
  | (a, b) :: r, h => fm_cons (h (a, b) (List.mem_cons_self ..)) (allW_of fun w hw => h w (List.mem_cons_of_mem _ hw))
theorem evD_sound {P : Program} {ev : Env} (hv : EnvOK P ev) (hmx : P.follows .mixedOrders = true) {ask : Ask} (ha : AskOK P ask) (rd : Bool) (N m id : Nat) (ops : Array Oper) (s : S) (L : List O) (h : evD ev ask N ops.toList s = some L) :
    W P (PB rd) N m (.region id ops true) (Out L) s.st := by
  unfold evD at h
  split at h
  · rename_i hc
    refine w_drawNR (relOf_ok ops.toList) (tm := tmF s.tm) (h := hF s.h) (n := s.n) (df := s.df) (effs ops.toList) (wsOf ops.toList (effs ops.toList)) hmx hc (allW_of fun w hw => ?_)
    obtain ⟨s', h1, h2⟩ : ∃ s', evW ev ask N ops.toList w.1 w.2 0 [] [] s = some s' ∧ s' ∈ L := by
      split at h
      · rename_i L0 h0
        obtain ⟨s', h1, h2⟩ := runs_mem h0 w hw
        split at h
        · cases h; exact ⟨s', h1, dedO_mem h2⟩
        · cases h; exact ⟨s', h1, h2⟩
      · cases h
    exact (evW_sound hv ha (Q := Out L) w.2 0 [] [] [] [] s s' rfl .nil h1 ⟨_, h2, rfl, rfl⟩).2
  · cases h
noncomputable def evR (ev : Env) (fuel : Nat) : Ask :=
  Nat.rec (motive := fun _ => Ask) (fun _ _ _ => none) (fun _ ih rq h n => match rq with
    | .fn g args => match ev.fz g with
      | true => evZ (ev.fa g) (evF ev ih (evD ev ih) g) args h n
      | false => evF ev ih (evD ev ih) g args h n
    | .yd id args => evY ev ih (evD ev ih) id args h n) fuel
theorem evR_ok {P : Program} {ev : Env} (hv : EnvOK P ev) (hmx : P.follows .mixedOrders = true) : ∀ fuel, AskOK P (evR ev fuel)
  | 0 => fun rq h n L e => by cases e
  | f + 1 => fun rq h n L e => by
    have ih := evR_ok hv hmx f
    cases rq with
    | fn g args =>
      have run : ∀ args h n L, evF ev (evR ev f) (evD ev (evR ev f)) g args h n = some L → Callable P g ∧ AC P g args (hF h) n (COut L) := fun args h n L e => evF_sound hv ih (fun rd N m id ops s L => evD_sound hv hmx ih rd N m id ops s L) e
      replace e : (match ev.fz g with
        | true => evZ (ev.fa g) (evF ev (evR ev f) (evD ev (evR ev f)) g) args h n
        | false => evF ev (evR ev f) (evD ev (evR ev f)) g args h n) = some L := e
      split at e
      · exact evZ_sound run e
      · exact run _ _ _ _ e
    | yd id args => exact evY_sound hv ih (fun rd N m id ops s L => evD_sound hv hmx ih rd N m id ops s L) (show evY ev (evR ev f) (evD ev (evR ev f)) id args h n = some L from e)
/-- All ways end by this value, which tells of no own memory. -/
noncomputable def isRet (y : AV) : List CO → Bool
  | [] => true
  | o :: r => (match o.r with
    | .ret x => eqAV 9 x y
    | .panic _ => false) && isRet y r
theorem isRet_sound {y : AV} : ∀ {L : List CO}, isRet y L = true → ∀ o, o ∈ L → o.r = .ret y
  | [], _, o, ho => by cases ho
  | c :: r, h, o, ho => by
    obtain ⟨h1, h2⟩ := Bool.and_eq_true_iff.1 h
    rcases List.mem_cons.1 ho with rfl | ho
    · split at h1
      · rename_i x hx; rw [hx, eqAV_sound 9 _ _ h1]
      · cases h1
    · exact isRet_sound h2 o ho
noncomputable def runsTo (ev : Env) (fuel : Nat) (g : FuncId) (args : List AV) (y : AV) : Bool :=
  match evR ev fuel (.fn g args) .nil 0 with
  | some L => isRet y L
  | none => false
theorem hF_nil : hF .nil = hl [] := rfl
theorem pf_of_ev {P : Program} {ev : Env} (hv : EnvOK P ev) (hmx : P.follows .mixedOrders = true) {fuel : Nat} {g : FuncId} {args : List AV} {y : AV} (ha : ∀ x, x ∈ args → Pur x) (hy : Pur y) (h : runsTo ev fuel g args y = true) : PF P g args (fun r => r = y) := by
  unfold runsTo at h
  split at h
  · rename_i L hL
    obtain ⟨h1, h2⟩ := evR_ok hv hmx fuel _ _ _ _ hL
    refine pf_of_ac0 h1 ha ?_
    rw [hF_nil] at h2
    refine h2.mono ?_
    rintro r H n ⟨o, ho, rfl, rfl, rfl⟩
    exact ⟨y, isRet_sound h o ho, hy, rfl⟩
  · cases h
end Go.Lg


