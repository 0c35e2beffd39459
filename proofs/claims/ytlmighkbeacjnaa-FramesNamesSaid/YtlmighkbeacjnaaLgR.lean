/- The walk's rules once more, fewer: what is only computed and what is read, by one function. -/
import Derived.Test.YtlmighkbeacjnaaLgQ
set_option linter.unusedVariables false
set_option linter.unusedSimpArgs false
set_option linter.unusedSectionVars false
namespace Go.Lg
open Go
/-- Slots by a list; all others are anything. -/
def sp : List (Nat × AV) → Nat → AV
  | [], _ => .any
  | (k, x) :: r, j => bif j == k then x else sp r j
theorem sp_nil (j : Nat) : sp [] j = .any := rfl
theorem sp_cons (k : Nat) (x : AV) (r : List (Nat × AV)) (j : Nat) : sp ((k, x) :: r) j = bif j == k then x else sp r j := rfl
def natO (tm : Nat → AV) : Option Operand → Option (Option Nat)
  | none => some none
  | some x => match evo tm x with
    | some (.int _ n) => if 0 ≤ n then some (some n.toNat) else none
    | _ => none
def pvz (T : TT) (tm : Nat → AV) (h : Heap) (op : Op) : Option AV := (pv T tm op).or (pvx T tm h op)
section
variable {P : Program} {B : Fb → Prop} {N m : Nat} {Q : AEx → St → Prop} {T : TT} {all rest : List Oper} {df : List Nat} {bb : Bool} {k : Nat} {tm : Nat → AV} {hp : Heap} {n : Nat}
  {d : Nat} {op : Op} {ty : TypeId} {pos : String} {af : Array Edge} {j : Nat} {want b : Bool} {x y : AV} {t : Nat}
theorem pvz_cases (hx : pvz T tm hp op = some x) : pv T tm op = some x ∨ pvx T tm hp op = some x := by
  unfold pvz at hx
  cases h : pv T tm op with
  | none => rw [h] at hx; exact .inr hx
  | some y => rw [h] at hx; exact .inl hx
theorem wz (hT : TOK P T) (hx : pvz T tm hp op = some x) (hd : d < N) (h : WL P B N m all rest Q ⟨upd tm d x, hp, n, df⟩) : WL P B N m all (⟨some d, op, ty, pos, af, none⟩ :: rest) Q ⟨tm, hp, n, df⟩ :=
  (pvz_cases hx).elim (fun h1 => wv hT h1 hd h) (fun h1 => wx hT h1 hd h)
theorem wzg (hT : TOK P T) (hg : gslot all j = some t) (ht : tm t = y) (hy : y = .bool want) (hx : pvz T tm hp op = some x) (hd : d < N) (h : WL P B N m all rest Q ⟨upd tm d x, hp, n, df⟩) : WL P B N m all (⟨some d, op, ty, pos, af, some (j, want)⟩ :: rest) Q ⟨tm, hp, n, df⟩ :=
  (pvz_cases hx).elim (fun h1 => wvg' hT hg ht hy h1 hd h) (fun h1 => wxg hT hg ht hy h1 hd h)
theorem wr_z (hT : TOK P T) (hx : pvz T tm hp op = some x) (hd : d < N) (h : WR P B N m all (AtH hp n) Q df bb (k + 1) rest (upd tm d x) hp n) : WR P B N m all (AtH hp n) Q df bb k (⟨some d, op, ty, pos, af, none⟩ :: rest) tm hp n :=
  (pvz_cases hx).elim (fun h1 => wr_v hT h1 hd h) (fun h1 => wr_x0 hT h1 hd h)
theorem wr_zg (hT : TOK P T) (hg : gslot all j = some t) (ht : tm t = y) (hy : y = .bool want) (hx : pvz T tm hp op = some x) (hd : d < N) (h : WR P B N m all (AtH hp n) Q df bb (k + 1) rest (upd tm d x) hp n) : WR P B N m all (AtH hp n) Q df bb k (⟨some d, op, ty, pos, af, some (j, want)⟩ :: rest) tm hp n :=
  (pvz_cases hx).elim (fun h1 => wr_vg hT hg ht hy h1 hd h) (fun h1 => wr_xg0 hT hg ht hy h1 hd h)
end
end Go.Lg
