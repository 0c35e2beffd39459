/- Drawn regions that leave own memory alone. -/
import Derived.Test.YtlmighkbeacjnaaLgI
set_option linter.unusedVariables false
set_option linter.unusedSimpArgs false
set_option linter.unusedSectionVars false
namespace Go.Lg
open Go
def AtH (h0 : Heap) (n0 : Nat) : Nat → Heap → Nat → Prop := fun _ h n => h = h0 ∧ n = n0
section
variable {P : Program} {B : Fb → Prop} {N m : Nat} {Q : AEx → St → Prop} {T : TT} {all rest : List Oper} {df : List Nat} {bb : Bool} {k : Nat} {tm : Nat → AV} {hp : Heap} {n : Nat}
  {d : Nat} {op : Op} {ty : TypeId} {pos : String} {af : Array Edge} {j : Nat} {want b : Bool} {x y : AV} {t : Nat}
theorem w_draw0 {id : Nat} {ops : Array Oper} (hmx : P.follows .mixedOrders = true) (hd : drawOk ops.toList = true) (hw : WR P B N m ops.toList (AtH hp n) Q df false 0 ops.toList tm hp n) : W P B N m (.region id ops true) Q ⟨tm, hp, n, df⟩ :=
  w_draw hmx hd hw
theorem wr_x0 (hT : TOK P T) (hx : pvx T tm hp op = some x) (hd : d < N) (h : WR P B N m all (AtH hp n) Q df bb (k + 1) rest (upd tm d x) hp n) : WR P B N m all (AtH hp n) Q df bb k (⟨some d, op, ty, pos, af, none⟩ :: rest) tm hp n :=
  wr_x hT (fun h' n' ⟨e, _⟩ => by rw [e]; exact hx) (fun c h => by rw [h] at hx; cases hx) hd h
theorem wr_xg0 (hT : TOK P T) (hg : gslot all j = some t) (ht : tm t = y) (hy : y = .bool want) (hx : pvx T tm hp op = some x) (hd : d < N) (h : WR P B N m all (AtH hp n) Q df bb (k + 1) rest (upd tm d x) hp n) : WR P B N m all (AtH hp n) Q df bb k (⟨some d, op, ty, pos, af, some (j, want)⟩ :: rest) tm hp n :=
  wr_xg hT hg ht hy (fun h' n' ⟨e, _⟩ => by rw [e]; exact hx) (fun c h => by rw [h] at hx; cases hx) hd h
theorem wr_nil (h : Q .normal ⟨tm, hp, n, df⟩) : WR P B N m all (AtH hp n) Q df bb k [] tm hp n := .nil (fun _ _ => ⟨rfl, rfl⟩) h
end

theorem pur_bool (b : Bool) : Pur (.bool b) ↔ True := ⟨fun _ => trivial, fun _ => .bool b⟩
theorem pur_int (k : IntKind) (n : Int) : Pur (.int k n) ↔ True := ⟨fun _ => trivial, fun _ => .int k n⟩
theorem pur_str (s : List UInt8) : Pur (.str s) ↔ True := ⟨fun _ => trivial, fun _ => .str s⟩
theorem pur_empty : Pur .empty ↔ True := ⟨fun _ => trivial, fun _ => .empty⟩
theorem pur_nilptr : Pur .nilptr ↔ True := ⟨fun _ => trivial, fun _ => .nilptr⟩
theorem pur_nilFunc : Pur .nilFunc ↔ True := ⟨fun _ => trivial, fun _ => .nilFunc⟩
theorem pur_nilIface : Pur .nilIface ↔ True := ⟨fun _ => trivial, fun _ => .nilIface⟩
theorem pur_any : Pur .any ↔ True := ⟨fun _ => trivial, fun _ => .any⟩
theorem pur_agg (cs : List AV) : Pur (.agg cs) ↔ ∀ x, x ∈ cs → Pur x := ⟨fun h => by cases h; assumption, .agg⟩
theorem pur_tuple (cs : List AV) : Pur (.tuple cs) ↔ ∀ x, x ∈ cs → Pur x := ⟨fun h => by cases h; assumption, .tuple⟩
theorem pur_vptr (cs : List AV) : Pur (.vptr cs) ↔ ∀ x, x ∈ cs → Pur x := ⟨fun h => by cases h; assumption, .vptr⟩
theorem pur_view (rows : List (List AV)) : Pur (.view rows) ↔ ∀ r, r ∈ rows → ∀ x, x ∈ r → Pur x := ⟨fun h => by cases h; assumption, .view⟩
theorem pur_iface (t : TypeId) (x : AV) : Pur (.iface t x) ↔ Pur x := ⟨fun h => by cases h; assumption, .iface⟩
theorem pur_func (fn : Fn) (a b : List AV) : Pur (.func fn a b) ↔ (∀ x, x ∈ a → Pur x) ∧ ∀ x, x ∈ b → Pur x := ⟨fun h => by cases h; constructor <;> assumption, fun h => .func h.1 h.2⟩
end Go.Lg
