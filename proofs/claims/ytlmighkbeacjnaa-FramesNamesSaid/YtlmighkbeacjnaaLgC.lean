/- Walk rules: a row of code by the form of its operation. -/
import Derived.Test.YtlmighkbeacjnaaLgB
set_option linter.unusedVariables false
set_option linter.unusedSimpArgs false
set_option linter.unusedSectionVars false
namespace Go.Lg
open Go

section rules
variable {P : Program} {B : Fb → Prop} {T : TT} {N m : Nat} {all rest : List Oper} {Q : AEx → St → Prop} {tm : Nat → AV} {hp : Heap} {n : Nat} {df : List Nat}
  {d : Nat} {op : Op} {ty : TypeId} {pos : String} {af : Array Edge} {j : Nat} {want : Bool} {x : AV} {t : Nat} {b : Bool}

def gslot (all : List Oper) (j : Nat) : Option Tmp := match all[j]? with
  | some o => o.dst
  | none => none
theorem ung_none {o : Oper} (h : o.guard = none) : unguarded all o tm true := by unfold unguarded; rw [h]
theorem ung_some {o : Oper} {c : Bool} (h : o.guard = some (j, want)) (hg : gslot all j = some t) (ht : tm t = .bool c) : unguarded all o tm (c == want) := by
  unfold unguarded
  rw [h]
  unfold gslot at hg
  split at hg
  · rename_i oj ho; exact ⟨oj, t, ho, hg, .inl ⟨c, ht, rfl⟩⟩
  · cases hg
/-- A guard that isn't met: it says otherwise, or was itself left out. -/
def isOff (want : Bool) : AV → Bool
  | .bool c => c != want
  | .tuple [] => true
  | _ => false
theorem ung_off {o : Oper} {y : AV} (h : o.guard = some (j, want)) (hg : gslot all j = some t) (ht : tm t = y) (hy : isOff want y = true) : unguarded all o tm false := by
  unfold unguarded
  rw [h]
  unfold gslot at hg
  split at hg
  · rename_i oj ho
    refine ⟨oj, t, ho, hg, ?_⟩
    unfold isOff at hy
    split at hy
    · rename_i c; exact .inl ⟨c, ht, by simpa using hy⟩
    · exact .inr ⟨ht, rfl⟩
    · cases hy
  · cases hg

theorem wv (hT : TOK P T) (hx : pv T tm op = some x) (hd : d < N) (h : WL P B N m all rest Q ⟨upd tm d x, hp, n, df⟩) : WL P B N m all (⟨some d, op, ty, pos, af, none⟩ :: rest) Q ⟨tm, hp, n, df⟩ :=
  wl_op (o := ⟨some d, op, ty, pos, af, none⟩) (ung_none rfl) (fun _ h => by cases h; exact hd) (fun c h => by
    have h : op = .defer c := h
    rw [h] at hx; cases hx) (pv_sound hT hx) h
theorem wvg (hT : TOK P T) (hg : gslot all j = some t) (ht : tm t = .bool want) (hx : pv T tm op = some x) (hd : d < N) (h : WL P B N m all rest Q ⟨upd tm d x, hp, n, df⟩) : WL P B N m all (⟨some d, op, ty, pos, af, some (j, want)⟩ :: rest) Q ⟨tm, hp, n, df⟩ :=
  wl_op (o := ⟨some d, op, ty, pos, af, some (j, want)⟩) (by have := ung_some (o := ⟨some d, op, ty, pos, af, some (j, want)⟩) (tm := tm) rfl hg ht; simpa using this) (fun _ h => by cases h; exact hd) (fun c h => by
    have h : op = .defer c := h
    rw [h] at hx; cases hx) (pv_sound hT hx) h
theorem wskip (hg : gslot all j = some t) (ht : tm t = .bool (!want)) (hd : d < N) (h : WL P B N m all rest Q ⟨upd tm d (.tuple []), hp, n, df⟩) : WL P B N m all (⟨some d, op, ty, pos, af, some (j, want)⟩ :: rest) Q ⟨tm, hp, n, df⟩ :=
  wl_skip (o := ⟨some d, op, ty, pos, af, some (j, want)⟩) (by have := ung_some (o := ⟨some d, op, ty, pos, af, some (j, want)⟩) (tm := tm) rfl hg ht; simpa using this) (fun _ h => by cases h; exact hd) h
theorem wskip0 (hg : gslot all j = some t) (ht : tm t = .bool (!want)) (h : WL P B N m all rest Q ⟨tm, hp, n, df⟩) : WL P B N m all (⟨none, op, ty, pos, af, some (j, want)⟩ :: rest) Q ⟨tm, hp, n, df⟩ :=
  wl_skip (o := ⟨none, op, ty, pos, af, some (j, want)⟩) (by have := ung_some (o := ⟨none, op, ty, pos, af, some (j, want)⟩) (tm := tm) rfl hg ht; simpa using this) (fun _ h => by cases h) h
theorem upd_self {α : Type} {f : Nat → α} {i : Nat} {x : α} (h : f i = x) : upd f i x = f := by
  funext k; unfold upd; split
  · rename_i e; rw [e, h]
  · rfl
/-- Where a guard isn't known: both. -/
theorem wsplit {o : Option Tmp} (_ : gslot all j = some t) (ht : tm t = .bool b) (h : (b = true → WL P B N m all (⟨o, op, ty, pos, af, some (j, want)⟩ :: rest) Q ⟨upd tm t (.bool true), hp, n, df⟩) ∧ (b = false → WL P B N m all (⟨o, op, ty, pos, af, some (j, want)⟩ :: rest) Q ⟨upd tm t (.bool false), hp, n, df⟩)) :
    WL P B N m all (⟨o, op, ty, pos, af, some (j, want)⟩ :: rest) Q ⟨tm, hp, n, df⟩ := by
  cases b with
  | true => have := h.1 rfl; rwa [upd_self ht] at this
  | false => have := h.2 rfl; rwa [upd_self ht] at this

theorem w_if {c : Operand} {u v : Code} (hc : evo tm c = some (.bool b)) (h : (b = true → W P B N m u Q ⟨tm, hp, n, df⟩) ∧ (b = false → W P B N m v Q ⟨tm, hp, n, df⟩)) : W P B N m (.cond c u v) Q ⟨tm, hp, n, df⟩ := by
  intro K a hm hs
  have hv := (evo_sound hs.tr hc).bool_inv
  refine mw_cond hv ?_
  cases b with
  | true => exact h.1 rfl K a hm hs
  | false => exact h.2 rfl K a hm hs
theorem w_ift {c : Operand} {u v : Code} (hc : evo tm c = some (.bool true)) (h : W P B N m u Q ⟨tm, hp, n, df⟩) : W P B N m (.cond c u v) Q ⟨tm, hp, n, df⟩ := w_if hc ⟨fun _ => h, fun h => Bool.noConfusion h⟩
theorem w_iff {c : Operand} {u v : Code} (hc : evo tm c = some (.bool false)) (h : W P B N m v Q ⟨tm, hp, n, df⟩) : W P B N m (.cond c u v) Q ⟨tm, hp, n, df⟩ := w_if hc ⟨fun h => Bool.noConfusion h, fun _ => h⟩
end rules

/-! the same with the value found first, then compared -/
section two
variable {P : Program} {B : Fb → Prop} {T : TT} {N m : Nat} {all rest : List Oper} {Q : AEx → St → Prop} {tm : Nat → AV} {hp : Heap} {n : Nat} {df : List Nat}
  {d : Nat} {op : Op} {ty : TypeId} {pos : String} {af : Array Edge} {j : Nat} {want : Bool} {x y : AV} {t : Nat}
theorem wvg' (hT : TOK P T) (hg : gslot all j = some t) (ht : tm t = y) (hy : y = .bool want) (hx : pv T tm op = some x) (hd : d < N) (h : WL P B N m all rest Q ⟨upd tm d x, hp, n, df⟩) : WL P B N m all (⟨some d, op, ty, pos, af, some (j, want)⟩ :: rest) Q ⟨tm, hp, n, df⟩ :=
  wvg hT hg (ht.trans hy) hx hd h
theorem wskip' (hg : gslot all j = some t) (ht : tm t = y) (hy : isOff want y = true) (hd : d < N) (h : WL P B N m all rest Q ⟨upd tm d (.tuple []), hp, n, df⟩) : WL P B N m all (⟨some d, op, ty, pos, af, some (j, want)⟩ :: rest) Q ⟨tm, hp, n, df⟩ :=
  wl_skip (o := ⟨some d, op, ty, pos, af, some (j, want)⟩) (ung_off rfl hg ht hy) (fun _ h => by cases h; exact hd) h
theorem wskip0' (hg : gslot all j = some t) (ht : tm t = y) (hy : isOff want y = true) (h : WL P B N m all rest Q ⟨tm, hp, n, df⟩) : WL P B N m all (⟨none, op, ty, pos, af, some (j, want)⟩ :: rest) Q ⟨tm, hp, n, df⟩ :=
  wl_skip (o := ⟨none, op, ty, pos, af, some (j, want)⟩) (ung_off rfl hg ht hy) (fun _ h => by cases h) h
theorem w_ift' {c : Operand} {u v : Code} (hc : evo tm c = some y) (hy : y = .bool true) (h : W P B N m u Q ⟨tm, hp, n, df⟩) : W P B N m (.cond c u v) Q ⟨tm, hp, n, df⟩ := w_ift (by rw [hc, hy]) h
theorem w_iff' {c : Operand} {u v : Code} (hc : evo tm c = some y) (hy : y = .bool false) (h : W P B N m v Q ⟨tm, hp, n, df⟩) : W P B N m (.cond c u v) Q ⟨tm, hp, n, df⟩ := w_iff (by rw [hc, hy]) h
end two
theorem upd_b {α : Type} (f : Nat → α) (i : Nat) (x : α) (j : Nat) : upd f i x j = bif j == i then x else f j := by
  unfold upd; by_cases h : j = i
  · subst h; simp
  · rw [if_neg h, beq_false_of_ne h]; rfl
theorem args0_nil (t : Nat) : args0 [] t = .tuple [] := rfl
theorem args0_zero (x : AV) (xs : List AV) : args0 (x :: xs) 0 = x := rfl
theorem args0_succ (x : AV) (xs : List AV) (t : Nat) : args0 (x :: xs) (t + 1) = args0 xs t := rfl
section ends
variable {next : St → Prop} {Q : AEx → St → Prop} {σ : St}
theorem go_normal (h : next σ) : AEx.go next Q .normal σ := h
theorem go_ret (h : Q .ret σ) : AEx.go next Q .ret σ := h
theorem go_exit {i : Nat} (h : Q (.exit i) σ) : AEx.go next Q (.exit i) σ := h
theorem go_goto {i : Nat} (h : Q (.goto i) σ) : AEx.go next Q (.goto i) σ := h
theorem blk_normal {id : Nat} (h : Q .normal σ) : AEx.blk id Q .normal σ := h
theorem blk_ret {id : Nat} (h : Q .ret σ) : AEx.blk id Q .ret σ := h
theorem blk_goto {id i : Nat} (h : Q (.goto i) σ) : AEx.blk id Q (.goto i) σ := h
theorem blk_here {id : Nat} (h : Q .normal σ) : AEx.blk id Q (.exit id) σ := by simpa [AEx.blk] using h
theorem blk_off {id i : Nat} (hn : i ≠ id) (h : Q (.exit i) σ) : AEx.blk id Q (.exit i) σ := by simpa [AEx.blk, hn] using h
theorem done_ret {P : Program} {T : TT} (hT : TOK P T) {fn : Func} {X : AV → Prop} {rs : Array ResultVar} {xs : List AV} {tm : Nat → AV} {hp : Heap} {n : Nat} (hr : fn.results = rs) (h : resA T ⟨tm, hp, n, []⟩ rs.toList = some xs) (hpu : Pur (tup xs)) (hx : X (tup xs)) : DoneP P fn X .ret ⟨tm, hp, n, []⟩ :=
  ⟨rfl, tup xs, resv_of hT (by rw [hr]; exact h), hpu, hx⟩
theorem done_end {P : Program} {T : TT} (hT : TOK P T) {fn : Func} {X : AV → Prop} {rs : Array ResultVar} {xs : List AV} {tm : Nat → AV} {hp : Heap} {n : Nat} (hr : fn.results = rs) (h : resA T ⟨tm, hp, n, []⟩ rs.toList = some xs) (hpu : Pur (tup xs)) (hx : X (tup xs)) : DoneP P fn X .normal ⟨tm, hp, n, []⟩ :=
  ⟨rfl, tup xs, resv_of hT (by rw [hr]; exact h), hpu, hx⟩
end ends
end Go.Lg
