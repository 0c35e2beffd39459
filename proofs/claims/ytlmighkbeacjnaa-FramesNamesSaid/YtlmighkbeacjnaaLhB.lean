/- One operation, run: its value and what it does to own memory, by a function. -/
import Derived.Test.YtlmighkbeacjnaaLhA
set_option linter.unusedSimpArgs false
set_option linter.unusedSectionVars false
namespace Go.Lg
open Go
set_option linter.unusedVariables false
/-- Blocks as data. -/
inductive EB where
  | cells (cs : List AV) (e : TypeId)
  | map (es : List (AV × AV))
  | loop (g : FuncId) (tm : Trie AV) (N : Nat) (params : Array Tmp) (assign body : Code) (state : LoopState) (pending : Option Code)
  | deferred
noncomputable def tmF (t : Trie AV) : Nat → AV := fun i => match t.get i with
  | some x => x
  | none => .tuple []
noncomputable def EB.toBlk : EB → Blk
  | .cells cs e => .cells cs e
  | .map es => .map es
  | .loop _ tm N ps a b s p => .loop ⟨tmF tm, N, ps, a, b, s, p⟩
  | .deferred => .deferred
noncomputable def hF (t : Trie EB) : Heap := fun i => match t.get i with
  | some b => some b.toBlk
  | none => none
theorem tmF_put (t : Trie AV) (d : Nat) (x : AV) : tmF (t.put d (some x)) = upd (tmF t) d x := by
  funext i; simp only [tmF, Trie.get_put, upd]
  by_cases h : i = d <;> simp [h]
theorem hF_put (t : Trie EB) (d : Nat) (b : EB) : hF (t.put d (some b)) = upd (hF t) d (some b.toBlk) := by
  funext i; simp only [hF, Trie.get_put, upd]
  by_cases h : i = d <;> simp [h]
theorem hF_del (t : Trie EB) (d : Nat) : hF (t.put d none) = upd (hF t) d none := by
  funext i; simp only [hF, Trie.get_put, upd]
  by_cases h : i = d <;> simp [h]
/-- What an operation does to own memory. -/
inductive HC where
  | same
  | put (id : Nat) (b : EB)
  | new (b : EB)
  | mov (id : Nat) (b : EB)
noncomputable def HC.h (c : HC) (h : Heap) (n : Nat) : Heap := match c with
  | .same => h
  | .put id b => upd h id (some b.toBlk)
  | .new b => upd h n (some b.toBlk)
  | .mov id b => upd (upd h id none) n (some b.toBlk)
noncomputable def HC.n (c : HC) (n : Nat) : Nat := match c with
  | .same => n
  | .put _ _ => n
  | .new _ => n + 1
  | .mov _ _ => n + 1
noncomputable def HC.t (c : HC) (h : Trie EB) (n : Nat) : Trie EB := match c with
  | .same => h
  | .put id b => h.put id (some b)
  | .new b => h.put n (some b)
  | .mov id b => (h.put id none).put n (some b)
theorem HC.t_eq (c : HC) (h : Trie EB) (n : Nat) : hF (c.t h n) = c.h (hF h) n := by
  cases c <;> simp only [HC.t, HC.h, hF_put, hF_del]

/-! the last form of a value -/
section force
variable {β : Type}
noncomputable def fNat (n : Nat) (K : Nat → β) : β := Nat.rec (motive := fun _ => β) (K 0) (fun m _ => K (Nat.succ m)) n
theorem fNat_eq (n : Nat) (K : Nat → β) : fNat n K = K n := by cases n <;> rfl
noncomputable def fInt (n : Int) (K : Int → β) : β := Int.rec (motive := fun _ => β) (fun m => fNat m fun m => K (.ofNat m)) (fun m => fNat m fun m => K (.negSucc m)) n
theorem fInt_eq (n : Int) (K : Int → β) : fInt n K = K n := by
  cases n with
  | ofNat m => exact fNat_eq m (fun m => K (.ofNat m))
  | negSucc m => exact fNat_eq m (fun m => K (.negSucc m))
noncomputable def fBool (b : Bool) (K : Bool → β) : β := Bool.rec (motive := fun _ => β) (K false) (K true) b
theorem fBool_eq (b : Bool) (K : Bool → β) : fBool b K = K b := by cases b <;> rfl
noncomputable def fOpt {α : Type} (f : α → (α → β) → β) (o : Option α) (K : Option α → β) : β := Option.rec (motive := fun _ => β) (K none) (fun a => f a fun a => K (some a)) o
theorem fOpt_eq {α : Type} {f : α → (α → β) → β} (hf : ∀ a K, f a K = K a) (o : Option α) (K : Option α → β) : fOpt f o K = K o := by
  cases o
  · rfl
  · exact hf _ _
noncomputable def fList {α : Type} (f : α → (α → β) → β) (l : List α) : (List α → β) → β :=
  List.rec (motive := fun _ => (List α → β) → β) (fun K => K []) (fun a _ ih K => f a fun a => ih fun l => K (a :: l)) l
theorem fList_eq {α : Type} {f : α → (α → β) → β} (hf : ∀ a K, f a K = K a) : ∀ (l : List α) (K : List α → β), fList f l K = K l
  | [], _ => rfl
  | a :: l, K => by
    show f a (fun a => fList f l fun l => K (a :: l)) = _
    rw [hf, fList_eq hf l]
noncomputable def fByte (b : UInt8) (K : UInt8 → β) : β := fNat b.toNat fun n => K (UInt8.ofNat n)
theorem fByte_eq (b : UInt8) (K : UInt8 → β) : fByte b K = K b := by
  unfold fByte; rw [fNat_eq, UInt8.ofNat_toNat]
noncomputable def fAV (d : Nat) : AV → (AV → β) → β :=
  Nat.rec (motive := fun _ => AV → (AV → β) → β) (fun x K => K x)
    (fun _ ih x K => match x with
      | .bool b => fBool b fun b => K (.bool b)
      | .int k n => fInt n fun n => K (.int k n)
      | .str s => fList fByte s fun s => K (.str s)
      | .view rows => fList (fList ih) rows fun rows => K (.view rows)
      | .empty => K .empty
      | .vptr cs => fList ih cs fun cs => K (.vptr cs)
      | .ptr id off => fNat id fun id => fNat off fun off => K (.ptr id off)
      | .nilptr => K .nilptr
      | .slice id off len cap sz => fNat id fun id => fNat off fun off => fNat len fun len => fOpt fNat cap fun cap => fNat sz fun sz => K (.slice id off len cap sz)
      | .map id => fNat id fun id => K (.map id)
      | .func fn a b => fList ih a fun a => fList ih b fun b => K (.func fn a b)
      | .yieldf id => fNat id fun id => K (.yieldf id)
      | .nilFunc => K .nilFunc
      | .iface t v => ih v fun v => K (.iface t v)
      | .nilIface => K .nilIface
      | .agg cs => fList ih cs fun cs => K (.agg cs)
      | .tuple cs => fList ih cs fun cs => K (.tuple cs)
      | .any => K .any) d
theorem fAV_eq : ∀ (d : Nat) (x : AV) (K : AV → β), fAV d x K = K x
  | 0, _, _ => rfl
  | d + 1, x, K => by
    have ih := fAV_eq d
    cases x with
    | bool b => exact fBool_eq b fun b => K (.bool b)
    | int k n => exact fInt_eq n fun n => K (.int k n)
    | str s => exact fList_eq fByte_eq s fun s => K (.str s)
    | view rows => exact fList_eq (fun a K => fList_eq ih a K) rows fun rows => K (.view rows)
    | vptr cs => exact fList_eq ih cs fun cs => K (.vptr cs)
    | ptr id off => exact (fNat_eq id fun id => fNat off fun off => K (.ptr id off)).trans (fNat_eq off fun off => K (.ptr id off))
    | slice id off len cap sz =>
      show (fNat id fun id => fNat off fun off => fNat len fun len => fOpt fNat cap fun cap => fNat sz fun sz => K (.slice id off len cap sz)) = _
      simp only [fNat_eq, fOpt_eq fNat_eq]
    | map id => exact fNat_eq id fun id => K (.map id)
    | func fn a b =>
      show (fList (fAV d) a fun a => fList (fAV d) b fun b => K (.func fn a b)) = _
      rw [fList_eq ih, fList_eq ih]
    | yieldf id => exact fNat_eq id fun id => K (.yieldf id)
    | iface t v => exact ih v fun v => K (.iface t v)
    | agg cs => exact fList_eq ih cs fun cs => K (.agg cs)
    | tuple cs => exact fList_eq ih cs fun cs => K (.tuple cs)
    | _ => rfl
noncomputable def fEB (b : EB) (K : EB → β) : β := match b with
  | .cells cs e => fList (fAV 9) cs fun cs => K (.cells cs e)
  | .map es => fList (fun p K => fAV 9 p.1 fun a => fAV 9 p.2 fun b => K (a, b)) es fun es => K (.map es)
  | b => K b
theorem fEB_eq (b : EB) (K : EB → β) : fEB b K = K b := by
  cases b with
  | cells cs e => exact fList_eq (fAV_eq 9) _ _
  | map es => exact fList_eq (f := fun p K => fAV 9 p.1 fun a => fAV 9 p.2 fun b => K (a, b)) (fun p K => by simp only [fAV_eq]) es (fun es => K (.map es))
  | _ => rfl
noncomputable def HC.tK (c : HC) (h : Trie EB) (n : Nat) (K : Trie EB → Nat → β) : β := match c with
  | .same => K h n
  | .put id b => fNat id fun id => fEB b fun b => Trie.putK (id + 1) h id (some b) fun h => K h n
  | .new b => fEB b fun b => Trie.putK (n + 1) h n (some b) fun h => fNat (n + 1) fun m => K h m
  | .mov id b => fNat id fun id => fEB b fun b => Trie.putK (id + 1) h id none fun h => Trie.putK (n + 1) h n (some b) fun h => fNat (n + 1) fun m => K h m
theorem HC.tK_eq (c : HC) (h : Trie EB) (n : Nat) (K : Trie EB → Nat → β) : c.tK h n K = K (c.t h n) (c.n n) := by
  cases c with
  | same => rfl
  | put id b => simp only [HC.tK, HC.t, HC.n, fNat_eq, fEB_eq, Trie.putK_put]
  | new b => simp only [HC.tK, HC.t, HC.n, fNat_eq, fEB_eq, Trie.putK_put]
  | mov id b => simp only [HC.tK, HC.t, HC.n, fNat_eq, fEB_eq, Trie.putK_put]
end force

/-! the operations -/
noncomputable def srcA (h : Heap) (sz : Nat) (x : AV) : Option (Nat × List AV) :=
  match x with
  | .view rows => if (rows.all fun r => r.length == sz) = true then some (rows.length, rows.flatten) else none
  | .empty => some (0, [])
  | .slice id off len _ sz' => if sz' = sz then match h id with
    | some (.cells cs _) => if off + len * sz ≤ cs.length then some (len, (cs.drop off).take (len * sz)) else none
    | _ => none
    else none
  | .str s => if sz = 1 then some (s.length, s.map fun b => .int .u8 b.toNat) else none
  | _ => none
theorem srcA_sound {h : Heap} {sz k : Nat} {x : AV} {news : List AV} (e : srcA h sz x = some (k, news)) : SrcA h sz x k news := by
  unfold srcA at e
  split at e
  · split at e <;> simp at e
    rename_i rows hr
    obtain ⟨rfl, rfl⟩ := e
    exact ⟨rfl, rfl, fun r hm => by have := List.all_eq_true.1 hr r hm; simpa using this⟩
  · simp at e; obtain ⟨rfl, rfl⟩ := e; exact ⟨rfl, rfl⟩
  · split at e
    · split at e
      · split at e <;> simp at e
        rename_i hsz _ cs e2 hh hl
        obtain ⟨rfl, rfl⟩ := e
        exact ⟨hsz, rfl, cs, e2, hh, hl, rfl⟩
      · cases e
    · cases e
  · split at e <;> simp at e
    rename_i hsz
    obtain ⟨rfl, rfl⟩ := e
    exact ⟨hsz, rfl, rfl⟩
  · cases e
noncomputable def elemOf (T : TT) (t : TypeId) : Option (TypeId × TI) :=
  match T t with
  | some ti => match ti.desc with
    | .slice e => match T e with
      | some ei => some (e, ei)
      | none => none
    | _ => none
  | none => none
theorem elemOf_sound {T : TT} {t e : TypeId} {ei : TI} (h : elemOf T t = some (e, ei)) : ∃ ti, T t = some ti ∧ ti.desc = .slice e ∧ T e = some ei := by
  unfold elemOf at h
  split at h
  · rename_i ti ht
    split at h
    · rename_i e' hd
      split at h
      · rename_i ei' he; simp at h; obtain ⟨rfl, rfl⟩ := h; exact ⟨ti, ht, hd, he⟩
      · cases h
    · cases h
  · cases h
noncomputable def okSize (ei : TI) (m : Nat) : Bool := Nat.ble ((2 * m + 768) * ei.bytes) 281474976710656 && (Nat.ble m 4611686018427387904 && Nat.blt 0 ei.bytes)
theorem okSize_sound {ei : TI} {m : Nat} (h : okSize ei m = true) : (2 * m + 768) * ei.bytes ≤ 281474976710656 ∧ m ≤ 4611686018427387904 ∧ 0 < ei.bytes := by
  simp only [okSize, Bool.and_eq_true] at h
  exact ⟨Nat.le_of_ble_eq_true h.1, Nat.le_of_ble_eq_true h.2.1, Nat.le_of_ble_eq_true h.2.2⟩
/-- What is appended to a slice of own memory. -/
noncomputable def appO (h : Heap) (n : Nat) (e : TypeId) (ei : TI) (k : Nat) (news : List AV) (id off len : Nat) (cap : Option Nat) (cs : List AV) : Option (AV × HC) :=
  match cap with
  | none => if Nat.beq (off + len * ei.size) cs.length = true then some (.slice n 0 (len + k) none ei.size, .mov id (.cells (cs.drop off ++ news) e)) else none
  | some c => if Nat.ble (len + k) c = true then (if Nat.ble (off + c * ei.size) cs.length = true then some (.slice id off (len + k) (some c) ei.size, .put id (.cells (wr cs (off + len * ei.size) news) e)) else none)
    else if Nat.ble (off + len * ei.size) cs.length = true then some (.slice n 0 (len + k) none ei.size, .new (.cells ((cs.drop off).take (len * ei.size) ++ news) e)) else none
noncomputable def appA (T : TT) (h : Heap) (n : Nat) (t t2 : TypeId) (x z : AV) : Option (AV × HC) :=
  match elemOf T t with
  | some (e, ei) => match T t2 with
    | some i2 => if notInt i2.desc = true then match srcA h ei.size z with
      | some (k, news) => if Nat.beq k 0 = true then (match x with
          | .empty => some (.empty, .same)
          | .slice id off len cap sz => some (.slice id off len cap sz, .same)
          | _ => none)
        else match x with
        | .empty => if okSize ei k = true then some (.slice n 0 k none ei.size, .new (.cells news e)) else none
        | .slice id off len cap sz => if sz = ei.size then if okSize ei (len + k) = true then if news.all scalA = true then match h id with
          | some (.cells cs e') => if e' = e then appO h n e ei k news id off len cap cs else none
          | _ => none
          else none else none else none
        | _ => none
      | none => none
      else none
    | none => none
  | none => none
noncomputable def sliceA (T : TT) (t : TypeId) (x : AV) (l h m : Option Nat) : Option AV :=
  match elemOf T t with
  | some (_, ei) => match x with
    | .view rows => match m with
      | none => if bnd l 0 ≤ bnd h rows.length then if bnd h rows.length ≤ rows.length then if (rows.all fun r => r.length == ei.size) = true then some (.view ((rows.take (bnd h rows.length)).drop (bnd l 0))) else none else none else none
      | _ => none
    | .slice id off len cap sz => if bnd l 0 ≤ bnd h len then if bnd h len ≤ len then if sz = ei.size then match m with
      | none => some (.slice id (off + bnd l 0 * sz) (bnd h len - bnd l 0) (cap.map (· - bnd l 0)) sz)
      | some m' => if bnd h len ≤ m' then if m' ≤ len then if h.isSome = true then some (.slice id (off + bnd l 0 * sz) (bnd h len - bnd l 0) (some (m' - bnd l 0)) sz) else none else none else none
      else none else none else none
    | _ => none
  | none => none
noncomputable def litA (T : TT) (n : Nat) (t : TypeId) (len : Nat) (ps : List (Nat × AV)) : Option (AV × HC) :=
  match elemOf T t with
  | some (e, ei) => if Nat.blt 0 (len * ei.size) = true then if Nat.ble (len * ei.size) 16777216 = true then if Nat.beq ei.zero.length ei.size = true then match fillA (fun j => some (j * ei.size, ei.size)) (repA len ei.zero) ps with
    | some ys => if Nat.beq ys.length (len * ei.size) = true then some (.slice n 0 len (some len) ei.size, .new (.cells ys e)) else none
    | none => none
    else none else none else none
  | none => none
noncomputable def storeA (T : TT) (h : Heap) (t : TypeId) (x y : AV) : Option (AV × HC) :=
  match T t with
  | some i => match x with
    | .ptr id off => match h id with
      | some (.cells cs e) => if Nat.beq (cellsA y).length i.size = true then if Nat.ble (off + i.size) cs.length = true then if (cellsA y).all scalA = true then some (.tuple [], .put id (.cells (wr cs off (cellsA y)) e)) else none else none else none
      | _ => none
    | _ => none
  | none => none
noncomputable def sameH : Option AV → Option (AV × HC)
  | some x => some (x, .same)
  | none => none
noncomputable def binA (eq : TypeId → Bool) (T : TT) (op : BinOp) (t : TypeId) (a b : AV) : Option AV :=
  match a, b with
  | .agg xs, .agg ys => if eq t = true then match T t with
    | some i => match i.desc with
      | .struct fs => match op with
        | .eql => match eqA T fs.toList xs ys with
          | some r => some (.bool r)
          | none => none
        | .neq => match eqA T fs.toList xs ys with
          | some r => some (.bool !r)
          | none => none
        | _ => none
      | _ => none
    | none => none
    else none
  | a, b => binv T op t a b
noncomputable def nilA (T : TT) (op : BinOp) (t : TypeId) (a : AV) (c : Value) : Option AV :=
  match T t with
  | some ti => match nilEq ti.desc a c with
    | some b => match op with
      | .eql => some (.bool b)
      | .neq => some (.bool !b)
      | _ => none
    | none => match ti.desc with
      | .interface _ => match a with
        | .nilIface => match c with
          | .nilIface => match op with
            | .eql => some (.bool true)
            | .neq => some (.bool false)
            | _ => none
          | _ => none
        | _ => none
      | _ => none
  | none => none
noncomputable def isConst : Operand → Option Value
  | .const c => some c
  | _ => none
noncomputable def mkSlA (T : TT) (n : Nat) (t : TypeId) (l c : Int) : Option (AV × HC) :=
  match elemOf T t with
  | some (e, ei) => if 0 ≤ l then if l ≤ c then if Nat.ble (ei.bytes * c.toNat) 281474976710656 = true then if Nat.ble c.toNat 4611686018427387904 = true then some (.slice n 0 l.toNat (some c.toNat) ei.size, .new (.cells (repA c.toNat ei.zero) e)) else none else none else none else none
  | none => none
/-- A map's key and element: the zero of the element. -/
noncomputable def mapOf (T : TT) (t : TypeId) : Option AV :=
  match T t with
  | some ti => match ti.desc with
    | .map kt et => match T kt with
      | some ki => match ki.desc with
        | .int _ => match T et with
          | some ei => zeroA ei
          | none => none
        | _ => none
      | none => none
    | _ => none
  | none => none
noncomputable def lookA (T : TT) (h : Heap) (t : TypeId) (x ix : AV) (ok : Bool) : Option AV :=
  match x, ix with
  | .map id, .int kk k => match h id with
    | some (.map es) => match mapOf T t with
      | some z => match findM k kk es 0 with
        | some r => some (gotM z ok r)
        | none => none
      | none => none
    | _ => none
  | _, _ => none
noncomputable def updA (T : TT) (h : Heap) (t : TypeId) (x ix y : AV) : Option (AV × HC) :=
  match x, ix with
  | .map id, .int kk k => match h id with
    | some (.map es) => match mapOf T t with
      | some _ => match findM k kk es 0 with
        | some r => some (.tuple [], .put id (.map (putM (.int kk k) y es r)))
        | none => none
      | none => none
    | _ => none
  | _, _ => none
def notStr : AV → Bool
  | .str _ => false
  | _ => true
noncomputable def bytA (T : TT) (h : Heap) (s d : TypeId) (x : AV) : Option AV :=
  match elemOf T s with
  | some (_, ei) => match ei.desc with
    | .int .u8 => match T d with
      | some di => match di.desc with
        | .string => if notStr x = true then match srcA h 1 x with
          | some (_, news) => match bytesOf news with
            | some bs => some (.str bs)
            | none => none
          | none => none
          else none
        | _ => none
      | none => none
    | _ => none
  | none => none
/-- One operation. -/
noncomputable def eop (eq : TypeId → Bool) (T : TT) (tm : Nat → AV) (h : Heap) (n : Nat) (op : Op) : Option (AV × HC) :=
  match op with
  | .alloc t => match T t with
    | some i => some (.ptr n 0, .new (.cells i.zero t))
    | none => none
  | .box t x => match evo tm x with
    | some y => if known y = true then some (.ptr n 0, .new (.cells (cellsA y) t)) else none
    | none => none
  | .store t a v => match evo tm a, evo tm v with
    | some x, some y => storeA T h t x y
    | _, _ => none
  | .buildSlice t len parts => match parts.toList with
    | [] => if Nat.beq len 0 = true then match elemOf T t with
      | some _ => some (.empty, .same)
      | none => none
      else litA T n t len []
    | p :: ps => match evp tm (p :: ps) with
      | some ps => litA T n t len ps
      | none => none
  | .slice t x lo hi mx => match evo tm x, natO tm lo, natO tm hi, natO tm mx with
    | some x, some l, some h', some m => sameH (sliceA T t x l h' m)
    | _, _, _, _ => none
  | .call { callee := .builtin .append, args := ⟨[x, z]⟩, argTypes := ⟨[t, t2]⟩ } => match evo tm x, evo tm z with
    | some x, some z => appA T h n t t2 x z
    | _, _ => none
  | .binOp op t x y yt => match evo tm x, evo tm y with
    | some a, some b => match binA eq T op t a b with
      | some r => some (r, .same)
      | none => match isConst y with
        | some c => sameH (nilA T op t a c)
        | none => none
    | _, _ => none
  | .makeMap t r => match r with
    | none => some (.map n, .new (.map []))
    | some _ => none
  | .makeSlice t x y => match evo tm x, evo tm y with
    | some (.int _ l), some (.int _ c) => mkSlA T n t l c
    | _, _ => none
  | .lookup t x ix ok => match evo tm x, evo tm ix with
    | some a, some b => sameH (lookA T h t a b ok)
    | _, _ => none
  | .mapUpdate t x ix y => match evo tm x, evo tm ix, evo tm y with
    | some a, some b, some c => updA T h t a b c
    | _, _, _ => none
  | .insert t x ix y => match evo tm x, evo tm ix, evo tm y with
    | some a, some b, some c => updA T h t a b c
    | _, _, _ => none
  | .convert s d x => match evo tm x with
    | some a => match pvConv T s d a with
      | some y => some (y, .same)
      | none => sameH (bytA T h s d a)
    | none => none
  | .typeAssert x _ t ok => match evo tm x with
    | some a => sameH (assA T t a ok)
    | none => none
  | .call { callee := .builtin .max, args := ⟨[x, y]⟩, .. } => match evo tm x, evo tm y with
    | some (.int k a), some (.int k' b) => if k = k' then some (.int k (if b > a then b else a), .same) else none
    | _, _ => none
  | op => sameH (pvz T tm h op)
end Go.Lg
