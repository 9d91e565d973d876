/- The texts Base, Head, CodeDr, Lib, Mem, Ss in one (gmerge.py). -/
import Derived.WalkKit
import Derived.Deep.Quiet
import Derived.Test.YtlcemelmnkipmaaGreatProg
import Derived.KernelRfl
import Derived.Below
import Derived.Deep.AppendSrc
import Derived.Deep.DeepAppendWide
import Derived.Great.BuildSlice
import Derived.Laws.OwnMore
/- An evaluator of the model's code over an environment of slots, proved sound. -/
namespace Go.Proofs.YtlcemelmnkipmaaGreat
open Go
set_option linter.unusedVariables false

/-! ### Typed values -/
structure Sl where
  a : Option Addr
  n : Nat
  c : Nat
@[reducible] def Sl.v (s : Sl) : Value := .slice s.a s.n s.c
def Sl.nil : Sl := ⟨none, 0, 0⟩
/-- What 's[l:h]' is, each element 'size' cells. -/
def Sl.cut (size : Nat) (s : Sl) (l h : Nat) : Sl := ⟨if s.c = l then s.a else s.a.map (·.add (l * size)), h - l, s.c - l⟩

inductive Sh where
  | int (k : IntKind) | bool | str | sl | ptr | map | any
@[reducible] def Sh.T : Sh → Type
  | .int _ => Int
  | .bool => Bool
  | .str => ByteArray
  | .sl => Sl
  | .ptr => Option Addr
  | .map => Option Nat
  | .any => Value
@[reducible] def Sh.enc : (s : Sh) → s.T → Value
  | .int k, n => .int k n
  | .bool, b => .bool b
  | .str, s => .string s
  | .sl, s => .slice s.a s.n s.c
  | .ptr, a => .pointer a
  | .map, r => .map r
  | .any, v => v
def shOf (P : Program) (t : TypeId) : Sh :=
  match P.underlying t with
  | some .bool => .bool
  | some (.int k) => .int k
  | some .string => .str
  | some (.slice _) => .sl
  | some (.pointer _) => .ptr
  | some (.map _ _) => .map
  | _ => .any
/-- Is a value of the type one cell? -/
def oneB (P : Program) (t : TypeId) : Bool :=
  match P.underlying t with
  | some (.struct _) | some (.array _ _) => false
  | some _ => true
  | none => false
def szK (P : Program) (t : TypeId) (K : Nat → Prop) : Prop :=
  match P.info? t with
  | some i => K i.size
  | none => False

/-! ### Environments -/
abbrev Env := List (Nat × Value)
def Env.get : Env → Nat → Option Value
  | [], _ => none
  | p :: r, i => bif Nat.beq p.1 i then some p.2 else Env.get r i
def Env.ev (e : Env) : Operand → Option Value
  | .tmp t => Env.get e t
  | .const v => some v
  | .global g => some (.pointer (some ⟨g, 0, none⟩))
  | .func f => some (.func (.func f) #[] #[])
def Env.evs (e : Env) : List Operand → Option (List Value)
  | [] => some []
  | x :: r => match Env.ev e x with
    | some v => match Env.evs e r with
      | some vs => some (v :: vs)
      | none => none
    | none => none
def Env.parts (e : Env) : List (Nat × Operand) → Option (List (Nat × Value))
  | [] => some []
  | x :: r => match Env.ev e x.2 with
    | some v => match Env.parts e r with
      | some vs => some ((x.1, v) :: vs)
      | none => none
    | none => none
def Env.restr (e : Env) : List Nat → Env
  | [] => []
  | i :: r => match Env.get e i with
    | some v => (i, v) :: Env.restr e r
    | none => Env.restr e r
def putE (N : Nat) (e : Env) (dst : Option Tmp) (v : Value) : Env :=
  match dst with
  | some d => bif Nat.blt d N then (d, v) :: e else e
  | none => e

structure Fits (N : Nat) (a : Act) (e : Env) : Prop where
  size : a.tmps.size = N
  defers : a.defers = []
  at_ : ∀ i v, Env.get e i = some v → a.tmps[i]? = some v

theorem Fits.ev {N : Nat} {a : Act} {e : Env} (h : Fits N a e) {x : Operand} {v : Value} (hx : Env.ev e x = some v) : a.eval x = v := by
  cases x with
  | tmp t => simp only [Env.ev] at hx; have := h.at_ t v hx; simp [Act.eval, Array.getD_eq_getD_getElem?, this]
  | const c => simp only [Env.ev, Option.some.injEq] at hx; simp [Act.eval, hx]
  | global g => simp only [Env.ev, Option.some.injEq] at hx; simp [Act.eval, hx]
  | func f => simp only [Env.ev, Option.some.injEq] at hx; simp [Act.eval, hx]
theorem Fits.evs {N : Nat} {a : Act} {e : Env} (h : Fits N a e) : ∀ {l : List Operand} {vs : List Value}, Env.evs e l = some vs → l.map a.eval = vs
  | [], vs, hv => by simp only [Env.evs, Option.some.injEq] at hv; simp [← hv]
  | x :: r, vs, hv => by
    simp only [Env.evs] at hv
    split at hv
    · rename_i v hx
      split at hv
      · rename_i us hr
        simp only [Option.some.injEq] at hv
        subst hv
        simp [h.ev hx, h.evs hr]
      · cases hv
    · cases hv
theorem Fits.parts {N : Nat} {a : Act} {e : Env} (h : Fits N a e) : ∀ {l : List (Nat × Operand)} {vs : List (Nat × Value)}, Env.parts e l = some vs → l.map (fun p => (p.1, a.eval p.2)) = vs
  | [], vs, hv => by simp only [Env.parts, Option.some.injEq] at hv; simp [← hv]
  | x :: r, vs, hv => by
    simp only [Env.parts] at hv
    split at hv
    · rename_i v hx
      split at hv
      · rename_i us hr
        simp only [Option.some.injEq] at hv
        subst hv
        simp [h.ev hx, h.parts hr]
      · cases hv
    · cases hv
theorem get_cons (p : Nat × Value) (r : Env) (i : Nat) : Env.get (p :: r) i = if p.1 = i then some p.2 else Env.get r i := by
  simp only [Env.get]
  by_cases h : p.1 = i
  · simp [h]
  · have : Nat.beq p.1 i = false := by
      cases hb : Nat.beq p.1 i
      · rfl
      · exact absurd (Nat.eq_of_beq_eq_true hb) h
    simp [h, this]
theorem Fits.put {N : Nat} {a : Act} {e : Env} (h : Fits N a e) (dst : Option Tmp) (v : Value) : Fits N (a.put dst v) (putE N e dst v) := by
  cases dst with
  | none => exact h
  | some d =>
    simp only [Act.put, putE]
    by_cases hd : d < N
    · have : Nat.blt d N = true := by simp [Nat.blt_eq, hd]
      rw [this]
      refine ⟨by simp [h.size], h.defers, fun i u hi => ?_⟩
      simp only [cond_true] at hi
      rw [get_cons] at hi
      by_cases hdi : d = i
      · subst hdi
        simp only [if_true, Option.some.injEq] at hi
        subst hi
        simp [h.size, hd]
      · simp only [hdi, if_false] at hi
        rw [Array.getElem?_setIfInBounds_ne (fun hh => hdi hh)]
        exact h.at_ i u hi
    · have hb : Nat.blt d N = false := by
        cases hb : Nat.blt d N
        · rfl
        · exact absurd (by simpa using hb) hd
      rw [hb]
      refine ⟨by simp [h.size], h.defers, fun i u hi => ?_⟩
      simp only [cond_false] at hi
      have hi' := h.at_ i u hi
      have this : i < a.tmps.size := (Array.getElem?_eq_some_iff.1 hi').1
      have hne : d ≠ i := fun hh => hd (by rw [hh, ← h.size]; exact this)
      rw [Array.getElem?_setIfInBounds_ne hne]
      exact hi'
theorem Fits.set {N : Nat} {a : Act} {e : Env} (h : Fits N a e) {d : Nat} {v : Value} (hv : Env.get e d = some v) : Fits N a ((d, v) :: e) :=
  ⟨h.size, h.defers, fun i u hi => by
    rw [get_cons] at hi
    by_cases hdi : d = i
    · subst hdi
      simp only [if_true, Option.some.injEq] at hi
      subst hi
      exact h.at_ _ _ hv
    · simp only [hdi, if_false] at hi
      exact h.at_ i u hi⟩
theorem get_restr {e : Env} : ∀ {l : List Nat} {i : Nat} {v : Value}, Env.get (Env.restr e l) i = some v → Env.get e i = some v
  | [], i, v, h => by simp [Env.restr, Env.get] at h
  | j :: r, i, v, h => by
    simp only [Env.restr] at h
    split at h
    · rename_i u hj
      rw [get_cons] at h
      by_cases hji : j = i
      · subst hji; simp only [if_true, Option.some.injEq] at h; subst h; exact hj
      · simp only [hji, if_false] at h; exact get_restr h
    · exact get_restr h
theorem Fits.restr {N : Nat} {a : Act} {e : Env} (h : Fits N a e) (l : List Nat) : Fits N a (Env.restr e l) :=
  ⟨h.size, h.defers, fun i v hi => h.at_ i v (get_restr hi)⟩

@[reducible] def vI (n : Int) : Value := .int .i64 n
/-- A sum of ints as Go reckons it. -/
def w64 (n : Int) : Int := IntKind.i64.wrap n
/-- 's[i]''s place. -/
def idxK (size : Nat) (s : Sl) (i : Int) (K : Addr → Prop) : Prop :=
  ∃ a, s.a = some a ∧ 0 ≤ i ∧ i < s.n ∧ K (a.add (i.toNat * size))
/-- 's[i]', s a string. -/
def strIdxK (s : ByteArray) (i : Int) (K : Int → Prop) : Prop :=
  ∃ b : UInt8, 0 ≤ i ∧ s[i.toNat]? = some b ∧ K (b.toNat : Int)
/-- 's[l:h]' of a slice (without h: up to the length). -/
def cutK (size : Nat) (s : Sl) (lo hi : Option Int) (K : Sl → Prop) : Prop :=
  0 ≤ lo.getD 0 ∧ lo.getD 0 ≤ hi.getD s.n ∧ hi.getD s.n ≤ s.c ∧ K (s.cut size (lo.getD 0).toNat (hi.getD s.n).toNat)
/-- 's[l:h:m]'. -/
def cut3K (size : Nat) (s : Sl) (lo : Option Int) (hi mx : Int) (K : Sl → Prop) : Prop :=
  0 ≤ lo.getD 0 ∧ lo.getD 0 ≤ hi ∧ hi ≤ mx ∧ mx ≤ s.c ∧ K ⟨if mx.toNat = (lo.getD 0).toNat then s.a else s.a.map (·.add ((lo.getD 0).toNat * size)), hi.toNat - (lo.getD 0).toNat, mx.toNat - (lo.getD 0).toNat⟩
def strCutK (s : ByteArray) (lo hi : Option Int) (K : ByteArray → Prop) : Prop :=
  0 ≤ lo.getD 0 ∧ lo.getD 0 ≤ hi.getD s.size ∧ hi.getD s.size ≤ s.size ∧ K (s.extract (lo.getD 0).toNat (hi.getD s.size).toNat)
/-- A struct's or an array's value, put together. -/
def buildK (P : Program) (t : TypeId) (parts : List (Nat × Value)) (K : Value → Prop) : Prop :=
  ∃ v, (∀ w, (Instr.build t parts.toArray).run P w = .ok v w) ∧ K v
/-- A load of one cell, by the type's shape; of a struct or an array: whole. -/
def load1 (s : Sh) (ad : Addr) (w : World) (K : s.T → Prop) : Prop := ∃ r : s.T, w.cell? ad = some (s.enc r) ∧ K r
def loadA (P : Program) (t : TypeId) (ad : Addr) (w : World) (K : Value → Prop) : Prop := ∃ v, (∀ w', w'.heap = w.heap → (loadVar t ad).run P w' = .ok v w') ∧ K v
def sem1 (s : Sh) (P : Program) (m : Sem Value) (w : World) (K : s.T → World → Prop) : Prop := ∃ r w', m.run P w = .ok (s.enc r) w' ∧ K r w'
def sem2 (s1 s2 : Sh) (P : Program) (m : Sem Value) (w : World) (K : s1.T → s2.T → World → Prop) : Prop := ∃ r1 r2 w', m.run P w = .ok (.tuple #[s1.enc r1, s2.enc r2]) w' ∧ K r1 r2 w'
def sem3 (s1 s2 s3 : Sh) (P : Program) (m : Sem Value) (w : World) (K : s1.T → s2.T → s3.T → World → Prop) : Prop := ∃ r1 r2 r3 w', m.run P w = .ok (.tuple #[s1.enc r1, s2.enc r2, s3.enc r3]) w' ∧ K r1 r2 r3 w'
def sem0 (P : Program) (m : Sem Unit) (w : World) (K : World → Prop) : Prop := ∃ w', m.run P w = .ok () w' ∧ K w'
def Ret0 (K : World → Prop) (e : Ending) (w : World) : Prop := e = .returned (.tuple #[]) ∧ K w
def Ret1 (s : Sh) (K : s.T → World → Prop) (e : Ending) (w : World) : Prop := ∃ r, e = .returned (s.enc r) ∧ K r w
def Ret2 (s1 s2 : Sh) (K : s1.T → s2.T → World → Prop) (e : Ending) (w : World) : Prop := ∃ r1 r2, e = .returned (.tuple #[s1.enc r1, s2.enc r2]) ∧ K r1 r2 w
def Ret3 (s1 s2 s3 : Sh) (K : s1.T → s2.T → s3.T → World → Prop) (e : Ending) (w : World) : Prop := ∃ r1 r2 r3, e = .returned (.tuple #[s1.enc r1, s2.enc r2, s3.enc r3]) ∧ K r1 r2 r3 w
def call0 (P : Program) (f : FuncId) (args : Array Value) (w : World) (K : World → Prop) : Prop := Calls P f args w (Ret0 K)
def call1 (s : Sh) (P : Program) (f : FuncId) (args : Array Value) (w : World) (K : s.T → World → Prop) : Prop := Calls P f args w (Ret1 s K)
def call2 (s1 s2 : Sh) (P : Program) (f : FuncId) (args : Array Value) (w : World) (K : s1.T → s2.T → World → Prop) : Prop := Calls P f args w (Ret2 s1 s2 K)
def call3 (s1 s2 s3 : Sh) (P : Program) (f : FuncId) (args : Array Value) (w : World) (K : s1.T → s2.T → s3.T → World → Prop) : Prop := Calls P f args w (Ret3 s1 s2 s3 K)
/-- A call of a function that only reckons with its arguments: the same in every world. -/
def pcall1 (s : Sh) (P : Program) (f : FuncId) (args : Array Value) (K : s.T → Prop) : Prop :=
  ∃ r : s.T, (∀ w, Calls P f args w fun e w' => e = .returned (s.enc r) ∧ w' = w) ∧ K r
/-- A region that draws its order, whose operations read and call quietly alone: one walk in the order of the text; what stands behind it is asked in every world after some draws. -/
def Drew (w w' : World) : Prop := ∃ n, w' = w.drewN n
def qcall1 (s : Sh) (P : Program) (f : FuncId) (args : Array Value) (w : World) (K : s.T → Prop) : Prop :=
  ∃ r : s.T, (∀ w', Drew w w' → Calls P f args w' fun e w'' => e = .returned (s.enc r) ∧ Drew w' w'') ∧ K r
def newK (t : TypeId) (cells : Array Value) (w : World) (K : Addr → World → Prop) : Prop := K ⟨w.heap.size, 0, none⟩ (w.alloc (.cells cells t))
def storeC (ad : Addr) (v : Value) (w : World) (K : World → Prop) : Prop := (∃ u, w.cell? ad = some u) ∧ w.frozen? ad = false ∧ K (w.setCell ad v)
def drewAll (w : World) (K : World → Prop) : Prop := ∀ w', Drew w w' → K w'
/-- A call of a function that the model itself answers, one result. -/
def ext1 (s : Sh) (P : Program) (f : FuncId) (args : Array Value) (w : World) (K : s.T → World → Prop) : Prop := ∃ r w', (callFunc f args).run P w = .ok (.value (s.enc r)) w' ∧ K r w'
def bodied (P : Program) (f : FuncId) : Bool :=
  match P.funcs[f]? with
  | some fn => fn.body.isSome
  | none => false
/-- A call of a function value, one result. -/
def callV1 (s : Sh) (P : Program) (fv : Value) (args : List Value) (w : World) (K : s.T → World → Prop) : Prop :=
  ∃ f first cap, fv = .func (.func f) first cap ∧ bodied P f = true ∧ call1 s P f ((first ++ args.toArray) ++ cap) w K
/-- The words of the text, as one record: the equations between the evaluator and the text hold for whatever they are. -/
structure Prims where
  idxK : Nat → Sl → Int → (Addr → Prop) → Prop
  strIdxK : ByteArray → Int → (Int → Prop) → Prop
  cutK : Nat → Sl → Option Int → Option Int → (Sl → Prop) → Prop
  strCutK : ByteArray → Option Int → Option Int → (ByteArray → Prop) → Prop
  buildK : Program → TypeId → List (Nat × Value) → (Value → Prop) → Prop
  load1 : (s : Sh) → Addr → World → (s.T → Prop) → Prop
  loadA : Program → TypeId → Addr → World → (Value → Prop) → Prop
  sem0 : Program → Sem Unit → World → (World → Prop) → Prop
  sem1 : (s : Sh) → Program → Sem Value → World → (s.T → World → Prop) → Prop
  sem2 : (s1 s2 : Sh) → Program → Sem Value → World → (s1.T → s2.T → World → Prop) → Prop
  sem3 : (s1 s2 s3 : Sh) → Program → Sem Value → World → (s1.T → s2.T → s3.T → World → Prop) → Prop
  call0 : Program → FuncId → Array Value → World → (World → Prop) → Prop
  call1 : (s : Sh) → Program → FuncId → Array Value → World → (s.T → World → Prop) → Prop
  call2 : (s1 s2 : Sh) → Program → FuncId → Array Value → World → (s1.T → s2.T → World → Prop) → Prop
  call3 : (s1 s2 s3 : Sh) → Program → FuncId → Array Value → World → (s1.T → s2.T → s3.T → World → Prop) → Prop
  callV1 : (s : Sh) → Program → Value → List Value → World → (s.T → World → Prop) → Prop
  pcall1 : (s : Sh) → Program → FuncId → Array Value → (s.T → Prop) → Prop
  qcall1 : (s : Sh) → Program → FuncId → Array Value → World → (s.T → Prop) → Prop
  newK : TypeId → Array Value → World → (Addr → World → Prop) → Prop
  storeC : Addr → Value → World → (World → Prop) → Prop
  drewAll : World → (World → Prop) → Prop
  seg : (Env → World → Prop) → Env → World → Prop
  loop : ((Env → World → Prop) → Env → World → Prop) → Env → World → Prop
  cut3K : Nat → Sl → Option Int → Int → Int → (Sl → Prop) → Prop
  ext1 : (s : Sh) → Program → FuncId → Array Value → World → (s.T → World → Prop) → Prop
/-- A loop: what is alive at its head told by a state 's', an invariant over it, a measure. -/
def LoopE (step : (Env → World → Prop) → Env → World → Prop) (e : Env) (w : World) : Prop :=
  ∃ (σ : Type) (emb : σ → Env) (I : σ → World → Prop) (μ : σ → World → Nat) (s0 : σ), e = emb s0 ∧ I s0 w ∧
    ∀ s w, I s w → step (fun e' w' => ∃ s', e' = emb s' ∧ I s' w' ∧ μ s' w' < μ s w) (emb s) w
@[reducible] def std : Prims := ⟨idxK, strIdxK, cutK, strCutK, buildK, load1, loadA, sem0, sem1, sem2, sem3, call0, call1, call2, call3, callV1, pcall1, qcall1, newK, storeC, drewAll, fun k e w => k e w, LoopE, cut3K, ext1⟩

/-! ### Operations that leave the world alone -/
def ev1 (e : Env) (x : Operand) (K : Value → Prop) : Prop :=
  match Env.ev e x with
  | some v => K v
  | none => False
def ev2 (e : Env) (x y : Operand) (K : Value → Value → Prop) : Prop :=
  match Env.ev e x with
  | some u => match Env.ev e y with
    | some v => K u v
    | none => False
  | none => False
def intOpK (op : BinOp) (k : IntKind) (a b : Int) (K : Value → Prop) : Prop :=
  match op with
  | .add => K (.int k (k.wrap (a + b)))
  | .sub => K (.int k (k.wrap (a - b)))
  | .mul => K (.int k (k.wrap (a * b)))
  | .quo => b ≠ 0 ∧ K (.int k (k.wrap (a.tdiv b)))
  | .rem => b ≠ 0 ∧ K (.int k (a.tmod b))
  | .and => K (.int k (k.wrap (BitVec.ofInt k.bits a &&& BitVec.ofInt k.bits b).toNat))
  | .or => K (.int k (k.wrap (BitVec.ofInt k.bits a ||| BitVec.ofInt k.bits b).toNat))
  | .xor => K (.int k (k.wrap (BitVec.ofInt k.bits a ^^^ BitVec.ofInt k.bits b).toNat))
  | .andNot => K (.int k (k.wrap (BitVec.ofInt k.bits a &&& ~~~ BitVec.ofInt k.bits b).toNat))
  | .eql => K (.bool (a == b))
  | .neq => K (.bool (a != b))
  | .lss => K (.bool (decide (a < b)))
  | .leq => K (.bool (decide (a ≤ b)))
  | .gtr => K (.bool (decide (a > b)))
  | .geq => K (.bool (decide (a ≥ b)))
  | .shl => 0 ≤ b ∧ K (.int k (k.wrap (a * 2 ^ (min b.toNat k.bits))))
  | .shr => 0 ≤ b ∧ K (.int k (a.fdiv (2 ^ (min b.toNat k.bits))))
def strOpK (op : BinOp) (a b : ByteArray) (K : Value → Prop) : Prop :=
  match op with
  | .add => ((a.size + b.size : Nat) : Int) ≤ IntKind.i64.max ∧ K (.string (a ++ b))
  | .eql => K (.bool (a.toList == b.toList))
  | .neq => K (.bool (!(a.toList == b.toList)))
  | .lss => K (.bool (Op.bytesLess a.toList b.toList))
  | .leq => K (.bool (Op.bytesLess a.toList b.toList || a.toList == b.toList))
  | .gtr => K (.bool (!(Op.bytesLess a.toList b.toList || a.toList == b.toList)))
  | .geq => K (.bool (!Op.bytesLess a.toList b.toList))
  | _ => False
def isShift : BinOp → Bool
  | .shl | .shr => true
  | _ => false
def binK (P : Program) (op : BinOp) (t : TypeId) (u v : Value) (K : Value → Prop) : Prop :=
  match u, v with
  | .int k a, .int k' b => bif isShift op then intOpK op k a b K else (if k = k' then intOpK op k a b K else False)
  | .string a, .string b => strOpK op a b K
  | .bool a, .bool b => match P.underlying t, op with
    | some .bool, .eql => K (.bool (a == b))
    | some .bool, .neq => K (.bool (!(a == b)))
    | _, _ => False
  | .slice a _ _, .slice none 0 0 => match P.underlying t, op with
    | some (.slice _), .eql => K (.bool a.isNone)
    | some (.slice _), .neq => K (.bool (!a.isNone))
    | _, _ => False
  | _, _ => False
def unK (op : UnOp) (v : Value) (K : Value → Prop) : Prop :=
  match op, v with
  | .not, .bool b => K (.bool (!b))
  | .neg, .int k n => K (.int k (k.wrap (0 - n)))
  | _, _ => False
def lenK (P : Program) (t : TypeId) (v : Value) (K : Value → Prop) : Prop :=
  match P.underlying t, v with
  | some .string, .string s => K (.int .i64 s.size)
  | some (.slice _), .slice _ n _ => K (.int .i64 n)
  | _, _ => False
def max2K (u v : Value) (K : Value → Prop) : Prop :=
  match u, v with
  | .int k x, .int _ y => K (.int k (if y > x then y else x))
  | _, _ => False
def min2K (u v : Value) (K : Value → Prop) : Prop :=
  match u, v with
  | .int k x, .int _ y => K (.int k (if y < x then y else x))
  | _, _ => False
def optInt (e : Env) : Option Operand → Option (Option Int)
  | none => some none
  | some x => match Env.ev e x with
    | some (.int _ n) => some (some n)
    | _ => none
def cutVK (pr : Prims) (P : Program) (t : TypeId) (v : Value) (lo hi : Option Int) (K : Value → Prop) : Prop :=
  match P.underlying t, v with
  | some (.slice el), .slice a n c => szK P el fun z => pr.cutK z ⟨a, n, c⟩ lo hi (fun s => K s.v)
  | some .string, .string s => pr.strCutK s lo hi (fun s => K (.string s))
  | _, _ => False
def cut3VK (pr : Prims) (P : Program) (t : TypeId) (v : Value) (lo : Option Int) (hi mx : Int) (K : Value → Prop) : Prop :=
  match P.underlying t, v with
  | some (.slice el), .slice a n c => szK P el fun z => pr.cut3K z ⟨a, n, c⟩ lo hi mx (fun s => K s.v)
  | _, _ => False
def capK (P : Program) (t : TypeId) (v : Value) (K : Value → Prop) : Prop :=
  match P.underlying t, v with
  | some (.slice _), .slice _ _ c => K (.int .i64 c)
  | _, _ => False
def idxVK (pr : Prims) (P : Program) (t : TypeId) (v i : Value) (K : Value → Prop) : Prop :=
  match P.underlying t, v, i with
  | some (.slice el), .slice a n c, .int _ i => szK P el fun z => pr.idxK z ⟨a, n, c⟩ i (fun ad => K (.pointer (some ad)))
  | _, _, _ => False
def strIdxVK (pr : Prims) (P : Program) (t : TypeId) (v i : Value) (K : Value → Prop) : Prop :=
  match P.underlying t, v, i with
  | some .string, .string s, .int _ i => pr.strIdxK s i (fun b => K (.int .u8 b))
  | _, _, _ => False
def convK (P : Program) (src dst : TypeId) (v : Value) (K : Value → Prop) : Prop :=
  match P.underlying src, P.underlying dst, v with
  | some _, some (.int k), .int _ n => K (.int k (k.wrap n))
  | some .string, some .string, .string s => K (.string s)
  | _, _, _ => False
def fieldK (P : Program) (s : TypeId) (f : Nat) (v : Value) (K : Value → Prop) : Prop :=
  match P.underlying s, v with
  | some (.struct fields), .pointer (some a) => match fields[f]? with
    | some fd => szK P fd.type fun z => bif Nat.beq z 0 then False else K (.pointer (some (a.add fd.offset)))
    | none => False
  | _, _ => False
def nilK (v : Value) (K : Value → Prop) : Prop :=
  match v with
  | .pointer (some a) => K (.pointer (some a))
  | _ => False
def bAnd (k : IntKind) (a b : Int) : Int := k.wrap (BitVec.ofInt k.bits a &&& BitVec.ofInt k.bits b).toNat
def bOr (k : IntKind) (a b : Int) : Int := k.wrap (BitVec.ofInt k.bits a ||| BitVec.ofInt k.bits b).toNat
def bXor (k : IntKind) (a b : Int) : Int := k.wrap (BitVec.ofInt k.bits a ^^^ BitVec.ofInt k.bits b).toNat
def bAndNot (k : IntKind) (a b : Int) : Int := k.wrap (BitVec.ofInt k.bits a &&& ~~~ BitVec.ofInt k.bits b).toNat
def sShl (k : IntKind) (a b : Int) : Int := k.wrap (a * 2 ^ (min b.toNat k.bits))
def sShr (k : IntKind) (a b : Int) : Int := a.fdiv (2 ^ (min b.toNat k.bits))
def loadK (pr : Prims) (P : Program) (t : TypeId) (ad : Addr) (w : World) (K : Value → Prop) : Prop :=
  bif oneB P t then pr.load1 (shOf P t) ad w (fun r => K ((shOf P t).enc r)) else pr.loadA P t ad w K
def pureK (pr : Prims) (P : Program) (e : Env) (o : Oper) (w : World) (K : Value → Prop) : Prop :=
  match o.op with
  | .move x => ev1 e x K
  | .assign x => ev1 e x K
  | .pick c a b => ev1 e c fun v => match v with
    | .bool t => bif t then ev1 e a K else ev1 e b K
    | _ => False
  | .binOp op t x y _ => ev2 e x y fun u v => binK P op t u v K
  | .unOp op _ x => ev1 e x fun v => unK op v K
  | .extract x i => ev1 e x fun v => match v with
    | .tuple vs => match vs[i]? with
      | some u => K u
      | none => False
    | _ => False
  | .call c => match c.callee, c.args.toList, c.argTypes.toList with
    | .builtin .len, [x], [t] => ev1 e x fun v => lenK P t v K
    | .builtin .cap, [x], [t] => ev1 e x fun v => capK P t v K
    | .builtin .max, [x, y], _ => ev2 e x y fun u v => max2K u v K
    | .builtin .min, [x, y], _ => ev2 e x y fun u v => min2K u v K
    | _, _, _ => False
  | .indexAddr t x i => ev2 e x i fun v n => idxVK pr P t v n K
  | .index t x i => ev2 e x i fun v n => strIdxVK pr P t v n K
  | .slice t x lo hi mx => match mx, optInt e lo, optInt e hi with
    | none, some lo, some hi => ev1 e x fun v => cutVK pr P t v lo hi K
    | some m, some lo, some (some hi) => match Env.ev e m with
      | some (.int _ m) => ev1 e x fun v => cut3VK pr P t v lo hi m K
      | _ => False
    | _, _, _ => False
  | .fieldAddr s x f => ev1 e x fun v => fieldK P s f v K
  | .convert src dst x => ev1 e x fun v => convK P src dst v K
  | .nilCheck x => ev1 e x fun v => nilK v K
  | .makeFunc fn first cap => match Env.evs e first.toList, Env.evs e cap.toList with
    | some f, some c => K (.func fn f.toArray c.toArray)
    | _, _ => False
  | .build t parts => match Env.parts e parts.toList with
    | some ps => pr.buildK P t ps K
    | none => False
  | .load t x => ev1 e x fun v => match v with
    | .pointer (some ad) => loadK pr P t ad w K
    | _ => False
  | _ => False

def isLoad (o : Oper) : Bool :=
  match o.op with
  | .load .. => true
  | _ => false
/-- What a pure operation does: one value, in every world (a load: in every world of this heap), and the world as it was. -/
def Yields (P : Program) (o : Oper) (a : Act) (w : World) (v : Value) : Prop :=
  ∀ w', (isLoad o = true → w'.heap = w.heap) → (execOp a.eval o).run P w' = .ok (.value v) w'
theorem ev1_sound {N : Nat} {a : Act} {e : Env} (hf : Fits N a e) {x : Operand} {K : Value → Prop} (h : ev1 e x K) : K (a.eval x) := by
  unfold ev1 at h
  split at h
  · rename_i v hv; rw [hf.ev hv]; exact h
  · exact h.elim
theorem ev2_sound {N : Nat} {a : Act} {e : Env} (hf : Fits N a e) {x y : Operand} {K : Value → Value → Prop} (h : ev2 e x y K) : K (a.eval x) (a.eval y) := by
  unfold ev2 at h
  split at h
  · rename_i v hv
    split at h
    · rename_i u hu; rw [hf.ev hv, hf.ev hu]; exact h
    · exact h.elim
  · exact h.elim
theorem intOp_run (P : Program) (op : BinOp) (t : TypeId) (k : IntKind) (x y : Operand) (a b : Int) (K : Value → Prop) (hs : isShift op = false) (h : intOpK op k a b K) :
    ∃ v, K v ∧ ∀ w : World, ((do eqGuard op t x y (.int k a) (.int k b); binOp op t (.int k a) (.int k b)) : Sem Value).run P w = .ok v w := by
  cases op <;> simp only [intOpK] at h <;> first
    | (simp [isShift] at hs; done)
    | exact ⟨_, h, fun w => by simp [eqGuard, binOp, Op.intArith, Op.intBits, Op.intCmp]⟩
    | (obtain ⟨h0, h1⟩ := h; exact ⟨_, h1, fun w => by simp [eqGuard, binOp, Op.intDiv, h0]⟩)
theorem shOp_run (P : Program) (op : BinOp) (t : TypeId) (k k' : IntKind) (x y : Operand) (a b : Int) (K : Value → Prop) (hs : isShift op = true) (h : intOpK op k a b K) :
    ∃ v, K v ∧ ∀ w : World, ((do eqGuard op t x y (.int k a) (.int k' b); binOp op t (.int k a) (.int k' b)) : Sem Value).run P w = .ok v w := by
  cases op <;> simp only [isShift, Bool.false_eq_true] at hs <;> simp only [intOpK] at h <;>
    (obtain ⟨h0, h1⟩ := h; exact ⟨_, h1, fun w => by simp [eqGuard, binOp, Op.shift, show ¬ b < 0 by omega]⟩)
theorem strOp_run (P : Program) (op : BinOp) (t : TypeId) (x y : Operand) (a b : ByteArray) (K : Value → Prop) (h : strOpK op a b K) :
    ∃ v, K v ∧ ∀ w : World, ((do eqGuard op t x y (.string a) (.string b); binOp op t (.string a) (.string b)) : Sem Value).run P w = .ok v w := by
  cases op <;> simp only [strOpK] at h <;> first
    | (exfalso; exact h)
    | exact ⟨_, h, fun w => by simp [eqGuard, binOp, Op.stringOp]⟩
    | (obtain ⟨h0, h1⟩ := h; exact ⟨_, h1, fun w => by
        have h2 : ((a.size + b.size : Nat) : Int) ≤ 9223372036854775807 := h0
        simp [eqGuard, binOp, Op.stringOp]; omega⟩)
theorem equalIn_bool (P : Program) (w : World) {t : TypeId} (hu : P.underlying t = some .bool) (d : Nat) (a b : Bool) : (Op.equalIn (d + 1) t (.bool a) (.bool b)).run P w = .ok (a == b) w := by
  simp [Op.equalIn, run_underlying hu]
theorem equalIn_nil (P : Program) (w : World) {t el : TypeId} (hu : P.underlying t = some (.slice el)) (d : Nat) (a : Option Addr) (n c : Nat) :
    (Op.equalIn (d + 1) t (.slice a n c) (.slice none 0 0)).run P w = .ok a.isNone w := by
  cases a <;> simp [Op.equalIn, run_underlying hu]
theorem equal_run {P : Program} {w : World} {t : TypeId} {x y : Value} {r : Bool} (h : ∀ d, (Op.equalIn (d + 1) t x y).run P w = .ok r w) : (Op.equal t x y).run P w = .ok r w := h 9999
theorem eqlV_run (P : Program) (w : World) (t : TypeId) (x y : Operand) (u v : Value) (r : Bool) (hg : (eqGuard .eql t x y u v).run P w = .ok () w) (hb : binOp .eql t u v = (do pure (.bool (← Op.equal t u v))))
    (h : (Op.equal t u v).run P w = .ok r w) : ((do eqGuard .eql t x y u v; binOp .eql t u v) : Sem Value).run P w = .ok (.bool r) w := by
  rw [hb]; simp only [Sem.run_bind, hg, Result.andThen_ok, h, Sem.run_pure]
theorem neqV_run (P : Program) (w : World) (t : TypeId) (x y : Operand) (u v : Value) (r : Bool) (hg : (eqGuard .neq t x y u v).run P w = .ok () w) (hb : binOp .neq t u v = (do pure (.bool (!(← Op.equal t u v)))))
    (h : (Op.equal t u v).run P w = .ok r w) : ((do eqGuard .neq t x y u v; binOp .neq t u v) : Sem Value).run P w = .ok (.bool (!r)) w := by
  rw [hb]; simp only [Sem.run_bind, hg, Result.andThen_ok, h, Sem.run_pure]
theorem binK_run (P : Program) (op : BinOp) (t : TypeId) (x y : Operand) (u v : Value) (K : Value → Prop) (h : binK P op t u v K) :
    ∃ r, K r ∧ ∀ w : World, ((do eqGuard op t x y u v; binOp op t u v) : Sem Value).run P w = .ok r w := by
  unfold binK at h
  split at h
  · rename_i k a k' b
    cases hs : isShift op
    · rw [hs] at h
      simp only [cond_false] at h
      split at h
      · rename_i hk; subst hk; exact intOp_run P op t k x y a b K hs h
      · exact h.elim
    · rw [hs] at h
      exact shOp_run P op t k k' x y a b K hs h
  · exact strOp_run P op t x y _ _ K h
  · rename_i a b
    split at h
    · rename_i hu; exact ⟨_, h, fun w => eqlV_run P w t x y _ _ _ rfl rfl (equal_run fun d => equalIn_bool P w hu d a b)⟩
    · rename_i hu; exact ⟨_, h, fun w => neqV_run P w t x y _ _ _ rfl rfl (equal_run fun d => equalIn_bool P w hu d a b)⟩
    · exact h.elim
  · rename_i a n c
    split at h
    · rename_i el hu; exact ⟨_, h, fun w => eqlV_run P w t x y _ _ _ rfl rfl (equal_run fun d => equalIn_nil P w hu d a n c)⟩
    · rename_i el hu; exact ⟨_, h, fun w => neqV_run P w t x y _ _ _ rfl rfl (equal_run fun d => equalIn_nil P w hu d a n c)⟩
    · exact h.elim
  · exact h.elim

theorem run_value (P : Program) {s : Sem Value} {v : Value} {w : World} (h : s.run P w = .ok v w) : ((do pure (.value (← s))) : Sem Next).run P w = .ok (.value v) w := by
  simp only [Sem.run_bind, h, Result.andThen_ok, Sem.run_pure]
theorem lenK_run (P : Program) {t ty : TypeId} {v : Value} {K : Value → Prop} (h : lenK P t v K) : ∃ r, K r ∧ ∀ w : World, (Builtin.len_ #[t] ty #[v]).run P w = .ok r w := by
  unfold lenK at h
  split at h
  · rename_i s hu; exact ⟨_, h, fun w => by simp [Builtin.len_, run_underlying hu, goInt]⟩
  · rename_i el a n c hu; exact ⟨_, h, fun w => by simp [Builtin.len_, run_underlying hu, goInt]⟩
  · exact h.elim
theorem capK_run (P : Program) {t ty : TypeId} {v : Value} {K : Value → Prop} (h : capK P t v K) : ∃ r, K r ∧ ∀ w : World, (Builtin.cap_ #[t] ty #[v]).run P w = .ok r w := by
  unfold capK at h
  split at h
  · rename_i el a n c hu; exact ⟨_, h, fun w => by simp [Builtin.cap_, run_underlying hu, goInt]⟩
  · exact h.elim
theorem szK_size {P : Program} {t : TypeId} {K : Nat → Prop} (h : szK P t K) : ∃ z, K z ∧ ∀ w, (sizeOf t).run P w = .ok z w := by
  unfold szK at h
  split at h
  · rename_i i hi; exact ⟨_, h, fun w => by simp [sizeOf, typeInfo, hi]⟩
  · exact h.elim
theorem idxVK_run (P : Program) {t : TypeId} {v i : Value} {K : Value → Prop} (h : idxVK std P t v i K) : ∃ r, K r ∧ ∀ w : World, (Instr.indexAt t v i).run P w = .ok r w := by
  unfold idxVK at h
  split at h
  · rename_i el a n c k i hu
    obtain ⟨z, ⟨ad, ha, h0, h1, hK⟩, hz⟩ := szK_size h
    refine ⟨_, hK, fun w => ?_⟩
    simp only at ha h1
    subst ha
    have hc : 0 ≤ i ∧ i < (n : Int) := ⟨h0, h1⟩
    simp [Instr.indexAt, asIntOf, run_underlying hu, hc, hz]
  · exact h.elim
theorem strIdxVK_run (P : Program) {t : TypeId} {v i : Value} {K : Value → Prop} (h : strIdxVK std P t v i K) : ∃ r, K r ∧ ∀ w : World, (Instr.index t v i).run P w = .ok r w := by
  unfold strIdxVK at h
  split at h
  · rename_i s k i hu
    obtain ⟨b, h0, h1, hK⟩ := h
    exact ⟨_, hK, fun w => by simp [Instr.index, asIntOf, run_underlying hu, h0, h1]⟩
  · exact h.elim
theorem optInt_sound {N : Nat} {a : Act} {e : Env} (hf : Fits N a e) {x : Option Operand} {r : Option Int} (h : optInt e x = some r) : (x = none ∧ r = none) ∨ ∃ k n, r = some n ∧ x.map a.eval = some (.int k n) := by
  cases x with
  | none => simp only [optInt, Option.some.injEq] at h; exact .inl ⟨rfl, h.symm⟩
  | some x =>
    simp only [optInt] at h
    split at h
    · rename_i k n hv; simp only [Option.some.injEq] at h; exact .inr ⟨k, n, h.symm, by simp [hf.ev hv]⟩
    · cases h
theorem sliceBound_run (P : Program) (w : World) (k : IntKind) (i : Int) (y : Nat) (code : BoundsCode) (h0 : 0 ≤ i) (h1 : i ≤ y) : (Instr.sliceBound (.int k i) y code).run P w = .ok i.toNat w := by
  simp [Instr.sliceBound, asIntOf, h0, h1]
theorem bounds_run (P : Program) (w : World) (b : Bool) (len cap : Nat) {lo hi : Option Int} {vl vh : Option Value}
    (hl : (vl = none ∧ lo = none) ∨ ∃ k n, lo = some n ∧ vl = some (.int k n)) (hh : (vh = none ∧ hi = none) ∨ ∃ k n, hi = some n ∧ vh = some (.int k n))
    (h0 : 0 ≤ lo.getD 0) (h1 : lo.getD 0 ≤ hi.getD len) (h2 : hi.getD len ≤ cap) :
    (Instr.sliceBounds b len cap vl vh none).run P w = .ok ((lo.getD 0).toNat, (hi.getD len).toNat, cap) w := by
  rcases hl with ⟨rfl, rfl⟩ | ⟨kl, l, rfl, rfl⟩ <;> rcases hh with ⟨rfl, rfl⟩ | ⟨kh, h, rfl, rfl⟩ <;> simp only [Option.getD_some, Option.getD_none] at h0 h1 h2 ⊢
  · simp [Instr.sliceBounds]
  · simp [Instr.sliceBounds, sliceBound_run P w kh h cap _ (by omega) h2]
  · simp [Instr.sliceBounds, sliceBound_run P w kl l len _ h0 h1]
  · have := sliceBound_run P w kh h cap (if b then .sliceAcap else .sliceAlen) (by omega) h2
    simp [Instr.sliceBounds, this]
    rw [sliceBound_run P w kl l h.toNat _ h0 (by omega)]
    simp
theorem cutVK_run (P : Program) {t : TypeId} {v : Value} {lo hi : Option Int} {vl vh : Option Value} {K : Value → Prop}
    (hl : (vl = none ∧ lo = none) ∨ ∃ k n, lo = some n ∧ vl = some (.int k n)) (hh : (vh = none ∧ hi = none) ∨ ∃ k n, hi = some n ∧ vh = some (.int k n))
    (h : cutVK std P t v lo hi K) : ∃ r, K r ∧ ∀ w : World, (Instr.sliceAt t v vl vh none).run P w = .ok r w := by
  unfold cutVK at h
  split at h
  · rename_i el a n c hu
    obtain ⟨z, ⟨h0, h1, h2, hK⟩, hz⟩ := szK_size h
    refine ⟨_, hK, fun w => ?_⟩
    simp [Instr.sliceAt, Instr.slice, run_underlying hu, bounds_run P w true n c hl hh h0 h1 h2, hz, Sl.cut]
  · rename_i s hu
    obtain ⟨h0, h1, h2, hK⟩ := h
    refine ⟨_, hK, fun w => ?_⟩
    simp [Instr.sliceAt, Instr.slice, run_underlying hu, bounds_run P w false s.size s.size hl hh h0 h1 h2]
  · exact h.elim
theorem bounds3_run (P : Program) (w : World) (b : Bool) (len cap : Nat) {lo : Option Int} {vl : Option Value} {kh km : IntKind} {hi mx : Int}
    (hl : (vl = none ∧ lo = none) ∨ ∃ k n, lo = some n ∧ vl = some (.int k n))
    (h0 : 0 ≤ lo.getD 0) (h1 : lo.getD 0 ≤ hi) (h2 : hi ≤ mx) (h3 : mx ≤ cap) :
    (Instr.sliceBounds b len cap vl (some (.int kh hi)) (some (.int km mx))).run P w = .ok ((lo.getD 0).toNat, hi.toNat, mx.toNat) w := by
  have e1 := sliceBound_run P w km mx cap (if b then .slice3Acap else .slice3Alen) (by omega) h3
  have e2 := sliceBound_run P w kh hi mx.toNat .slice3B (by omega) (by omega)
  rcases hl with ⟨rfl, rfl⟩ | ⟨kl, l, rfl, rfl⟩ <;> simp only [Option.getD_some, Option.getD_none] at h0 h1 ⊢
  · simp [Instr.sliceBounds, e1, e2]
  · have e3 := sliceBound_run P w kl l hi.toNat .slice3C h0 (by omega)
    simp [Instr.sliceBounds, e1, e2, e3]
theorem cut3VK_run (P : Program) {t : TypeId} {v : Value} {lo : Option Int} {hi mx : Int} {kh km : IntKind} {vl : Option Value} {K : Value → Prop}
    (hl : (vl = none ∧ lo = none) ∨ ∃ k n, lo = some n ∧ vl = some (.int k n))
    (h : cut3VK std P t v lo hi mx K) : ∃ r, K r ∧ ∀ w : World, (Instr.sliceAt t v vl (some (.int kh hi)) (some (.int km mx))).run P w = .ok r w := by
  unfold cut3VK at h
  split at h
  · rename_i el a n c hu
    obtain ⟨z, ⟨h0, h1, h2, h3, hK⟩, hz⟩ := szK_size h
    refine ⟨_, hK, fun w => ?_⟩
    simp only at h3
    simp [Instr.sliceAt, Instr.slice, run_underlying hu, bounds3_run P w true n c (kh := kh) (km := km) hl h0 h1 h2 h3, hz]
  · exact h.elim
theorem convK_run (P : Program) {src dst : TypeId} {v : Value} {K : Value → Prop} (h : convK P src dst v K) : ∃ r, K r ∧ ∀ w : World, (convert src dst v).run P w = .ok r w := by
  unfold convK at h
  split at h
  · rename_i d k k' n hs hd; exact ⟨_, h, fun w => by simp [convert, run_underlying hs, run_underlying hd, Conv.intToInt]⟩
  · rename_i s hs hd; exact ⟨_, h, fun w => by simp [convert, run_underlying hs, run_underlying hd]⟩
  · exact h.elim
theorem fieldK_run (P : Program) {s : TypeId} {f : Nat} {v : Value} {K : Value → Prop} (h : fieldK P s f v K) : ∃ r, K r ∧ ∀ w : World, (Instr.fieldAt s v f).run P w = .ok r w := by
  unfold fieldK at h
  split at h
  · rename_i fields a hu
    split at h
    · rename_i fd hfd
      obtain ⟨z, hK, hz⟩ := szK_size h
      cases hb : Nat.beq z 0 with
      | true => rw [hb] at hK; exact hK.elim
      | false =>
        rw [hb] at hK
        have hne : z ≠ 0 := by intro h0; subst h0; simp at hb
        exact ⟨_, hK, fun w => by simp [Instr.fieldAt, run_underlying hu, hfd, Instr.sureAddr, fieldPlace, hz, hne]⟩
    · exact h.elim
  · exact h.elim
theorem isAgg_one {P : Program} {t : TypeId} (h : oneB P t = true) (w : World) : (isAgg t).run P w = .ok false w := by
  unfold oneB at h
  split at h
  · cases h
  · cases h
  · rename_i hu; simp only [isAgg, Sem.run_bind, run_underlying hu, Result.andThen_ok]; first | (split <;> simp_all) | simp
  · cases h
theorem loadK_run (P : Program) (w : World) {t : TypeId} {ad : Addr} {K : Value → Prop} (h : loadK std P t ad w K) :
    ∃ r, K r ∧ ∀ w', w'.heap = w.heap → (Instr.loadAt t (.pointer (some ad))).run P w' = .ok r w' := by
  unfold loadK at h
  cases ho : oneB P t with
  | true =>
    rw [ho] at h
    obtain ⟨r, hc, hK⟩ := h
    refine ⟨_, hK, fun w' hw => ?_⟩
    have hc' : w'.cell? ad = some ((shOf P t).enc r) := by rw [← hc]; unfold World.cell?; rw [hw]
    simp only [Instr.loadAt, Instr.sureAddr, loadVar, Sem.run_bind, Sem.run_pure, Result.andThen_ok, isAgg_one ho, Bool.false_eq_true, if_false]
    simp [load, Sem.run, hc']
  | false =>
    rw [ho] at h
    obtain ⟨v, hv, hK⟩ := h
    exact ⟨v, hK, fun w' hw => by simp [Instr.loadAt, Instr.sureAddr, hv w' hw]⟩

theorem unK_run (P : Program) {op : UnOp} {v : Value} {K : Value → Prop} (h : unK op v K) : ∃ r, K r ∧ ∀ w : World, (Op.unary op v).run P w = .ok r w := by
  unfold unK at h
  split at h
  · exact ⟨_, h, fun w => by simp [Op.unary]⟩
  · exact ⟨_, h, fun w => by simp [Op.unary, Op.intArith]⟩
  · exact h.elim
theorem pureK_sound {P : Program} {N : Nat} {a : Act} {e : Env} (hf : Fits N a e) {o : Oper} {w : World} {K : Value → Prop} (h : pureK std P e o w K) : ∃ v, Yields P o a w v ∧ K v := by
  obtain ⟨dst, op, ty, pos, aft, gd⟩ := o
  unfold Yields execOp
  cases op <;> simp only [pureK] at h
  case move x => exact ⟨_, fun w' _ => by simp, ev1_sound hf h⟩
  case assign x => exact ⟨_, fun w' _ => by simp, ev1_sound hf h⟩
  case pick c x y =>
    have h := ev1_sound hf h
    split at h
    · rename_i t ht
      cases t with
      | true => exact ⟨_, fun w' _ => by simp [ht, asBool], ev1_sound hf h⟩
      | false => exact ⟨_, fun w' _ => by simp [ht, asBool], ev1_sound hf h⟩
    · exact h.elim
  case binOp op t x y yt =>
    have h := ev2_sound hf h
    obtain ⟨r, hK, hr⟩ := binK_run P op t x y _ _ K h
    exact ⟨r, fun w' hw => run_value P (hr w'), hK⟩
  case unOp op t x =>
    obtain ⟨r, hK, hr⟩ := unK_run P (ev1_sound hf h)
    exact ⟨r, fun w' _ => run_value P (hr w'), hK⟩
  case extract x i =>
    have h := ev1_sound hf h
    split at h
    · rename_i vs hvs
      split at h
      · rename_i u hu; exact ⟨u, fun w' _ => by simp [hvs, Instr.extract, hu], h⟩
      · exact h.elim
    · exact h.elim
  case call c =>
    split at h
    · rename_i x t hc hargs htys
      have h := ev1_sound hf h
      obtain ⟨r, hK, hr⟩ := lenK_run P (ty := ty) h
      refine ⟨r, fun w' _ => ?_, hK⟩
      have h1 : c.args = #[x] := by rw [← Array.toArray_toList (xs := c.args), hargs]
      have h2 : c.argTypes = #[t] := by rw [← Array.toArray_toList (xs := c.argTypes), htys]
      simp [resolve, hc, h1, h2, invoke, builtin, hr w']
    · rename_i x t hc hargs htys
      have h := ev1_sound hf h
      obtain ⟨r, hK, hr⟩ := capK_run P (ty := ty) h
      refine ⟨r, fun w' _ => ?_, hK⟩
      have h1 : c.args = #[x] := by rw [← Array.toArray_toList (xs := c.args), hargs]
      have h2 : c.argTypes = #[t] := by rw [← Array.toArray_toList (xs := c.argTypes), htys]
      simp [resolve, hc, h1, h2, invoke, builtin, hr w']
    · rename_i x y hc hargs
      have h := ev2_sound hf h
      have h1 : c.args = #[x, y] := by rw [← Array.toArray_toList (xs := c.args), hargs]
      unfold max2K at h
      split at h
      · rename_i k p k' q hp hq
        exact ⟨_, fun w' _ => by simp [resolve, hc, h1, invoke, builtin, hp, hq, Builtin.max_, Builtin.max2], h⟩
      · exact h.elim
    · rename_i x y hc hargs
      have h := ev2_sound hf h
      have h1 : c.args = #[x, y] := by rw [← Array.toArray_toList (xs := c.args), hargs]
      unfold min2K at h
      split at h
      · rename_i k p k' q hp hq
        exact ⟨_, fun w' _ => by simp [resolve, hc, h1, invoke, builtin, hp, hq, Builtin.min_, Builtin.min2], h⟩
      · exact h.elim
    · exact h.elim
  case indexAddr t x i =>
    obtain ⟨r, hK, hr⟩ := idxVK_run P (ev2_sound hf h)
    exact ⟨r, fun w' _ => run_value P (hr w'), hK⟩
  case index t x i =>
    obtain ⟨r, hK, hr⟩ := strIdxVK_run P (ev2_sound hf h)
    exact ⟨r, fun w' _ => run_value P (hr w'), hK⟩
  case slice t x lo hi mx =>
    split at h
    · rename_i lo' hi' hlo hhi
      obtain ⟨r, hK, hr⟩ := cutVK_run P (vl := lo.map a.eval) (vh := hi.map a.eval)
        ((optInt_sound hf hlo).imp (fun ⟨h1, h2⟩ => ⟨by rw [h1]; rfl, h2⟩) id) ((optInt_sound hf hhi).imp (fun ⟨h1, h2⟩ => ⟨by rw [h1]; rfl, h2⟩) id) (ev1_sound hf h)
      exact ⟨r, fun w' _ => run_value P (hr w'), hK⟩
    · rename_i m lo' hi' hlo hhi
      split at h
      · rename_i km m' hm
        have hh := optInt_sound hf hhi
        rcases hh with ⟨_, h1⟩ | ⟨kh, n, h1, h2⟩
        · cases h1
        · simp only [Option.some.injEq] at h1
          subst h1
          obtain ⟨r, hK, hr⟩ := cut3VK_run P (vl := lo.map a.eval) (kh := kh) (km := km)
            ((optInt_sound hf hlo).imp (fun ⟨h1, h2⟩ => ⟨by rw [h1]; rfl, h2⟩) id) (ev1_sound hf h)
          refine ⟨r, fun w' _ => run_value P ?_, hK⟩
          rw [h2]
          simp only [Option.map_some, hf.ev hm]
          exact hr w'
      · exact h.elim
    · exact h.elim
  case fieldAddr s x f =>
    obtain ⟨r, hK, hr⟩ := fieldK_run P (ev1_sound hf h)
    exact ⟨r, fun w' _ => run_value P (hr w'), hK⟩
  case convert src dst x =>
    obtain ⟨r, hK, hr⟩ := convK_run P (ev1_sound hf h)
    exact ⟨r, fun w' _ => run_value P (hr w'), hK⟩
  case nilCheck x =>
    have h := ev1_sound hf h
    unfold nilK at h
    split at h
    · rename_i ad hv; exact ⟨_, fun w' _ => by simp [hv], h⟩
    · exact h.elim
  case makeFunc fn first cap =>
    split at h
    · rename_i f c h1 h2
      refine ⟨_, fun w' _ => ?_, h⟩
      have e1 : first.map a.eval = f.toArray := by rw [← hf.evs h1, ← Array.toList_map]
      have e2 : cap.map a.eval = c.toArray := by rw [← hf.evs h2, ← Array.toList_map]
      simp [Instr.makeFunc, e1, e2]
    · exact h.elim
  case build t parts =>
    split at h
    · rename_i ps hps
      obtain ⟨v, hv, hK⟩ := h
      refine ⟨v, fun w' _ => ?_, hK⟩
      have e1 : parts.map (fun p => (p.1, a.eval p.2)) = ps.toArray := by rw [← hf.parts hps, ← Array.toList_map]
      exact run_value P (by rw [← hv w', ← e1])
    · exact h.elim
  case load t x =>
    have h := ev1_sound hf h
    split at h
    · rename_i ad hv
      obtain ⟨r, hK, hr⟩ := loadK_run P w h
      exact ⟨r, fun w' hw => run_value P (by rw [hv]; exact hr w' (hw rfl)), hK⟩
    · exact h.elim
  all_goals exact h.elim

/-! ### Operations that make memory, write it, or call -/
def semN (pr : Prims) (P : Program) (ss : List Sh) (m : Sem Value) (w : World) (K : Value → World → Prop) : Prop :=
  match ss with
  | [s] => pr.sem1 s P m w fun r w' => K (s.enc r) w'
  | [s1, s2] => pr.sem2 s1 s2 P m w fun r1 r2 w' => K (.tuple #[s1.enc r1, s2.enc r2]) w'
  | [s1, s2, s3] => pr.sem3 s1 s2 s3 P m w fun r1 r2 r3 w' => K (.tuple #[s1.enc r1, s2.enc r2, s3.enc r3]) w'
  | _ => False
/-- One step of a range over a map: it is over, or some entry comes. -/
def nextK (P : Program) (it : Value) (b : Bool) (ty : TypeId) (w : World) (Kf : World → Prop) (Kt : Value → Value → World → Prop) : Prop :=
  (∃ w', (Instr.next it b ty).run P w = .ok (.tuple #[.bool false]) w' ∧ Kf w') ∨ ∃ k v w', (Instr.next it b ty).run P w = .ok (.tuple #[.bool true, k, v]) w' ∧ Kt k v w'
def entryK (P : Program) (it : Value) (w : World) (K : Value → Value → World → Prop) : Prop := ∃ k v w', (Instr.entry it).run P w = .ok (.tuple #[k, v]) w' ∧ K k v w'
def callN (pr : Prims) (P : Program) (ss : List Sh) (f : FuncId) (args : Array Value) (w : World) (K : Value → World → Prop) : Prop :=
  match ss with
  | [] => pr.call0 P f args w fun w' => K (.tuple #[]) w'
  | [s] => pr.call1 s P f args w fun r w' => K (s.enc r) w'
  | [s1, s2] => pr.call2 s1 s2 P f args w fun r1 r2 w' => K (.tuple #[s1.enc r1, s2.enc r2]) w'
  | [s1, s2, s3] => pr.call3 s1 s2 s3 P f args w fun r1 r2 r3 w' => K (.tuple #[s1.enc r1, s2.enc r2, s3.enc r3]) w'
  | _ => False
def shsOf (P : Program) (t : TypeId) : List Sh :=
  match P.underlying t with
  | some (.tuple ts) => ts.toList.map (shOf P)
  | _ => [shOf P t]
/-- A call of a function value. -/
def callV (pr : Prims) (P : Program) (ss : List Sh) (fv : Value) (args : List Value) (w : World) (K : Value → World → Prop) : Prop :=
  match ss with
  | [s] => pr.callV1 s P fv args w fun r w' => K (s.enc r) w'
  | _ => False
def isOne : Value → Bool
  | .agg _ | .tuple _ => false
  | _ => true
def extN (pr : Prims) (P : Program) (ss : List Sh) (f : FuncId) (args : Array Value) (w : World) (K : Value → World → Prop) : Prop :=
  match ss with
  | [s] => pr.ext1 s P f args w fun r w' => K (s.enc r) w'
  | _ => False
def storeK (pr : Prims) (P : Program) (t : TypeId) (ad : Addr) (v : Value) (w : World) (K : World → Prop) : Prop :=
  bif oneB P t then (bif isOne v then szK P t (fun z => bif Nat.beq z 1 then pr.storeC ad v w K else False) else False)
  else pr.sem0 P (storeVar t ad v) w K
def effK (pr : Prims) (P : Program) (e : Env) (o : Oper) (w : World) (K : Value → World → Prop) : Prop :=
  match o.op with
  | .call c => match Env.evs e c.args.toList with
    | some args => match c.callee with
      | .builtin .append => semN pr P [.sl] (Builtin.append_ c.argTypes o.type args.toArray) w K
      | .builtin .copy => semN pr P (shsOf P o.type) (Builtin.copy_ c.argTypes o.type args.toArray) w K
      | .builtin .clear => semN pr P [.any] (Builtin.clear_ c.argTypes o.type args.toArray) w K
      | .value (.func g) => bif bodied P g then callN pr P (shsOf P o.type) g args.toArray w K else extN pr P (shsOf P o.type) g args.toArray w K
      | .value (.tmp t) => match Env.get e t with
        | some fv => callV pr P (shsOf P o.type) fv args w K
        | none => False
      | _ => False
    | none => False
  | .buildSlice t len parts => match Env.parts e parts.toList with
    | some ps => semN pr P [.sl] (Instr.buildSlice t len ps.toArray) w K
    | none => False
  | .makeSlice t l c => match Env.ev e l with
    | some l => match Env.ev e c with
      | some c => semN pr P [.sl] (Instr.makeSlice t l c) w K
      | none => False
    | none => False
  | .alloc t => match P.info? t with
    | some i => match i.zero with
      | some z => pr.newK t z.cells w fun ad w' => K (.pointer (some ad)) w'
      | none => False
    | none => False
  | .box t x => match Env.ev e x with
    | some v => pr.newK t v.cells w fun ad w' => K (.pointer (some ad)) w'
    | none => False
  | .store t a x => match Env.ev e a with
    | some (.pointer (some ad)) => match Env.ev e x with
      | some v => storeK pr P t ad v w fun w' => K undef w'
      | none => False
    | _ => False
  | .convert src dst x => match Env.ev e x with
    | some v => semN pr P [shOf P dst] (convert src dst v) w K
    | none => False
  | .makeMap t none => semN pr P [.map] (Instr.makeMap t none) w K
  | .mapUpdate t m k x => match Env.ev e m, Env.ev e k, Env.ev e x with
    | some m, some k, some x => pr.sem0 P (Instr.mapUpdate t m k x) w fun w' => K undef w'
    | _, _, _ => False
  | .lookup t x i ok => match Env.ev e x, Env.ev e i with
    | some x, some i => semN pr P (shsOf P o.type) (Instr.lookup t x i ok) w K
    | _, _ => False
  | .range t x => match Env.ev e x with
    | some x => semN pr P [.any] (Instr.range t x) w K
    | none => False
  | .next it b => match Env.ev e it with
    | some it => nextK P it b o.type w (fun w' => K (.tuple #[.bool false]) w') (fun k v w' => K (.tuple #[.bool true, k, v]) w')
    | none => False
  | .entry it => match Env.ev e it with
    | some it => entryK P it w (fun k v w' => K (.tuple #[k, v]) w')
    | none => False
  | _ => False

/-- No function of the program is this one of the run-time's (the one name that the model looks for ahead of a call). -/
def NoCount (P : Program) : Prop := ∀ (f : FuncId) (fn : Func), P.funcs[f]? = some fn → (fn.name == "runtime.NumGoroutine") = false
theorem callFunc_run {P : Program} (hN : NoCount P) {f : FuncId} (hb : bodied P f = true) (args : Array Value) (w : World) : (callFunc f args).run P w = .ok (.enter f args) w := by
  unfold bodied at hb
  split at hb
  · rename_i fn hfn
    have h1 := hN f fn hfn
    have h2 : fn.body.isNone = false := by cases h : fn.body <;> simp_all
    simp only [beq_eq_false_iff_ne, ne_eq] at h1
    have h3 : fn.body ≠ none := by intro h; rw [h] at h2; cases h2
    simp [callFunc, program, Sem.run, hfn, h1, h3]
  · cases hb
theorem callN_calls {P : Program} {ss : List Sh} {f : FuncId} {args : Array Value} {w : World} {K : Value → World → Prop} (h : callN std P ss f args w K) :
    Calls P f args w fun e w' => ∃ v, e = .returned v ∧ K v w' := by
  unfold callN at h
  split at h
  · exact h.mono fun e w' ⟨h1, h2⟩ => ⟨_, h1, h2⟩
  · exact h.mono fun e w' ⟨r, h1, h2⟩ => ⟨_, h1, h2⟩
  · exact h.mono fun e w' ⟨r1, r2, h1, h2⟩ => ⟨_, h1, h2⟩
  · exact h.mono fun e w' ⟨r1, r2, r3, h1, h2⟩ => ⟨_, h1, h2⟩
  · exact h.elim
theorem semN_run {P : Program} {ss : List Sh} {m : Sem Value} {w : World} {K : Value → World → Prop} (h : semN std P ss m w K) : ∃ v w', m.run P w = .ok v w' ∧ K v w' := by
  unfold semN at h
  split at h
  · obtain ⟨r, w', h1, h2⟩ := h; exact ⟨_, _, h1, h2⟩
  · obtain ⟨r1, r2, w', h1, h2⟩ := h; exact ⟨_, _, h1, h2⟩
  · obtain ⟨r1, r2, r3, w', h1, h2⟩ := h; exact ⟨_, _, h1, h2⟩
  · exact h.elim
theorem wp_of_value {P : Program} {o : Oper} {a : Act} {w w' : World} {v : Value} {next : Act → World → Prop} {Q : Exit → Act → World → Prop}
    (h : (execOp a.eval o).run P w = .ok (.value v) w') (hn : next (a.put o.dst v) w') : o.wp P a w next Q := by
  unfold Oper.wp; rw [h]; exact hn
theorem wp_of_skip {P : Program} {o : Oper} {a : Act} {w w' : World} {next : Act → World → Prop} {Q : Exit → Act → World → Prop}
    (h : (execOp a.eval o).run P w = .ok .skip w') (hn : next (a.put o.dst undef) w') : o.wp P a w next Q := by
  unfold Oper.wp; rw [h]; exact hn
theorem wp_of_enter {P : Program} {o : Oper} {a : Act} {w w' : World} {f : FuncId} {args : Array Value} {next : Act → World → Prop} {Q : Exit → Act → World → Prop}
    (h : (execOp a.eval o).run P w = .ok (.enter f args) w') (hn : Calls P f args w' fun e w'' => ∃ v, e = .returned v ∧ next (a.put o.dst v) w'') : o.wp P a w next Q := by
  unfold Oper.wp; rw [h]
  exact hn.mono fun e w'' ⟨v, he, hv⟩ => by subst he; exact hv
theorem run_value' (P : Program) {s : Sem Value} {v : Value} {w w' : World} (h : s.run P w = .ok v w') : ((do pure (.value (← s))) : Sem Next).run P w = .ok (.value v) w' := by
  simp only [Sem.run_bind, h, Result.andThen_ok, Sem.run_pure]
theorem run_skip' (P : Program) {s : Sem Unit} {w w' : World} (h : s.run P w = .ok () w') : ((do s; pure .skip) : Sem Next).run P w = .ok .skip w' := by
  simp only [Sem.run_bind, h, Result.andThen_ok, Sem.run_pure]
theorem storeK_run {P : Program} {t : TypeId} {ad : Addr} {v : Value} {w : World} {K : World → Prop} (h : storeK std P t ad v w K) : ∃ w', (Instr.storeAt t (.pointer (some ad)) v).run P w = .ok () w' ∧ K w' := by
  unfold storeK at h
  cases ho : oneB P t with
  | true =>
    rw [ho] at h
    simp only [cond_true] at h
    cases h1 : isOne v with
    | false => rw [h1] at h; exact h.elim
    | true =>
      rw [h1] at h
      simp only [cond_true] at h
      obtain ⟨z, hK, hz⟩ := szK_size h
      cases hb : Nat.beq z 1 with
      | false => rw [hb] at hK; exact hK.elim
      | true =>
        rw [hb] at hK
        obtain ⟨⟨u, hu⟩, hfr, hK⟩ := hK
        have hz1 : z = 1 := Nat.eq_of_beq_eq_true hb
        subst hz1
        refine ⟨_, ?_, hK⟩
        have hc : v.cells = #[v] := by cases v <;> simp_all [isOne, Value.cells]
        have hst : ∀ k : Sem Unit, (Sem.store .plain ad v k).run P w = k.run P (w.setCell ad v) := by
          intro k; cases v <;> first | (simp [isOne] at h1; done) | simp [Sem.run, hu, hfr]
        simp only [Instr.storeAt, Instr.sureAddr, storeVar, Sem.run_bind, Sem.run_pure, Result.andThen_ok, hz, hc]
        simp [storeCells, store, Addr.add, hst, Sem.run]
  | false =>
    rw [ho] at h
    obtain ⟨w', h1, h2⟩ := h
    exact ⟨w', by simp [Instr.storeAt, Instr.sureAddr, h1], h2⟩

theorem effK_sound {P : Program} (hN : NoCount P) {N : Nat} {a : Act} {e : Env} (hf : Fits N a e) {o : Oper} {w : World} {K : Value → World → Prop} (h : effK std P e o w K)
    {next : Act → World → Prop} {Q : Exit → Act → World → Prop} (hn : ∀ v w', K v w' → next (a.put o.dst v) w') : o.wp P a w next Q := by
  obtain ⟨dst, op, ty, pos, aft, gd⟩ := o
  cases op <;> simp only [effK] at h
  case call c =>
    obtain ⟨callee, args, argTypes⟩ := c
    simp only at h
    split at h
    · rename_i vs hvs
      have hargs : args.map a.eval = vs.toArray := by rw [← hf.evs hvs, ← Array.toList_map]
      split at h
      · obtain ⟨v, w', h1, h2⟩ := semN_run h
        exact wp_of_value (w' := w') (v := v) (by simp [execOp, resolve, invoke, builtin, hargs, h1]) (hn _ _ h2)
      · obtain ⟨v, w', h1, h2⟩ := semN_run h
        exact wp_of_value (w' := w') (v := v) (by simp [execOp, resolve, invoke, builtin, hargs, h1]) (hn _ _ h2)
      · obtain ⟨v, w', h1, h2⟩ := semN_run h
        exact wp_of_value (w' := w') (v := v) (by simp [execOp, resolve, invoke, builtin, hargs, h1]) (hn _ _ h2)
      · rename_i g
        cases hb : bodied P g with
        | false =>
          rw [hb] at h
          simp only [cond_false] at h
          unfold extN at h
          split at h
          · rename_i s _
            obtain ⟨r, w', h1, h2⟩ := h
            refine wp_of_value (w' := w') (v := s.enc r) ?_ (hn _ _ h2)
            simp [execOp, resolve, Deferred.ofValue, Act.eval, invoke, hargs, h1]
          · exact h.elim
        | true =>
          rw [hb] at h
          refine wp_of_enter (w' := w) (f := g) (args := vs.toArray) ?_ ((callN_calls h).mono fun e w' ⟨v, h1, h2⟩ => ⟨v, h1, hn _ _ h2⟩)
          simp [execOp, resolve, Deferred.ofValue, Act.eval, invoke, hargs, callFunc_run hN hb]
      · rename_i t
        split at h
        · rename_i fv hfv
          unfold callV at h
          split at h
          case h_2 => exact h.elim
          rename_i s
          obtain ⟨f, first, cap, rfl, hb, hc⟩ := h
          have hev : a.eval (.tmp t) = .func (.func f) first cap := hf.ev (x := .tmp t) hfv
          refine wp_of_enter (w' := w) (f := f) (args := (first ++ vs.toArray) ++ cap) ?_ (hc.mono fun e w' ⟨v, h1, h2⟩ => ⟨_, h1, hn _ _ h2⟩)
          simp [execOp, resolve, Deferred.ofValue, hev, invoke, hargs, callFunc_run hN hb]
        · exact h.elim
      · exact h.elim
    · exact h.elim
  case buildSlice t len parts =>
    split at h
    · rename_i ps hps
      obtain ⟨v, w', h1, h2⟩ := semN_run h
      have e1 : parts.map (fun p => (p.1, a.eval p.2)) = ps.toArray := by rw [← hf.parts hps, ← Array.toList_map]
      exact wp_of_value (w' := w') (v := v) (run_value' P (by rw [← h1, ← e1])) (hn _ _ h2)
    · exact h.elim
  case makeSlice t l c =>
    split at h
    · rename_i vl hl
      split at h
      · rename_i vc hc
        obtain ⟨v, w', h1, h2⟩ := semN_run h
        exact wp_of_value (w' := w') (v := v) (run_value' P (by rw [hf.ev hl, hf.ev hc]; exact h1)) (hn _ _ h2)
      · exact h.elim
    · exact h.elim
  case alloc t =>
    split at h
    · rename_i i hi
      split at h
      · rename_i z hz
        refine wp_of_value (v := .pointer (some ⟨w.heap.size, 0, none⟩)) (w' := w.alloc (.cells z.cells t)) ?_ (hn _ _ h)
        simp [execOp, Instr.alloc, zeroValue, typeInfo, hi, hz, newVar, newRow, newObj, Sem.run]
      · exact h.elim
    · exact h.elim
  case box t x =>
    split at h
    · rename_i v hv
      refine wp_of_value (v := .pointer (some ⟨w.heap.size, 0, none⟩)) (w' := w.alloc (.cells v.cells t)) ?_ (hn _ _ h)
      simp [execOp, Instr.box, hf.ev hv, newVar, newRow, newObj, Sem.run]
    · exact h.elim
  case store t x y =>
    split at h
    · rename_i ad hx
      split at h
      · rename_i v hv
        obtain ⟨w', h1, h2⟩ := storeK_run h
        exact wp_of_skip (w' := w') (run_skip' P (by rw [hf.ev hx, hf.ev hv]; exact h1)) (hn _ _ h2)
      · exact h.elim
    · exact h.elim
  case convert src dst x =>
    split at h
    · rename_i v hv
      obtain ⟨r, w', h1, h2⟩ := semN_run h
      exact wp_of_value (w' := w') (v := r) (run_value' P (by rw [hf.ev hv]; exact h1)) (hn _ _ h2)
    · exact h.elim
  case makeMap t r =>
    cases r with
    | none =>
      obtain ⟨r, w', h1, h2⟩ := semN_run h
      exact wp_of_value (w' := w') (v := r) (run_value' P h1) (hn _ _ h2)
    | some x => exact h.elim
  case mapUpdate t m k x =>
    split at h
    · rename_i vm vk vx hm hk hx
      obtain ⟨w', h1, h2⟩ := h
      exact wp_of_skip (w' := w') (run_skip' P (by rw [hf.ev hm, hf.ev hk, hf.ev hx]; exact h1)) (hn _ _ h2)
    · exact h.elim
  case lookup t x i ok =>
    split at h
    · rename_i vx vi hx hi
      obtain ⟨r, w', h1, h2⟩ := semN_run h
      exact wp_of_value (w' := w') (v := r) (run_value' P (by rw [hf.ev hx, hf.ev hi]; exact h1)) (hn _ _ h2)
    · exact h.elim
  case range t x =>
    split at h
    · rename_i vx hx
      obtain ⟨r, w', h1, h2⟩ := semN_run h
      exact wp_of_value (w' := w') (v := r) (run_value' P (by rw [hf.ev hx]; exact h1)) (hn _ _ h2)
    · exact h.elim
  case next it b =>
    split at h
    · rename_i vx hx
      rcases h with ⟨w', h1, h2⟩ | ⟨k, v, w', h1, h2⟩
      · exact wp_of_value (w' := w') (run_value' P (by rw [hf.ev hx]; exact h1)) (hn _ _ h2)
      · exact wp_of_value (w' := w') (run_value' P (by rw [hf.ev hx]; exact h1)) (hn _ _ h2)
    · exact h.elim
  case entry it =>
    split at h
    · rename_i vx hx
      obtain ⟨k, v, w', h1, h2⟩ := h
      exact wp_of_value (w' := w') (run_value' P (by rw [hf.ev hx]; exact h1)) (hn _ _ h2)
    · exact h.elim
  all_goals exact h.elim

/-! ### A region in the order of the text -/
structure Cfg where
  N : Nat
  loops : List (Nat × List Nat)
  exits : List (Nat × List Nat)
  joins : List (Nat × List Nat)
  ret : List Nat
  dq : List Nat
  qs : List Nat
  ps : List Nat
def lookN : List (Nat × List Nat) → Nat → List Nat
  | [], _ => []
  | p :: r, i => bif Nat.beq p.1 i then p.2 else lookN r i
def findN : List (Nat × List Nat) → Nat → Option (List Nat)
  | [], _ => none
  | p :: r, i => bif Nat.beq p.1 i then some p.2 else findN r i
def memN : List Nat → Nat → Bool
  | [], _ => false
  | j :: r, i => bif Nat.beq j i then true else memN r i
/-- Is the operation one of those that leave the world alone? -/
def kindPure (P : Program) (o : Oper) : Bool :=
  match o.op with
  | .move _ | .assign _ | .pick .. | .binOp .. | .unOp .. | .extract .. | .indexAddr .. | .index .. | .slice .. | .fieldAddr .. | .nilCheck _ | .makeFunc .. | .build .. | .load .. => true
  | .convert src dst _ => match P.underlying dst with
    | some (.int _) => true
    | some .string => match P.underlying src with
      | some .string => true
      | _ => false
    | _ => false
  | .call c => match c.callee with
    | .builtin .len | .builtin .cap | .builtin .max | .builtin .min => true
    | _ => false
  | _ => false
def pcallK (pr : Prims) (P : Program) (ss : List Sh) (f : FuncId) (args : Array Value) (K : Value → Prop) : Prop :=
  match ss with
  | [s] => pr.pcall1 s P f args fun r => K (s.enc r)
  | _ => False
def staticCall (o : Oper) : Option FuncId :=
  match o.op with
  | .call c => match c.callee with
    | .value (.func g) => some g
    | _ => none
  | _ => none
def callArgs (o : Oper) : List Operand :=
  match o.op with
  | .call c => c.args.toList
  | _ => []
def pcallE (pr : Prims) (P : Program) (e : Env) (o : Oper) (K : Value → Prop) : Prop :=
  match staticCall o with
  | some g => match Env.evs e (callArgs o) with
    | some args => bif bodied P g then pcallK pr P (shsOf P o.type) g args.toArray K else False
    | none => False
  | none => False
def isPCall (ps : List Nat) (o : Oper) : Bool :=
  match staticCall o with
  | some g => memN ps g
  | none => false
def evalOp (pr : Prims) (P : Program) (c : Cfg) (e : Env) (o : Oper) (w : World) (K : Value → World → Prop) : Prop :=
  bif kindPure P o then pureK pr P e o w (fun v => K v w) else bif isPCall c.ps o then pcallE pr P e o (fun v => K v w) else effK pr P e o w K
/-- One operation under its guard: 'run' where it is wanted, 'pass' where not, in the environment in which the guard is decided. -/
def guarded (ops : Array Oper) (e : Env) (o : Oper) (run pass : Env → Prop) : Prop :=
  match o.guard with
  | none => run e
  | some (j, want) => match (ops[j]?).bind (·.dst) with
    | none => False
    | some d => match Env.get e d with
      | some (.bool b) => bif b then (bif want then run ((d, .bool true) :: e) else pass ((d, .bool true) :: e)) else (bif want then pass ((d, .bool false) :: e) else run ((d, .bool false) :: e))
      | some (.tuple _) => pass e
      | _ => False
def evalOps (pr : Prims) (P : Program) (c : Cfg) (ops : Array Oper) : List Oper → Env → World → (Env → World → Prop) → Prop
  | [], e, w, K => K e w
  | o :: rest, e, w, K => guarded ops e o
    (fun e => evalOp pr P c e o w fun v w' => evalOps pr P c ops rest (putE c.N e o.dst v) w' K)
    (fun e => evalOps pr P c ops rest (putE c.N e o.dst undef) w K)
/-- A region whose order is drawn and whose operations do not commute: in every order; an operation that only reckons is taken first. -/
def freePure (P : Program) (ops : Array Oper) (listed : Array Bool) (i : Nat) : Bool :=
  match ops[i]? with
  | some o => kindPure P o && !isLoad o && Region.free .any ops listed i
  | none => false
def allK (f : Nat → Prop) : List Nat → Prop
  | [] => True
  | [i] => f i
  | i :: j :: r => f i ∧ allK f (j :: r)
def findFree (g : Nat → Bool) : List Nat → Option Nat
  | [] => none
  | i :: r => bif g i then some i else findFree g r
def evalAt (pr : Prims) (P : Program) (c : Cfg) (ops : Array Oper) (i : Nat) (e : Env) (w : World) (next : Env → World → Prop) : Prop :=
  match ops[i]? with
  | some o => guarded ops e o (fun e => evalOp pr P c e o w fun v w' => next (putE c.N e o.dst v) w') (fun e => next (putE c.N e o.dst undef) w)
  | none => False
def evalAny (pr : Prims) (P : Program) (c : Cfg) (ops : Array Oper) : Nat → Array Bool → Env → World → (Env → World → Prop) → Prop
  | 0, listed, e, w, K => match Region.ready .any ops listed with
    | [] => K e w
    | _ :: _ => False
  | fuel + 1, listed, e, w, K => match Region.ready .any ops listed with
    | [] => K e w
    | r :: rs => match findFree (freePure P ops listed) (r :: rs) with
      | some i => evalAt pr P c ops i e w fun e' w' => evalAny pr P c ops fuel (listed.setIfInBounds i true) e' w' K
      | none => allK (fun i => evalAt pr P c ops i e w fun e' w' => evalAny pr P c ops fuel (listed.setIfInBounds i true) e' w' K) (r :: rs)
def qcallK (pr : Prims) (P : Program) (ss : List Sh) (f : FuncId) (args : Array Value) (w : World) (K : Value → Prop) : Prop :=
  match ss with
  | [s] => pr.qcall1 s P f args w fun r => K (s.enc r)
  | _ => False
def qcallE (pr : Prims) (P : Program) (e : Env) (o : Oper) (w : World) (K : Value → Prop) : Prop :=
  match staticCall o with
  | some g => match Env.evs e (callArgs o) with
    | some args => bif bodied P g then qcallK pr P (shsOf P o.type) g args.toArray w K else False
    | none => False
  | none => False
def evalOpQ (pr : Prims) (P : Program) (c : Cfg) (e : Env) (o : Oper) (w : World) (K : Value → Prop) : Prop :=
  bif kindPure P o then pureK pr P e o w K else bif isPCall c.ps o then pcallE pr P e o K else qcallE pr P e o w K
def evalOpsQ (pr : Prims) (P : Program) (c : Cfg) (ops : Array Oper) (w : World) : List Oper → Env → (Env → Prop) → Prop
  | [], e, K => K e
  | o :: rest, e, K => guarded ops e o
    (fun e => evalOpQ pr P c e o w fun v => evalOpsQ pr P c ops w rest (putE c.N e o.dst v) K)
    (fun e => evalOpsQ pr P c ops w rest (putE c.N e o.dst undef) K)
def quietB (P : Program) (c : Cfg) (ops : Array Oper) : Bool :=
  ops.toList.all fun o => kindPure P o || isPCall c.ps o || isPCall c.qs o

theorem pcallK_calls {P : Program} {ss : List Sh} {f : FuncId} {args : Array Value} {K : Value → Prop} (h : pcallK std P ss f args K) :
    ∃ v, (∀ w, Calls P f args w fun e w' => e = .returned v ∧ w' = w) ∧ K v := by
  unfold pcallK at h
  split at h
  · obtain ⟨r, h1, h2⟩ := h; exact ⟨_, h1, h2⟩
  · exact h.elim
theorem qcallK_calls {P : Program} {ss : List Sh} {f : FuncId} {args : Array Value} {w : World} {K : Value → Prop} (h : qcallK std P ss f args w K) :
    ∃ v, (∀ w', Drew w w' → Calls P f args w' fun e w'' => e = .returned v ∧ Drew w' w'') ∧ K v := by
  unfold qcallK at h
  split at h
  · obtain ⟨r, h1, h2⟩ := h; exact ⟨_, h1, h2⟩
  · exact h.elim
theorem staticCall_run {P : Program} (hN : NoCount P) {N : Nat} {a : Act} {e : Env} (hf : Fits N a e) {o : Oper} {g : FuncId} {vs : List Value}
    (hs : staticCall o = some g) (hv : Env.evs e (callArgs o) = some vs) (hb : bodied P g = true) (w : World) : (execOp a.eval o).run P w = .ok (.enter g vs.toArray) w := by
  obtain ⟨dst, op, ty, pos, aft, gd⟩ := o
  cases op <;> simp only [staticCall, reduceCtorEq] at hs
  rename_i c
  obtain ⟨callee, args, argTypes⟩ := c
  simp only at hs
  split at hs
  · simp only [Option.some.injEq] at hs
    subst hs
    simp only [callArgs] at hv
    have hargs : args.map a.eval = vs.toArray := by rw [← hf.evs hv, ← Array.toList_map]
    simp [execOp, resolve, Deferred.ofValue, Act.eval, invoke, hargs, callFunc_run hN hb]
  · cases hs
theorem pcallE_sound {P : Program} (hN : NoCount P) {N : Nat} {a : Act} {e : Env} (hf : Fits N a e) {o : Oper} {K : Value → Prop} (h : pcallE std P e o K) :
    ∃ f args v, (∀ w, (execOp a.eval o).run P w = .ok (.enter f args) w) ∧ (∀ w, Calls P f args w fun e w' => e = .returned v ∧ w' = w) ∧ K v := by
  unfold pcallE at h
  split at h
  · rename_i g hg
    split at h
    · rename_i vs hvs
      cases hb : bodied P g with
      | false => rw [hb] at h; exact h.elim
      | true =>
        rw [hb] at h
        obtain ⟨v, h1, h2⟩ := pcallK_calls h
        exact ⟨_, _, v, staticCall_run hN hf hg hvs hb, h1, h2⟩
    · exact h.elim
  · exact h.elim
theorem qcallE_sound {P : Program} (hN : NoCount P) {N : Nat} {a : Act} {e : Env} (hf : Fits N a e) {o : Oper} {w : World} {K : Value → Prop} (h : qcallE std P e o w K) :
    ∃ f args v, (∀ w, (execOp a.eval o).run P w = .ok (.enter f args) w) ∧ (∀ w', Drew w w' → Calls P f args w' fun e w'' => e = .returned v ∧ Drew w' w'') ∧ K v := by
  unfold qcallE at h
  split at h
  · rename_i g hg
    split at h
    · rename_i vs hvs
      cases hb : bodied P g with
      | false => rw [hb] at h; exact h.elim
      | true =>
        rw [hb] at h
        obtain ⟨v, h1, h2⟩ := qcallK_calls h
        exact ⟨_, _, v, staticCall_run hN hf hg hvs hb, h1, h2⟩
    · exact h.elim
  · exact h.elim
theorem evalOp_sound {P : Program} (hN : NoCount P) {c : Cfg} {a : Act} {e : Env} (hf : Fits c.N a e) {o : Oper} {w : World} {K : Value → World → Prop} (h : evalOp std P c e o w K)
    {next : Act → World → Prop} {Q : Exit → Act → World → Prop} (hn : ∀ v w', K v w' → next (a.put o.dst v) w') : o.wp P a w next Q := by
  unfold evalOp at h
  cases hp : kindPure P o with
  | true =>
    rw [hp] at h
    obtain ⟨v, h1, h2⟩ := pureK_sound hf h
    exact wp_of_value (h1 w (fun _ => rfl)) (hn _ _ h2)
  | false =>
    rw [hp] at h
    simp only [cond_false] at h
    cases hc : isPCall c.ps o with
    | true =>
      rw [hc] at h
      obtain ⟨f, args, v, h1, h2, h3⟩ := pcallE_sound hN hf h
      exact wp_of_enter (h1 w) ((h2 w).mono fun e w' ⟨he, hw⟩ => ⟨v, he, by rw [hw]; exact hn _ _ h3⟩)
    | false =>
      rw [hc] at h
      exact effK_sound hN hf h hn
theorem guarded_sound {ops : Array Oper} {N : Nat} {a : Act} {e : Env} (hf : Fits N a e) {o : Oper} {run pass : Env → Prop} (h : guarded ops e o run pass) :
    ∃ e', Fits N a e' ∧ (if Region.wanted o (yielded ops a.tmps) then run e' else pass e') := by
  unfold guarded at h
  split at h
  · rename_i hg; exact ⟨e, hf, by simp only [Region.wanted, hg, if_true]; exact h⟩
  · rename_i j want hg
    split at h
    · exact h.elim
    · rename_i d hd
      split at h
      · rename_i b hb
        have hy : yielded ops a.tmps j = some b := by
          have := hf.at_ d _ hb
          simp [yielded, hd, this]
        have hw : Region.wanted o (yielded ops a.tmps) = (b == want) := by
          simp only [Region.wanted, hg, hy]; cases b <;> cases want <;> rfl
        rw [hw]
        cases b <;> cases want <;> exact ⟨_, hf.set hb, by simpa using h⟩
      · rename_i vs hb
        have hy : yielded ops a.tmps j = none := by
          have := hf.at_ d _ hb
          simp [yielded, hd, this]
        have hw : Region.wanted o (yielded ops a.tmps) = false := by
          simp only [Region.wanted, hg, hy]; cases want <;> rfl
        rw [hw]
        exact ⟨e, hf, by simpa using h⟩
      · exact h.elim
theorem evalOps_sound {P : Program} (hN : NoCount P) {c : Cfg} {ops : Array Oper} {K : Env → World → Prop} : ∀ (l : List Oper) (e : Env) (w : World) (a : Act), Fits c.N a e → evalOps std P c ops l e w K →
    wpList P ops (fun ex a' w' => ex = .normal ∧ ∃ e', Fits c.N a' e' ∧ K e' w') l a w
  | [], e, w, a, hf, h => ⟨rfl, e, hf, h⟩
  | o :: rest, e, w, a, hf, h => by
    simp only [evalOps] at h
    obtain ⟨e', hf', h'⟩ := guarded_sound hf h
    unfold wpList
    split
    · rename_i hw
      rw [if_pos hw] at h'
      exact .inl (evalOp_sound hN hf' h' fun v w' hk => evalOps_sound hN rest _ _ _ (hf'.put _ _) hk)
    · rename_i hw
      rw [if_neg hw] at h'
      exact evalOps_sound hN rest _ _ _ (hf'.put _ _) h'
theorem allK_mem {f : Nat → Prop} : ∀ {l : List Nat}, allK f l → ∀ i ∈ l, f i
  | [], _, _, h => by cases h
  | [j], h, i, hi => by simp at hi; subst hi; exact h
  | j :: k :: r, h, i, hi => by
    simp only [allK] at h
    rcases List.mem_cons.1 hi with rfl | hi
    · exact h.1
    · exact allK_mem h.2 i hi
theorem findFree_spec {g : Nat → Bool} : ∀ {l : List Nat} {i : Nat}, findFree g l = some i → i ∈ l ∧ g i = true
  | [], _, h => by cases h
  | j :: r, i, h => by
    simp only [findFree] at h
    cases hj : g j with
    | true => rw [hj] at h; simp at h; subst h; exact ⟨by simp, hj⟩
    | false =>
      rw [hj] at h
      have := findFree_spec h
      exact ⟨List.mem_cons_of_mem _ this.1, this.2⟩
theorem evalAny_sound {P : Program} (hN : NoCount P) {c : Cfg} {ops : Array Oper} (hs : Region.noSelect ops = true) {K : Env → World → Prop} : ∀ (fuel : Nat) (listed : Array Bool) (e : Env) (w : World) (a : Act), Fits c.N a e →
    evalAny std P c ops fuel listed e w K → wpAny P .any ops (fun ex a' w' => ex = .normal ∧ ∃ e', Fits c.N a' e' ∧ K e' w') fuel listed a w
  | 0, listed, e, w, a, hf, h => by
    simp only [evalAny] at h
    split at h
    · rename_i hr; exact ⟨hr, rfl, e, hf, h⟩
    · exact h.elim
  | fuel + 1, listed, e, w, a, hf, h => by
    simp only [evalAny] at h
    split at h
    · rename_i hr; exact wpAny_done hr ⟨rfl, e, hf, h⟩ _
    · rename_i r rs hr
      split at h
      · rename_i i hi
        obtain ⟨hmem, hfree⟩ := findFree_spec hi
        unfold freePure at hfree
        unfold evalAt at h
        split at hfree
        · rename_i o ho
          rw [ho] at h
          simp only [Bool.and_eq_true, Bool.not_eq_true'] at hfree
          obtain ⟨⟨hk, hl⟩, hfr⟩ := hfree
          obtain ⟨e', hf', h'⟩ := guarded_sound hf h
          by_cases hw : Region.wanted o (yielded ops a.tmps) = true
          · rw [if_pos hw] at h'
            unfold evalOp at h'
            rw [hk] at h'
            obtain ⟨v, h1, h2⟩ := pureK_sound hf' h'
            refine wpAny_take ho hs hfr (by rw [hr]; simpa using hmem) (fun c a w h => by cases h.1) (.inl ⟨hw, fun w' => h1 w' (fun hh => by rw [hl] at hh; cases hh)⟩) ?_
            exact evalAny_sound hN hs fuel _ _ _ _ (hf'.put _ _) h2
          · rw [if_neg hw] at h'
            refine wpAny_take ho hs hfr (by rw [hr]; simpa using hmem) (fun c a w h => by cases h.1) (.inr ⟨by simpa using hw, rfl⟩) ?_
            exact evalAny_sound hN hs fuel _ _ _ _ (hf'.put _ _) h'
        · cases hfree
      · refine wpAny_all hr (by simp) fun i hi => ?_
        have h := allK_mem h i hi
        unfold evalAt at h
        split at h
        · rename_i o ho
          obtain ⟨e', hf', h'⟩ := guarded_sound hf h
          unfold wpOp
          simp only [ho]
          by_cases hw : Region.wanted o (yielded ops a.tmps) = true
          · rw [if_pos hw] at h' ⊢
            exact .inl (evalOp_sound hN hf' h' fun v w' hk => evalAny_sound hN hs fuel _ _ _ _ (hf'.put _ _) hk)
          · rw [if_neg hw] at h' ⊢
            exact evalAny_sound hN hs fuel _ _ _ _ (hf'.put _ _) h'
        · exact h.elim
theorem Drew.refl (w : World) : Drew w w := ⟨0, rfl⟩
theorem Drew.trans {a b c : World} (h : Drew a b) (k : Drew b c) : Drew a c := by
  obtain ⟨n, rfl⟩ := h; obtain ⟨m, rfl⟩ := k; exact ⟨n + m, by simp⟩
theorem Drew.heap {w w' : World} (h : Drew w w') : w'.heap = w.heap := by obtain ⟨n, rfl⟩ := h; rfl
theorem evalOpQ_sound {P : Program} (hN : NoCount P) {c : Cfg} {a : Act} {e : Env} (hf : Fits c.N a e) {o : Oper} {w : World} {K : Value → Prop} (h : evalOpQ std P c e o w K)
    {next : Act → Prop} (hn : ∀ v, K v → next (a.put o.dst v)) : o.quiet P a (Drew w) next := by
  unfold evalOpQ at h
  cases hp : kindPure P o with
  | true =>
    rw [hp] at h
    obtain ⟨v, h1, h2⟩ := pureK_sound hf h
    refine ⟨v, fun w' hw' => ?_, hn _ h2⟩
    unfold Oper.quietAt
    rw [h1 w' (fun _ => hw'.heap)]
    exact ⟨rfl, rfl⟩
  | false =>
    rw [hp] at h
    simp only [cond_false] at h
    cases hc : isPCall c.ps o with
    | true =>
      rw [hc] at h
      obtain ⟨f, args, v, h1, h2, h3⟩ := pcallE_sound hN hf h
      refine ⟨v, fun w' hw' => ?_, hn _ h3⟩
      unfold Oper.quietAt
      rw [h1 w']
      exact ⟨rfl, (h2 w').mono fun e w'' ⟨he, hw⟩ => ⟨he, by rw [hw]; exact hw'⟩⟩
    | false =>
      rw [hc] at h
      obtain ⟨f, args, v, h1, h2, h3⟩ := qcallE_sound hN hf h
      refine ⟨v, fun w' hw' => ?_, hn _ h3⟩
      unfold Oper.quietAt
      rw [h1 w']
      exact ⟨rfl, (h2 w' hw').mono fun e w'' ⟨he, hw⟩ => ⟨he, hw'.trans hw⟩⟩
theorem evalOpsQ_sound {P : Program} (hN : NoCount P) {c : Cfg} {ops : Array Oper} {w : World} {K : Env → Prop} {KA : Act → Prop} : ∀ (l : List Oper) (e : Env) (a : Act), Fits c.N a e → evalOpsQ std P c ops w l e K →
    (∀ a' e', Fits c.N a' e' → K e' → KA a') → wpQuiet P ops (Drew w) KA l a
  | [], e, a, hf, h, hk => hk a e hf h
  | o :: rest, e, a, hf, h, hk => by
    simp only [evalOpsQ] at h
    obtain ⟨e', hf', h'⟩ := guarded_sound hf h
    unfold wpQuiet
    split
    · rename_i hw
      rw [if_pos hw] at h'
      exact evalOpQ_sound hN hf' h' fun v hv => evalOpsQ_sound hN rest _ _ (hf'.put _ _) hv hk
    · rename_i hw
      rw [if_neg hw] at h'
      exact evalOpsQ_sound hN rest _ _ (hf'.put _ _) h' hk

/-! ### The code -/
def firstReg : Code → Option Nat
  | .region id _ _ => some id
  | .seq a b => match firstReg a with
    | some i => some i
    | none => firstReg b
  | .cond _ a b => match firstReg a with
    | some i => some i
    | none => firstReg b
  | .block _ b => firstReg b
  | .loop b => firstReg b
  | .scope b => firstReg b
  | _ => none
def keyOf (c : Code) : Nat :=
  match firstReg c with
  | some i => i
  | none => 0
def normQ (ex : Exit) (k : Env → World → Prop) (Q : Exit → Env → World → Prop) (e : Env) (w : World) : Prop :=
  match ex with
  | .normal => k e w
  | ex => Q ex e w
def blockQ (ex : Exit) (id : Nat) (Q : Exit → Env → World → Prop) (e : Env) (w : World) : Prop :=
  match ex with
  | .exit i => bif Nat.beq i id then Q .normal e w else Q (.exit i) e w
  | ex => Q ex e w
def scopeQ (ex : Exit) (Q : Exit → Env → World → Prop) (e : Env) (w : World) : Prop :=
  match ex with
  | .goto _ => False
  | ex => Q ex e w
/-- Where the ways of a test meet again: what is alive there, and the rest behind one word. -/
def contE (pr : Prims) (c : Cfg) (b : Code) (k : Env → World → Prop) (e : Env) (w : World) : Prop :=
  match findN c.joins (keyOf b) with
  | some l => pr.seg k (Env.restr e l) w
  | none => k e w
def wpC (pr : Prims) (P : Program) (c : Cfg) (D : Nat → Array Oper → Env → World → (Env → World → Prop) → Prop) : Code → (Exit → Env → World → Prop) → Env → World → Prop
  | .skip, Q, e, w => Q .normal e w
  | .region id ops draw, Q, e, w =>
    bif draw then (bif memN c.dq id then evalOpsQ pr P c ops w ops.toList e (fun e' => pr.drewAll w fun w' => Q .normal e' w') else pr.drewAll w fun w' => evalAny pr P c ops ops.size (Array.replicate ops.size false) e w' (Q .normal))
    else evalOps pr P c ops ops.toList e w (Q .normal)
  | .seq a b, Q, e, w => wpC pr P c D a (fun ex e w => normQ ex (fun e w => contE pr c b (fun e w => wpC pr P c D b Q e w) e w) Q e w) e w
  | .cond x a b, Q, e, w => match Env.ev e x with
    | some (.bool t) => bif t then wpC pr P c D a Q e w else wpC pr P c D b Q e w
    | _ => False
  | .block id b, Q, e, w => wpC pr P c D b (fun ex e w => blockQ ex id Q e w) e w
  | .loop b, Q, e, w => pr.loop (fun k e w => wpC pr P c D b (fun ex e w => normQ ex (fun e' w' => k (Env.restr e' (lookN c.loops (keyOf b))) w') Q e w) e w) (Env.restr e (lookN c.loops (keyOf b))) w
  | .exit id, Q, e, w => Q (.exit id) (Env.restr e (lookN c.exits id)) w
  | .scope b, Q, e, w => wpC pr P c D b (fun ex e w => scopeQ ex Q e w) e w
  | .ret, Q, e, w => Q .ret (Env.restr e c.ret) w
  | _, _, _, _ => False
/-- What is owed for the regions that draw their order: those listed in 'dq' are quiet; of the others 'ok' is asked. -/
def drawsOk (P : Program) (c : Cfg) (ok : Nat → Array Oper → Bool) : Code → Bool
  | .region id ops draw => bif draw then (bif memN c.dq id then (quietB P c ops && Region.lexB .any ops) else Region.noSelect ops) else true
  | .seq a b => drawsOk P c ok a && drawsOk P c ok b
  | .cond _ a b => drawsOk P c ok a && drawsOk P c ok b
  | .block _ b => drawsOk P c ok b
  | .loop b => drawsOk P c ok b
  | .scope b => drawsOk P c ok b
  | _ => true
/-- What 'D' owes. -/
def DrawOk (P : Program) (c : Cfg) (D : Nat → Array Oper → Env → World → (Env → World → Prop) → Prop) (ok : Nat → Array Oper → Bool) : Prop :=
  ∀ (id : Nat) (ops : Array Oper) (e : Env) (w : World) (K : Env → World → Prop) (a : Act), ok id ops = true → Fits c.N a e → D id ops e w K →
    (Code.region id ops true).wp P (fun ex a' w' => ex = .normal ∧ ∃ e', Fits c.N a' e' ∧ K e' w') a w
def QA (N : Nat) (Q : Exit → Env → World → Prop) (ex : Exit) (a : Act) (w : World) : Prop := ∃ e, Fits N a e ∧ Q ex e w
theorem contE_sound {c : Cfg} {a : Act} {e : Env} (h : Fits c.N a e) (b : Code) {k : Env → World → Prop} {w : World} (hc : contE std c b k e w) : ∃ e', Fits c.N a e' ∧ k e' w := by
  unfold contE at hc
  split at hc
  · exact ⟨_, h.restr _, hc⟩
  · exact ⟨e, h, hc⟩
theorem exists_least {p : Nat → Prop} (h : ∃ n, p n) : ∃ n, p n ∧ ∀ m, p m → n ≤ m := by
  obtain ⟨n, hn⟩ := h
  induction n using Nat.strongRecOn with
  | _ n ih =>
    by_cases hm : ∃ m, m < n ∧ p m
    · obtain ⟨m, hlt, hp⟩ := hm; exact ih m hlt hp
    · exact ⟨n, hn, fun m hp => by
        rcases Nat.lt_or_ge m n with hlt | hge
        · exact absurd ⟨m, hlt, hp⟩ hm
        · exact hge⟩
open Classical in
theorem wp_loop_env {P : Program} {N : Nat} {b : Code} {Q : Exit → Act → World → Prop} {σ : Type} {emb : σ → Env} {I : σ → World → Prop} {μ : σ → World → Nat} {a : Act} {w : World} {s0 : σ}
    (hf : Fits N a (emb s0)) (h0 : I s0 w)
    (round : ∀ a w s, Fits N a (emb s) → I s w → b.wp P (Exit.then (fun a' w' => ∃ s', Fits N a' (emb s') ∧ I s' w' ∧ μ s' w' < μ s w) Q) a w) : (Code.loop b).wp P Q a w := by
  let p : Act → World → Nat → Prop := fun a w n => ∃ s, Fits N a (emb s) ∧ I s w ∧ μ s w = n
  let m : Act → World → Nat := fun a w => if h : ∃ n, p a w n then Classical.choose (exists_least h) else 0
  have hm : ∀ a w, (h : ∃ n, p a w n) → p a w (m a w) ∧ ∀ n, p a w n → m a w ≤ n := fun a w h => by
    have := Classical.choose_spec (exists_least h)
    simp only [m, dif_pos h]
    exact this
  refine wp_loop (fun a w => ∃ s, Fits N a (emb s) ∧ I s w) m ⟨s0, hf, h0⟩ ?_
  rintro a w ⟨e1, hf1, hI1⟩
  obtain ⟨⟨e2, hf2, hI2, hμ⟩, _⟩ := hm a w ⟨_, e1, hf1, hI1, rfl⟩
  refine wp_mono (round a w e2 hf2 hI2) ?_
  intro ex a' w' hq
  cases ex <;> first | exact hq | skip
  obtain ⟨e', hf', hI', hlt⟩ := hq
  refine ⟨⟨e', hf', hI'⟩, ?_⟩
  have := (hm a' w' ⟨_, e', hf', hI', rfl⟩).2 _ ⟨e', hf', hI', rfl⟩
  omega
theorem wpC_sound {P : Program} (hN : NoCount P) (hm : P.follows .mixedOrders = true) {c : Cfg} {D : Nat → Array Oper → Env → World → (Env → World → Prop) → Prop} {ok : Nat → Array Oper → Bool} (hD : DrawOk P c D ok) :
    ∀ (b : Code), drawsOk P c ok b = true → ∀ (Q : Exit → Env → World → Prop) (e : Env) (w : World) (a : Act), Fits c.N a e → wpC std P c D b Q e w → b.wp P (QA c.N Q) a w := by
  intro b
  induction b with
  | skip => intro hok Q e w a hf h; exact wp_skip ⟨e, hf, h⟩
  | region id ops draw =>
    intro hok Q e w a hf h
    simp only [wpC] at h
    cases draw with
    | false =>
      refine wp_mono (wp_region_list (evalOps_sound hN _ _ _ _ hf h)) ?_
      rintro ex a' w' ⟨rfl, e', hf', hk⟩
      exact ⟨e', hf', hk⟩
    | true =>
      simp only [cond_true] at h
      simp only [drawsOk, cond_true] at hok
      cases hq : memN c.dq id with
      | true =>
        rw [hq] at h hok
        refine wp_region_quiet (C := Drew w) hm (Bool.and_eq_true_iff.1 hok).2 ⟨1, rfl⟩ (evalOpsQ_sound hN (KA := fun a' => ∀ w', Drew w w' → QA c.N Q .normal a' w') _ _ _ hf h ?_)
        intro a' e' hf' hk w' hw'
        exact ⟨e', hf', hk w' hw'⟩
      | false =>
        rw [hq] at h hok
        refine wp_mono (wp_region_any hm (evalAny_sound hN hok _ _ _ _ _ hf (h _ ⟨1, rfl⟩))) ?_
        rintro ex a' w' ⟨rfl, e', hf', hk⟩
        exact ⟨e', hf', hk⟩
  | seq x y ihx ihy =>
    intro hok Q e w a hf h
    simp only [drawsOk, Bool.and_eq_true] at hok
    refine wp_seq (wp_mono (ihx hok.1 _ e w a hf h) ?_)
    rintro ex a' w' ⟨e', hf', hq⟩
    cases ex <;> first | exact ⟨e', hf', hq⟩ | skip
    obtain ⟨e2, hf2, hk⟩ := contE_sound hf' y hq
    exact ihy hok.2 _ _ _ _ hf2 hk
  | cond x y z ihy ihz =>
    intro hok Q e w a hf h
    simp only [drawsOk, Bool.and_eq_true] at hok
    simp only [wpC] at h
    split at h
    · rename_i t ht
      refine wp_cond (hf.ev ht) ?_
      cases t with
      | true => exact ihy hok.1 _ _ _ _ hf h
      | false => exact ihz hok.2 _ _ _ _ hf h
    · exact h.elim
  | block id b ih =>
    intro hok Q e w a hf h
    refine wp_block (wp_mono (ih hok _ e w a hf h) ?_)
    rintro ex a' w' ⟨e', hf', hq⟩
    cases ex <;> first | exact ⟨e', hf', hq⟩ | skip
    rename_i i
    simp only [Exit.inBlock]
    simp only [blockQ] at hq
    cases hb : Nat.beq i id with
    | true => rw [hb] at hq; rw [if_pos (Nat.eq_of_beq_eq_true hb)]; exact ⟨e', hf', hq⟩
    | false => rw [hb] at hq; rw [if_neg (Nat.ne_of_beq_eq_false hb)]; exact ⟨e', hf', hq⟩
  | loop b ih =>
    intro hok Q e w a hf h
    obtain ⟨σ, emb, I, μ, s0, he, h0, hstep⟩ := h
    refine wp_loop_env (N := c.N) (emb := emb) (I := I) (μ := μ) (s0 := s0) (he ▸ hf.restr _) h0 ?_
    intro a w s hf hI
    refine wp_mono (ih hok _ (emb s) w a hf (hstep s w hI)) ?_
    rintro ex a' w' ⟨e', hf', hq⟩
    cases ex <;> first | exact ⟨e', hf', hq⟩ | skip
    obtain ⟨s', he', hI', hlt⟩ := hq
    exact ⟨s', he' ▸ hf'.restr _, hI', hlt⟩
  | exit id => intro hok Q e w a hf h; exact wp_exit ⟨_, hf.restr _, h⟩
  | scope b ih =>
    intro hok Q e w a hf h
    refine wp_scope_straight (wp_mono (ih hok _ e w a hf h) ?_)
    rintro ex a' w' ⟨e', hf', hq⟩
    cases ex <;> first | exact ⟨e', hf', hq⟩ | exact hq.elim
  | ret => intro hok Q e w a hf h; exact wp_ret ⟨_, hf.restr _, h⟩
  | rangeFunc => intro hok Q e w a hf h; exact h.elim
  | label => intro hok Q e w a hf h; exact h.elim
  | goto => intro hok Q e w a hf h; exact h.elim
  | refuse => intro hok Q e w a hf h; exact h.elim

/-! ### A function's call -/
def retVal (rs : List ResultVar) (e : Env) : Option Value :=
  match rs with
  | [] => some (.tuple #[])
  | [.tmp t] => Env.get e t
  | [.tmp t, .tmp u] => match Env.get e t, Env.get e u with
    | some x, some y => some (.tuple #[x, y])
    | _, _ => none
  | [.tmp t, .tmp u, .tmp v] => match Env.get e t, Env.get e u, Env.get e v with
    | some x, some y, some z => some (.tuple #[x, y, z])
    | _, _, _ => none
  | _ => none
def endQ (rs : List ResultVar) (R : Ending → World → Prop) (e : Env) (w : World) : Prop :=
  match retVal rs e with
  | some v => R (.returned v) w
  | none => False
def retQ (rs : List ResultVar) (R : Ending → World → Prop) : Exit → Env → World → Prop
  | .normal, e, w => endQ rs R e w
  | .ret, e, w => endQ rs R e w
  | _, _, _ => False
def argE : Nat → List Value → Env
  | _, [] => []
  | k, v :: r => (k, v) :: argE (k + 1) r
def codeOf (fn : Func) : Code :=
  match fn.body with
  | some c => c
  | none => .skip
/-- A piece of the code by its way from the top. -/
def sub : Code → List Nat → Code
  | c, [] => c
  | .seq a b, i :: r => bif Nat.beq i 0 then sub a r else sub b r
  | .cond _ a b, i :: r => bif Nat.beq i 0 then sub a r else sub b r
  | .block _ b, _ :: r => sub b r
  | .loop b, _ :: r => sub b r
  | .scope b, _ :: r => sub b r
  | c, _ => c
theorem get_argE : ∀ (l : List Value) (k i : Nat) (v : Value), Env.get (argE k l) i = some v → k ≤ i ∧ l[i - k]? = some v
  | [], k, i, v, h => by simp [argE, Env.get] at h
  | u :: r, k, i, v, h => by
    simp only [argE] at h
    rw [get_cons] at h
    by_cases hki : k = i
    · subst hki; simp only [if_true, Option.some.injEq] at h; subst h; simp
    · simp only [hki, if_false] at h
      obtain ⟨h1, h2⟩ := get_argE r (k + 1) i v h
      refine ⟨by omega, ?_⟩
      rw [show i - k = (i - (k + 1)) + 1 by omega, List.getElem?_cons_succ]
      exact h2
theorem retVal_run {P : Program} {N : Nat} {a : Act} {e : Env} (hf : Fits N a e) {fn : Func} {v : Value} (w : World) (h : retVal fn.results.toList e = some v) : (results fn a.tmps).run P w = .ok v w := by
  generalize hr : fn.results.toList = rs at h
  have hr' : fn.results = rs.toArray := by rw [← hr]
  unfold retVal at h
  split at h
  · simp only [Option.some.injEq] at h; subst h; simp [results, hr']
  · simp [results, hr', hf.at_ _ _ h]
  · split at h
    · rename_i x y hx hy; simp only [Option.some.injEq] at h; subst h; simp [results, hr', hf.at_ _ _ hx, hf.at_ _ _ hy]
    · cases h
  · split at h
    · rename_i x y z hx hy hz; simp only [Option.some.injEq] at h; subst h; simp [results, hr', hf.at_ _ _ hx, hf.at_ _ _ hy, hf.at_ _ _ hz]
    · cases h
  · cases h
theorem fits_args (n : Nat) (args : List Value) (h : args.length ≤ n) : Fits n { tmps := args.toArray ++ Array.replicate (n - args.toArray.size) undef, defers := [] } (argE 0 args) := by
  refine ⟨by simp; omega, rfl, fun i v hv => ?_⟩
  obtain ⟨_, h2⟩ := get_argE args 0 i v hv
  simp only [Nat.sub_zero] at h2
  have hi : i < args.length := (List.getElem?_eq_some_iff.1 h2).1
  rw [Array.getElem?_append_left (by simpa using hi)]
  simpa using h2
theorem calls_of {P : Program} (hN : NoCount P) (hm : P.follows .mixedOrders = true) {c : Cfg} {D : Nat → Array Oper → Env → World → (Env → World → Prop) → Prop} {ok : Nat → Array Oper → Bool} (hD : DrawOk P c D ok)
    {f : FuncId} {fn : Func} (hf : P.funcs[f]? = some fn) (hb : fn.body.isSome = true) {args : List Value} (hn : c.N = fn.ntmps) (hl : args.length ≤ fn.ntmps) (hok : drawsOk P c ok (codeOf fn) = true) {R : Ending → World → Prop} {w : World}
    (h : wpC std P c D (codeOf fn) (retQ fn.results.toList R) (argE 0 args) w) : Calls P f args.toArray w R := by
  obtain ⟨b, hb⟩ := Option.isSome_iff_exists.1 hb
  have hc : codeOf fn = b := by simp [codeOf, hb]
  rw [hc] at h hok
  refine calls_of_wp hf hb (wp_mono (wpC_sound hN hm hD b hok _ _ w _ (by rw [hn]; exact fits_args fn.ntmps args hl) h) ?_)
  rintro ex a w' ⟨e, hfit, hq⟩
  cases ex <;> simp only [retQ] at hq
  all_goals
    unfold endQ at hq
    split at hq
    · rename_i v hv; exact ⟨hfit.defers, v, retVal_run hfit w' hv, hq⟩
    · exact hq.elim

/-! ### Loops, for whoever proves -/
theorem LoopE.intro {step : (Env → World → Prop) → Env → World → Prop} {e : Env} {w : World} {σ : Type} (emb : σ → Env) (I : σ → World → Prop) (μ : σ → World → Nat) (s0 : σ)
    (he : e = emb s0) (h0 : I s0 w) (h : ∀ s w, I s w → step (fun e' w' => ∃ s', e' = emb s' ∧ I s' w' ∧ μ s' w' < μ s w) (emb s) w) : LoopE step e w :=
  ⟨σ, emb, I, μ, s0, he, h0, h⟩
end Go.Proofs.YtlcemelmnkipmaaGreat

/- The names of the functions and types, written by a program (Gen.lean). -/
set_option linter.unusedVariables false
namespace Go.Proofs.YtlcemelmnkipmaaGreat
open Go
namespace F
@[reducible] def main_main : FuncId := 0
@[reducible] def gosem_cut : FuncId := 1
@[reducible] def gosem_cut_init : FuncId := 2
@[reducible] def laws_FnPaths : FuncId := 3
@[reducible] def laws_big : FuncId := 4
@[reducible] def spec_DrawPathOf : FuncId := 5
@[reducible] def impl_PathOf : FuncId := 6
@[reducible] def spec_PathOf : FuncId := 7
@[reducible] def spec_DrawPermOfPath : FuncId := 8
@[reducible] def impl_PermOfPath : FuncId := 9
@[reducible] def spec_PermOfPath : FuncId := 10
@[reducible] def spec_DrawPathsOf : FuncId := 11
@[reducible] def impl_PathsOf : FuncId := 12
@[reducible] def laws_sameInts : FuncId := 13
@[reducible] def laws_sameTexts : FuncId := 14
@[reducible] def spec_PathsOf : FuncId := 15
@[reducible] def impl_IsPath : FuncId := 16
@[reducible] def spec_IsPath : FuncId := 17
@[reducible] def impl_CountPeaks : FuncId := 18
@[reducible] def spec_CountPeaks : FuncId := 19
@[reducible] def impl_CountReturns : FuncId := 20
@[reducible] def spec_CountReturns : FuncId := 21
@[reducible] def impl_PathHeight : FuncId := 22
@[reducible] def spec_PathHeight : FuncId := 23
@[reducible] def spec_CatalanNumber : FuncId := 24
@[reducible] def spec_HasPattern : FuncId := 25
@[reducible] def spec_LongestUp : FuncId := 26
@[reducible] def spec_l18Avoiding : FuncId := 27
@[reducible] def spec_l1New : FuncId := 28
@[reducible] def impl_IsPerm : FuncId := 29
@[reducible] def impl_has : FuncId := 30
@[reducible] def strings_Repeat : FuncId := 31
@[reducible] def spec_IsPerm : FuncId := 32
@[reducible] def spec_l7Has : FuncId := 33
@[reducible] def spec_l18Later : FuncId := 34
@[reducible] def spec_l18Text : FuncId := 35
@[reducible] def impl_heights : FuncId := 36
@[reducible] def impl_identity : FuncId := 37
@[reducible] def slices_Delete___int_int_ : FuncId := 38
@[reducible] def spec_IdentityPerm : FuncId := 39
@[reducible] def spec_l1Below : FuncId := 40
@[reducible] def impl_isSix : FuncId := 41
@[reducible] def strings_Count : FuncId := 42
@[reducible] def slices_Sort___string_string_ : FuncId := 43
@[reducible] def spec_l1In : FuncId := 44
@[reducible] def spec_l18Fill : FuncId := 45
@[reducible] def spec_l1Bit : FuncId := 46
@[reducible] def spec_l18Heights : FuncId := 47
@[reducible] def spec_l1Max : FuncId := 48
@[reducible] def spec_Choose : FuncId := 49
@[reducible] def spec_CountPattern : FuncId := 50
@[reducible] def spec_l20Up : FuncId := 51
@[reducible] def spec_l2Bent : FuncId := 52
@[reducible] def spec_NearestRest : FuncId := 53
@[reducible] def spec_l1Once : FuncId := 54
@[reducible] def impl_isPerm : FuncId := 55
@[reducible] def slices_Clone___int_int_ : FuncId := 56
@[reducible] def math_bits_Mul : FuncId := 57
@[reducible] def strings_HasPrefix : FuncId := 58
@[reducible] def __strings_Builder__Grow : FuncId := 59
@[reducible] def __strings_Builder__WriteString : FuncId := 60
@[reducible] def __strings_Builder__Len : FuncId := 61
@[reducible] def __strings_Builder__String : FuncId := 62
@[reducible] def spec_l2Has : FuncId := 63
@[reducible] def spec_l7Find : FuncId := 64
@[reducible] def spec_l1Turned : FuncId := 65
@[reducible] def spec_l1Byte : FuncId := 66
@[reducible] def unicode_utf8_RuneCountInString : FuncId := 67
@[reducible] def internal_bytealg_CountString : FuncId := 68
@[reducible] def strings_Index : FuncId := 69
@[reducible] def slices_pdqsortOrdered_string_ : FuncId := 70
@[reducible] def math_bits_Len : FuncId := 71
@[reducible] def spec_OccurrencesOf : FuncId := 72
@[reducible] def spec_l2Any : FuncId := 73
@[reducible] def spec_LowsOf : FuncId := 74
@[reducible] def spec_l17Rest : FuncId := 75
@[reducible] def math_bits_Mul32 : FuncId := 76
@[reducible] def math_bits_Mul64 : FuncId := 77
@[reducible] def internal_stringslite_HasPrefix : FuncId := 78
@[reducible] def __strings_Builder__copyCheck : FuncId := 79
@[reducible] def __strings_Builder__grow : FuncId := 80
@[reducible] def spec_l7Fits : FuncId := 81
@[reducible] def spec_l1Pick : FuncId := 82
@[reducible] def internal_stringslite_Index : FuncId := 83
@[reducible] def slices_insertionSortOrdered_string_ : FuncId := 84
@[reducible] def slices_heapSortOrdered_string_ : FuncId := 85
@[reducible] def slices_breakPatternsOrdered_string_ : FuncId := 86
@[reducible] def slices_choosePivotOrdered_string_ : FuncId := 87
@[reducible] def slices_reverseRangeOrdered_string_ : FuncId := 88
@[reducible] def slices_partialInsertionSortOrdered_string_ : FuncId := 89
@[reducible] def cmp_Less_string_ : FuncId := 90
@[reducible] def slices_partitionEqualOrdered_string_ : FuncId := 91
@[reducible] def slices_partitionOrdered_string_ : FuncId := 92
@[reducible] def math_bits_Len32 : FuncId := 93
@[reducible] def math_bits_Len64 : FuncId := 94
@[reducible] def spec_l2Draw : FuncId := 95
@[reducible] def spec_l1PickInt : FuncId := 96
@[reducible] def spec_l15Sort : FuncId := 97
@[reducible] def internal_abi_NoEscape : FuncId := 98
@[reducible] def internal_bytealg_MakeNoZero : FuncId := 99
@[reducible] def internal_stringslite_IndexByte : FuncId := 100
@[reducible] def internal_bytealg_IndexString : FuncId := 101
@[reducible] def internal_bytealg_Cutover : FuncId := 102
@[reducible] def internal_bytealg_IndexRabinKarp_string_ : FuncId := 103
@[reducible] def slices_siftDownOrdered_string_ : FuncId := 104
@[reducible] def slices_nextPowerOfTwo : FuncId := 105
@[reducible] def __slices_xorshift__Next : FuncId := 106
@[reducible] def slices_medianAdjacentOrdered_string_ : FuncId := 107
@[reducible] def slices_medianOrdered_string_ : FuncId := 108
@[reducible] def cmp_isNaN_string_ : FuncId := 109
@[reducible] def internal_bytealg_IndexByteString : FuncId := 110
@[reducible] def internal_bytealg_hashStr_string_ : FuncId := 111
@[reducible] def slices_order2Ordered_string_ : FuncId := 112
@[reducible] def _runtime_boundsError__Error : FuncId := 113
@[reducible] def _runtime_boundsError__RuntimeError : FuncId := 114
@[reducible] def _runtime_errorString__Error : FuncId := 115
@[reducible] def _runtime_errorString__RuntimeError : FuncId := 116
@[reducible] def _runtime_plainError__Error : FuncId := 117
@[reducible] def _runtime_plainError__RuntimeError : FuncId := 118
@[reducible] def _runtime_errorAddressString__Error : FuncId := 119
@[reducible] def _runtime_errorAddressString__RuntimeError : FuncId := 120
@[reducible] def __runtime_TypeAssertionError__Error : FuncId := 121
@[reducible] def __runtime_TypeAssertionError__RuntimeError : FuncId := 122
@[reducible] def __runtime_PanicNilError__Error : FuncId := 123
@[reducible] def __runtime_PanicNilError__RuntimeError : FuncId := 124
@[reducible] def __internal_abi_Type__Align : FuncId := 125
@[reducible] def _internal_runtime_maps_unhashableTypeError__Error : FuncId := 126
@[reducible] def _internal_runtime_maps_unhashableTypeError__RuntimeError : FuncId := 127
@[reducible] def __strings_Builder__Reset : FuncId := 128
@[reducible] def _internal_abi_Kind__String : FuncId := 129
end F
@[reducible] def T___ : TypeId := 0
@[reducible] def T_func__ : TypeId := 1
@[reducible] def T_int64 : TypeId := 2
@[reducible] def T_int : TypeId := 3
@[reducible] def T_bool : TypeId := 4
@[reducible] def T_uint8 : TypeId := 5
@[reducible] def T_abi_BoundsErrorCode : TypeId := 6
@[reducible] def T_struct___x_int64__y_int__signed_bool__code_abi_BoundsErrorCode__ : TypeId := 7
@[reducible] def T_runtime_boundsError : TypeId := 8
@[reducible] def T_string : TypeId := 9
@[reducible] def T_runtime_errorString : TypeId := 10
@[reducible] def T_runtime_plainError : TypeId := 11
@[reducible] def T_uintptr : TypeId := 12
@[reducible] def T_struct___msg_string__addr_uintptr__ : TypeId := 13
@[reducible] def T_runtime_errorAddressString : TypeId := 14
@[reducible] def T_Pruntime_TypeAssertionError : TypeId := 15
@[reducible] def T_Pruntime_PanicNilError : TypeId := 16
@[reducible] def T_Pabi_Type : TypeId := 17
@[reducible] def T_struct___typ_Pabi_Type__ : TypeId := 18
@[reducible] def T_maps_unhashableTypeError : TypeId := 19
@[reducible] def T_interface___ : TypeId := 20
@[reducible] def T_int32 : TypeId := 21
@[reducible] def T_Suint8 : TypeId := 22
@[reducible] def T_func_Suint8__bool : TypeId := 23
@[reducible] def T_Sint : TypeId := 24
@[reducible] def T_func_Suint8__Sint : TypeId := 25
@[reducible] def T__string__bool_ : TypeId := 26
@[reducible] def T_func_Sint___string__bool_ : TypeId := 27
@[reducible] def T_func_Suint8__string : TypeId := 28
@[reducible] def T__Sint__bool_ : TypeId := 29
@[reducible] def T_func_string___Sint__bool_ : TypeId := 30
@[reducible] def T_func_Suint8__int : TypeId := 31
@[reducible] def T_Sstring : TypeId := 32
@[reducible] def T_func_int__Sstring : TypeId := 33
@[reducible] def T_func_Sint__Sint__bool : TypeId := 34
@[reducible] def T_func_Sstring__Sstring__bool : TypeId := 35
@[reducible] def T_func_string__bool : TypeId := 36
@[reducible] def T_func_string__int : TypeId := 37
@[reducible] def T_func_int__int : TypeId := 38
@[reducible] def T_func_Sint__int : TypeId := 39
@[reducible] def T_func_Pspec_l1Cur__Sint : TypeId := 40
@[reducible] def T_Pspec_l1Cur : TypeId := 41
@[reducible] def T_func_Suint8__Pspec_l1Cur : TypeId := 42
@[reducible] def T_func_Sint__bool : TypeId := 43
@[reducible] def T_func_Sint__Sint__Sint__bool : TypeId := 44
@[reducible] def T_func_string__int__string : TypeId := 45
@[reducible] def T_func_Sint__int__int : TypeId := 46
@[reducible] def T_func_Pspec_l1Cur__string : TypeId := 47
@[reducible] def T_func_int__Sint : TypeId := 48
@[reducible] def T_func_Sint__int__int__Sint : TypeId := 49
@[reducible] def T_func_Pspec_l1Cur__int__int : TypeId := 50
@[reducible] def T_func_int__bool : TypeId := 51
@[reducible] def T_func_string__string__int : TypeId := 52
@[reducible] def T_func_Sstring_ : TypeId := 53
@[reducible] def T_func_int__int__int__bool : TypeId := 54
@[reducible] def T_func_int__string__int__Sstring__Sstring : TypeId := 55
@[reducible] def T_func_bool__int : TypeId := 56
@[reducible] def T_func_string__Sint : TypeId := 57
@[reducible] def T_func_int__int__int : TypeId := 58
@[reducible] def T_func_Sint__Sint__int : TypeId := 59
@[reducible] def T_func_Sint___Sint__bool_ : TypeId := 60
@[reducible] def T_func_Pspec_l1Cur__int__bool : TypeId := 61
@[reducible] def T_struct___b_Suint8__i_int__h_int__ : TypeId := 62
@[reducible] def T_spec_l1Cur : TypeId := 63
@[reducible] def T_func_Sint__Sint : TypeId := 64
@[reducible] def T_uint : TypeId := 65
@[reducible] def T__uint__uint_ : TypeId := 66
@[reducible] def T_func_uint__uint___uint__uint_ : TypeId := 67
@[reducible] def T_func_string__string__bool : TypeId := 68
@[reducible] def T_Pstrings_Builder : TypeId := 69
@[reducible] def T_struct___addr_Pstrings_Builder__buf_Suint8__ : TypeId := 70
@[reducible] def T_strings_Builder : TypeId := 71
@[reducible] def T_func_int_ : TypeId := 72
@[reducible] def T_interface___Error___string__ : TypeId := 73
@[reducible] def T_error : TypeId := 74
@[reducible] def T__int__error_ : TypeId := 75
@[reducible] def T_func_string___int__error_ : TypeId := 76
@[reducible] def T_func___int : TypeId := 77
@[reducible] def T_func___string : TypeId := 78
@[reducible] def T_func_Sint__int__bool : TypeId := 79
@[reducible] def T_SSint : TypeId := 80
@[reducible] def T_func_Sint__Sint__Sint__SSint__SSint : TypeId := 81
@[reducible] def T_func_Pspec_l1Cur__string__Sstring__string : TypeId := 82
@[reducible] def T_func_Pspec_l1Cur__int : TypeId := 83
@[reducible] def T_func_string__uint8__int : TypeId := 84
@[reducible] def T_func_Sstring__int__int__int_ : TypeId := 85
@[reducible] def T_func_uint__int : TypeId := 86
@[reducible] def T_func_Sint__Sint__SSint : TypeId := 87
@[reducible] def T_Sbool : TypeId := 88
@[reducible] def T_uint32 : TypeId := 89
@[reducible] def T__uint32__uint32_ : TypeId := 90
@[reducible] def T_func_uint32__uint32___uint32__uint32_ : TypeId := 91
@[reducible] def T_uint64 : TypeId := 92
@[reducible] def T__uint64__uint64_ : TypeId := 93
@[reducible] def T_func_uint64__uint64___uint64__uint64_ : TypeId := 94
@[reducible] def T_Puint8 : TypeId := 95
@[reducible] def T_func_Pspec_l1Cur__Sstring__string : TypeId := 96
@[reducible] def T_func_Sstring__int__int_ : TypeId := 97
@[reducible] def T_slices_sortedHint : TypeId := 98
@[reducible] def T__int__slices_sortedHint_ : TypeId := 99
@[reducible] def T_func_Sstring__int__int___int__slices_sortedHint_ : TypeId := 100
@[reducible] def T_func_Sstring__int__int__bool : TypeId := 101
@[reducible] def T_func_Sstring__int__int__int__int : TypeId := 102
@[reducible] def T__int__bool_ : TypeId := 103
@[reducible] def T_func_Sstring__int__int__int___int__bool_ : TypeId := 104
@[reducible] def T_func_uint32__int : TypeId := 105
@[reducible] def T_func_uint64__int : TypeId := 106
@[reducible] def T_func_Pspec_l1Cur__int__Sint : TypeId := 107
@[reducible] def T_func_Pspec_l1Cur__Sint__int : TypeId := 108
@[reducible] def T_unsafe_Pointer : TypeId := 109
@[reducible] def T_func_unsafe_Pointer__unsafe_Pointer : TypeId := 110
@[reducible] def T_func_int__Suint8 : TypeId := 111
@[reducible] def T_slices_xorshift : TypeId := 112
@[reducible] def T_func_int__uint : TypeId := 113
@[reducible] def T_func___uint64 : TypeId := 114
@[reducible] def T_func_Sstring__int__Pint__int : TypeId := 115
@[reducible] def T_Pint : TypeId := 116
@[reducible] def T_func_Sstring__int__int__int__Pint__int : TypeId := 117
@[reducible] def T_func_string___uint32__uint32_ : TypeId := 118
@[reducible] def T_Pslices_xorshift : TypeId := 119
@[reducible] def T__int__int_ : TypeId := 120
@[reducible] def T_func_Sstring__int__int__Pint___int__int_ : TypeId := 121
@[reducible] def T_struct____interface_Pabi_Type__concrete_Pabi_Type__asserted_Pabi_Type__missingMethod_string__ : TypeId := 122
@[reducible] def T_runtime_TypeAssertionError : TypeId := 123
@[reducible] def T__0_Pruntime_PanicNilError : TypeId := 124
@[reducible] def T_struct______0_Pruntime_PanicNilError__ : TypeId := 125
@[reducible] def T_runtime_PanicNilError : TypeId := 126
@[reducible] def T_abi_TFlag : TypeId := 127
@[reducible] def T_abi_Kind : TypeId := 128
@[reducible] def T_func_unsafe_Pointer__unsafe_Pointer__bool : TypeId := 129
@[reducible] def T_abi_NameOff : TypeId := 130
@[reducible] def T_abi_TypeOff : TypeId := 131
@[reducible] def T_struct___Size__uintptr__PtrBytes_uintptr__Hash_uint32__TFlag_abi_TFlag__Align__uint8__FieldAlign__uint8__Kind__abi_Kind__Equal_func_unsafe_Pointer__unsafe_Pointer__bool__GCData_Puint8__Str_abi_NameOff__PtrToThis_abi_TypeOff__ : TypeId := 132
@[reducible] def T_abi_Type : TypeId := 133
@[reducible] noncomputable def PP : Program := Tryz.prog
@[reducible] def DD (pr : Prims) (id : Nat) (ops : Array Oper) (e : Env) (w : World) (K : Env → World → Prop) : Prop := False
@[reducible] def okD (id : Nat) (ops : Array Oper) : Bool := false
theorem noCountB : PP.funcs.toList.all (fun fn => !(fn.name == "runtime.NumGoroutine")) = true := by kernel_rfl
theorem noCount : NoCount PP := fun f fn h => by
  have := List.all_eq_true.1 noCountB fn (Array.mem_toList_iff.2 (Array.mem_of_getElem? h))
  simpa using this
theorem mixed : PP.follows .mixedOrders = true := by kernel_rfl
theorem drawOk {c : Cfg} : DrawOk PP c (DD std) okD := fun _ _ _ _ _ _ _ _ h => h.elim
end Go.Proofs.YtlcemelmnkipmaaGreat

/- What each function does, step by step, written by a program (Gen.lean); each equation is checked by the kernel. -/
namespace Go.Proofs.YtlcemelmnkipmaaGreat
open Go
set_option linter.unusedVariables false
set_option maxRecDepth 100000
namespace spec_l1New
@[reducible] def cfg : Cfg := ⟨32, [(3, [0, 3, 4])], [(1, [0, 3, 4]), (0, [0, 3])], [], [2], [], [13, 32, 63, 81], [41, 4, 46, 44, 48]⟩
def q0 (pr : Prims) (R : Ending → World → Prop) : Exit → Env → World → Prop := fun ex e w => normQ ex (fun e w => contE pr cfg (sub (codeOf Tryz.f28) [1, 1, 1]) (fun e w => wpC pr PP cfg (DD pr) (sub (codeOf Tryz.f28) [1, 1, 1]) (retQ Tryz.f28.results.toList R) e w) e w) (retQ Tryz.f28.results.toList R) e w
def q1 (pr : Prims) (R : Ending → World → Prop) : Exit → Env → World → Prop := fun ex e w => blockQ ex 0 (q0 pr R) e w
def emb3 (code_0 : Sl) (h_3 : Int) (i_4 : Int) : Env := [(0, Sl.v code_0), (3, vI h_3), (4, vI i_4)]
def x0 (code_0 : Sl) (h_3 : Int) : Env := [(0, Sl.v code_0), (3, vI h_3)]
def S3 (pr : Prims) (Q : Exit → Env → World → Prop) : (Env → World → Prop) → Env → World → Prop := fun k e w => wpC pr PP cfg (DD pr) (sub (codeOf Tryz.f28) [1, 1, 0, 1, 0, 0]) (fun ex e w => normQ ex (fun e' w' => k (Env.restr e' (lookN cfg.loops (keyOf (sub (codeOf Tryz.f28) [1, 1, 0, 1, 0, 0])))) w') Q e w) e w
def B3 (pr : Prims) (code_0 : Sl) (h_3 : Int) (i_4 : Int) (w : World) (k : Env → World → Prop) (Q : Exit → Env → World → Prop) : Prop :=
  S3 pr Q k (emb3 code_0 h_3 i_4) w
def L3 (pr : Prims) (code_0 : Sl) (h_3 : Int) (i_4 : Int) (w : World) (Q : Exit → Env → World → Prop) : Prop :=
  pr.loop (S3 pr Q) (emb3 code_0 h_3 i_4) w
def E (pr : Prims) (code_0 : Sl) (w : World) (R : Ending → World → Prop) : Prop :=
  wpC pr PP cfg (DD pr) (codeOf Tryz.f28) (retQ Tryz.f28.results.toList R) (argE 0 [Sl.v code_0]) w
theorem B3_eq (pr : Prims) (code_0 : Sl) (h_3 : Int) (i_4 : Int) (w : World) (k : Env → World → Prop) (Q : Exit → Env → World → Prop) : B3 pr code_0 h_3 i_4 w k Q = (
  bif decide (i_4 < (code_0.n : Int)) then (
  bif decide (i_4 < 4000) then (
  pr.idxK 1 code_0 i_4 fun (a2 : Addr) =>
  pr.load1 (.int .u8) a2 w fun (ξ3 : Int) =>
  k (emb3 code_0 (bAnd .i64 (w64 ((w64 ((w64 (h_3 * 131)) + (w64 (ξ3)))) + 7)) 1073741823) (w64 (i_4 + 1))) w)
  else (
  Q (.exit 0) (x0 code_0 h_3) w))
  else (
  Q (.exit 0) (x0 code_0 h_3) w)) := by kernel_rfl
theorem B3_s (code_0 : Sl) (h_3 : Int) (i_4 : Int) (w : World) (k : Env → World → Prop) (Q : Exit → Env → World → Prop) : B3 std code_0 h_3 i_4 w k Q = (
  bif decide (i_4 < (code_0.n : Int)) then (
  bif decide (i_4 < 4000) then (
  idxK 1 code_0 i_4 fun (a2 : Addr) =>
  load1 (.int .u8) a2 w fun (ξ3 : Int) =>
  k (emb3 code_0 (bAnd .i64 (w64 ((w64 ((w64 (h_3 * 131)) + (w64 (ξ3)))) + 7)) 1073741823) (w64 (i_4 + 1))) w)
  else (
  Q (.exit 0) (x0 code_0 h_3) w))
  else (
  Q (.exit 0) (x0 code_0 h_3) w)) := B3_eq std code_0 h_3 i_4 w k Q
theorem L3_rule (code_0 : Sl) (h_3 : Int) (i_4 : Int) (w : World) (Q : Exit → Env → World → Prop) (I : Int → Int → World → Prop) (μ : Int → Int → World → Nat) (h0 : I h_3 i_4 w)
    (h : ∀ (h_3 : Int) (i_4 : Int) (w' : World), I h_3 i_4 w' → B3 std code_0 h_3 i_4 w' (fun e2 w2 => ∃ h_3_n i_4_n, e2 = emb3 code_0 h_3_n i_4_n ∧ I h_3_n i_4_n w2 ∧ μ h_3_n i_4_n w2 < μ h_3 i_4 w') Q) :
    L3 std code_0 h_3 i_4 w Q := by
  unfold L3
  refine LoopE.intro (σ := Int × Int) (step := S3 std Q) (fun s => emb3 code_0 s.1 s.2) (fun s w => I s.1 s.2 w) (fun s w => μ s.1 s.2 w) (h_3, i_4) rfl h0 ?_
  intro s w' hI
  have h1 := h s.1 s.2 w' hI
  unfold B3 at h1
  simp only [Prod.exists]
  exact h1
theorem A3_0_eq (pr : Prims) (code_0 : Sl) (h_3 : Int) (w : World) (R : Ending → World → Prop) : (q1 pr R) (.exit 0) (x0 code_0 h_3) w = (
  pr.buildK PP T_spec_l1Cur [(0, Sl.v code_0), (2, vI h_3)] fun (v4 : Value) =>
  pr.newK T_spec_l1Cur (Value.cells v4) w fun (a5 : Addr) ω6 =>
  R (.returned (.pointer (some a5))) ω6) := by kernel_rfl
theorem A3_0_s (code_0 : Sl) (h_3 : Int) (w : World) (R : Ending → World → Prop) : (q1 std R) (.exit 0) (x0 code_0 h_3) w = (
  buildK PP T_spec_l1Cur [(0, Sl.v code_0), (2, vI h_3)] fun (v4 : Value) =>
  newK T_spec_l1Cur (Value.cells v4) w fun (a5 : Addr) ω6 =>
  R (.returned (.pointer (some a5))) ω6) := A3_0_eq std code_0 h_3 w R
theorem E_eq (pr : Prims) (code_0 : Sl) (w : World) (R : Ending → World → Prop) : E pr code_0 w R = (
  L3 pr code_0 (w64 (26583 + (code_0.n : Int))) 0 w (q1 pr R)) := by kernel_rfl
theorem E_s (code_0 : Sl) (w : World) (R : Ending → World → Prop) : E std code_0 w R = (
  L3 std code_0 (w64 (26583 + (code_0.n : Int))) 0 w (q1 std R)) := E_eq std code_0 w R
theorem drawsOk : drawsOk PP cfg okD (codeOf Tryz.f28) = true := by kernel_rfl
theorem calls (code_0 : Sl) {w : World} {R : Ending → World → Prop} (h : E std code_0 w R) : Calls PP F.spec_l1New #[Sl.v code_0] w R :=
  calls_of noCount mixed drawOk Tryz.func28 rfl (c := cfg) (args := [Sl.v code_0]) rfl (Nat.le_of_ble_eq_true (by kernel_rfl)) drawsOk h
end spec_l1New

namespace spec_l1Byte
@[reducible] def cfg : Cfg := ⟨58, [], [], [(6, [3])], [2], [2, 3, 4], [13, 32, 63, 81], [41, 4, 46, 44, 48]⟩
def q5 (pr : Prims) (R : Ending → World → Prop) : Exit → Env → World → Prop := fun ex e w => normQ ex (fun e w => contE pr cfg (sub (codeOf Tryz.f66) [1, 1, 1, 1]) (fun e w => wpC pr PP cfg (DD pr) (sub (codeOf Tryz.f66) [1, 1, 1, 1]) (retQ Tryz.f66.results.toList R) e w) e w) (retQ Tryz.f66.results.toList R) e w
def j6 (x_3 : Int) : Env := [(3, vI x_3)]
def J6 (pr : Prims) (x_3 : Int) (w : World) (R : Ending → World → Prop) : Prop :=
  pr.seg (fun e w => wpC pr PP cfg (DD pr) (sub (codeOf Tryz.f66) [1, 1, 1, 1]) (retQ Tryz.f66.results.toList R) e w) (j6 x_3) w
def E (pr : Prims) (c_0 : Addr) (w : World) (R : Ending → World → Prop) : Prop :=
  wpC pr PP cfg (DD pr) (codeOf Tryz.f66) (retQ Tryz.f66.results.toList R) (argE 0 [.pointer (some c_0)]) w
theorem J6_gen (pr : Prims) (x_3 : Int) (w : World) (R : Ending → World → Prop) : wpC pr PP cfg (DD pr) (sub (codeOf Tryz.f66) [1, 1, 1, 1]) (retQ Tryz.f66.results.toList R) (j6 x_3) w = (
  R (.returned (vI x_3)) w) := by kernel_rfl
theorem J6_s (x_3 : Int) (w : World) (R : Ending → World → Prop) : J6 std x_3 w R = (
  R (.returned (vI x_3)) w) := J6_gen std x_3 w R
theorem E_eq (pr : Prims) (c_0 : Addr) (w : World) (R : Ending → World → Prop) : E pr c_0 w R = (
  pr.load1 (.int .i64) (c_0.add 2) w fun (ξ0 : Int) =>
  pr.storeC (c_0.add 2) (vI (w64 ((w64 (ξ0 * 6364136223846793005)) + 1442695040888963407))) w fun ω1 =>
  pr.load1 (.int .i64) (c_0.add 2) ω1 fun (ξ2 : Int) =>
  (0 : Int) ≤ 33 ∧
  pr.load1 (.int .i64) (c_0.add 2) ω1 fun (ξ3 : Int) =>
  (0 : Int) ≤ 45 ∧
  pr.drewAll ω1 fun ω4 =>
  pr.load1 (.int .i64) (c_0.add 1) ω4 fun (ξ6 : Int) =>
  pr.load1 .sl (c_0.add 0) ω4 fun (ξ7 : Sl) =>
  pr.drewAll ω4 fun ω8 =>
  bif decide (ξ6 < (ξ7.n : Int)) then (
  pr.load1 .sl (c_0.add 0) ω8 fun (ξ9 : Sl) =>
  pr.load1 (.int .i64) (c_0.add 1) ω8 fun (ξ10 : Int) =>
  pr.idxK 1 ξ9 ξ10 fun (a11 : Addr) =>
  pr.load1 (.int .u8) a11 ω8 fun (ξ12 : Int) =>
  pr.drewAll ω8 fun ω13 =>
  pr.load1 (.int .i64) (c_0.add 1) ω13 fun (ξ14 : Int) =>
  pr.storeC (c_0.add 1) (vI (w64 (ξ14 + 1))) ω13 fun ω15 =>
  J6 pr (bAnd .i64 (w64 ((bAnd .i64 (bXor .i64 (sShr .i64 ξ2 33) (sShr .i64 ξ3 45)) 255) + (w64 (ξ12)))) 255) ω15 R)
  else (
  J6 pr (bAnd .i64 (bXor .i64 (sShr .i64 ξ2 33) (sShr .i64 ξ3 45)) 255) ω8 R)) := by kernel_rfl
theorem E_s (c_0 : Addr) (w : World) (R : Ending → World → Prop) : E std c_0 w R = (
  load1 (.int .i64) (c_0.add 2) w fun (ξ0 : Int) =>
  storeC (c_0.add 2) (vI (w64 ((w64 (ξ0 * 6364136223846793005)) + 1442695040888963407))) w fun ω1 =>
  load1 (.int .i64) (c_0.add 2) ω1 fun (ξ2 : Int) =>
  (0 : Int) ≤ 33 ∧
  load1 (.int .i64) (c_0.add 2) ω1 fun (ξ3 : Int) =>
  (0 : Int) ≤ 45 ∧
  drewAll ω1 fun ω4 =>
  load1 (.int .i64) (c_0.add 1) ω4 fun (ξ6 : Int) =>
  load1 .sl (c_0.add 0) ω4 fun (ξ7 : Sl) =>
  drewAll ω4 fun ω8 =>
  bif decide (ξ6 < (ξ7.n : Int)) then (
  load1 .sl (c_0.add 0) ω8 fun (ξ9 : Sl) =>
  load1 (.int .i64) (c_0.add 1) ω8 fun (ξ10 : Int) =>
  idxK 1 ξ9 ξ10 fun (a11 : Addr) =>
  load1 (.int .u8) a11 ω8 fun (ξ12 : Int) =>
  drewAll ω8 fun ω13 =>
  load1 (.int .i64) (c_0.add 1) ω13 fun (ξ14 : Int) =>
  storeC (c_0.add 1) (vI (w64 (ξ14 + 1))) ω13 fun ω15 =>
  J6 std (bAnd .i64 (w64 ((bAnd .i64 (bXor .i64 (sShr .i64 ξ2 33) (sShr .i64 ξ3 45)) 255) + (w64 (ξ12)))) 255) ω15 R)
  else (
  J6 std (bAnd .i64 (bXor .i64 (sShr .i64 ξ2 33) (sShr .i64 ξ3 45)) 255) ω8 R)) := E_eq std c_0 w R
theorem drawsOk : drawsOk PP cfg okD (codeOf Tryz.f66) = true := by kernel_rfl
theorem calls (c_0 : Addr) {w : World} {R : Ending → World → Prop} (h : E std c_0 w R) : Calls PP F.spec_l1Byte #[.pointer (some c_0)] w R :=
  calls_of noCount mixed drawOk Tryz.func66 rfl (c := cfg) (args := [.pointer (some c_0)]) rfl (Nat.le_of_ble_eq_true (by kernel_rfl)) drawsOk h
end spec_l1Byte

namespace spec_l1Below
@[reducible] def cfg : Cfg := ⟨37, [], [], [], [4], [], [13, 32, 63, 81], [41, 4, 46, 44, 48]⟩
def E (pr : Prims) (c_0 : Addr) (n_1 : Int) (w : World) (R : Ending → World → Prop) : Prop :=
  wpC pr PP cfg (DD pr) (codeOf Tryz.f40) (retQ Tryz.f40.results.toList R) (argE 0 [.pointer (some c_0), vI n_1]) w
theorem E_eq (pr : Prims) (c_0 : Addr) (n_1 : Int) (w : World) (R : Ending → World → Prop) : E pr c_0 n_1 w R = (
  bif decide (n_1 ≤ 0) then (
  R (.returned (vI 0)) w)
  else (
  bif decide (n_1 ≤ 256) then (
  pr.call1 (.int .i64) PP F.spec_l1Byte #[.pointer (some c_0)] w fun (ρ0 : Int) ω1 =>
  n_1 ≠ (0 : Int) ∧
  R (.returned (vI (ρ0.tmod n_1))) ω1)
  else (
  pr.call1 (.int .i64) PP F.spec_l1Byte #[.pointer (some c_0)] w fun (ρ2 : Int) ω3 =>
  pr.call1 (.int .i64) PP F.spec_l1Byte #[.pointer (some c_0)] ω3 fun (ρ4 : Int) ω5 =>
  pr.call1 (.int .i64) PP F.spec_l1Byte #[.pointer (some c_0)] ω5 fun (ρ6 : Int) ω7 =>
  pr.call1 (.int .i64) PP F.spec_l1Byte #[.pointer (some c_0)] ω7 fun (ρ8 : Int) ω9 =>
  n_1 ≠ (0 : Int) ∧
  R (.returned (vI ((w64 ((w64 ((w64 ((w64 (ρ2 * 16777216)) + (w64 (ρ4 * 65536)))) + (w64 (ρ6 * 256)))) + ρ8)).tmod n_1))) ω9))) := by kernel_rfl
theorem E_s (c_0 : Addr) (n_1 : Int) (w : World) (R : Ending → World → Prop) : E std c_0 n_1 w R = (
  bif decide (n_1 ≤ 0) then (
  R (.returned (vI 0)) w)
  else (
  bif decide (n_1 ≤ 256) then (
  call1 (.int .i64) PP F.spec_l1Byte #[.pointer (some c_0)] w fun (ρ0 : Int) ω1 =>
  n_1 ≠ (0 : Int) ∧
  R (.returned (vI (ρ0.tmod n_1))) ω1)
  else (
  call1 (.int .i64) PP F.spec_l1Byte #[.pointer (some c_0)] w fun (ρ2 : Int) ω3 =>
  call1 (.int .i64) PP F.spec_l1Byte #[.pointer (some c_0)] ω3 fun (ρ4 : Int) ω5 =>
  call1 (.int .i64) PP F.spec_l1Byte #[.pointer (some c_0)] ω5 fun (ρ6 : Int) ω7 =>
  call1 (.int .i64) PP F.spec_l1Byte #[.pointer (some c_0)] ω7 fun (ρ8 : Int) ω9 =>
  n_1 ≠ (0 : Int) ∧
  R (.returned (vI ((w64 ((w64 ((w64 ((w64 (ρ2 * 16777216)) + (w64 (ρ4 * 65536)))) + (w64 (ρ6 * 256)))) + ρ8)).tmod n_1))) ω9))) := E_eq std c_0 n_1 w R
theorem drawsOk : drawsOk PP cfg okD (codeOf Tryz.f40) = true := by kernel_rfl
theorem calls (c_0 : Addr) (n_1 : Int) {w : World} {R : Ending → World → Prop} (h : E std c_0 n_1 w R) : Calls PP F.spec_l1Below #[.pointer (some c_0), vI n_1] w R :=
  calls_of noCount mixed drawOk Tryz.func40 rfl (c := cfg) (args := [.pointer (some c_0), vI n_1]) rfl (Nat.le_of_ble_eq_true (by kernel_rfl)) drawsOk h
end spec_l1Below

namespace spec_l1Once
@[reducible] def cfg : Cfg := ⟨9, [], [], [], [4], [], [13, 32, 63, 81], [41, 4, 46, 44, 48]⟩
def E (pr : Prims) (c_0 : Addr) (n_1 : Int) (w : World) (R : Ending → World → Prop) : Prop :=
  wpC pr PP cfg (DD pr) (codeOf Tryz.f54) (retQ Tryz.f54.results.toList R) (argE 0 [.pointer (some c_0), vI n_1]) w
theorem E_eq (pr : Prims) (c_0 : Addr) (n_1 : Int) (w : World) (R : Ending → World → Prop) : E pr c_0 n_1 w R = (
  pr.call1 (.int .i64) PP F.spec_l1Below #[.pointer (some c_0), vI n_1] w fun (ρ0 : Int) ω1 =>
  R (.returned (.bool (ρ0 == 0))) ω1) := by kernel_rfl
theorem E_s (c_0 : Addr) (n_1 : Int) (w : World) (R : Ending → World → Prop) : E std c_0 n_1 w R = (
  call1 (.int .i64) PP F.spec_l1Below #[.pointer (some c_0), vI n_1] w fun (ρ0 : Int) ω1 =>
  R (.returned (.bool (ρ0 == 0))) ω1) := E_eq std c_0 n_1 w R
theorem drawsOk : drawsOk PP cfg okD (codeOf Tryz.f54) = true := by kernel_rfl
theorem calls (c_0 : Addr) (n_1 : Int) {w : World} {R : Ending → World → Prop} (h : E std c_0 n_1 w R) : Calls PP F.spec_l1Once #[.pointer (some c_0), vI n_1] w R :=
  calls_of noCount mixed drawOk Tryz.func54 rfl (c := cfg) (args := [.pointer (some c_0), vI n_1]) rfl (Nat.le_of_ble_eq_true (by kernel_rfl)) drawsOk h
end spec_l1Once

namespace spec_l1PickInt
@[reducible] def cfg : Cfg := ⟨12, [], [], [], [4], [], [13, 32, 63, 81], [41, 4, 46, 44, 48]⟩
def E (pr : Prims) (c_0 : Addr) (list_1 : Sl) (w : World) (R : Ending → World → Prop) : Prop :=
  wpC pr PP cfg (DD pr) (codeOf Tryz.f96) (retQ Tryz.f96.results.toList R) (argE 0 [.pointer (some c_0), Sl.v list_1]) w
theorem E_eq (pr : Prims) (c_0 : Addr) (list_1 : Sl) (w : World) (R : Ending → World → Prop) : E pr c_0 list_1 w R = (
  pr.call1 (.int .i64) PP F.spec_l1Below #[.pointer (some c_0), vI (list_1.n : Int)] w fun (ρ0 : Int) ω1 =>
  pr.idxK 1 list_1 ρ0 fun (a2 : Addr) =>
  pr.load1 (.int .i64) a2 ω1 fun (ξ3 : Int) =>
  R (.returned (vI ξ3)) ω1) := by kernel_rfl
theorem E_s (c_0 : Addr) (list_1 : Sl) (w : World) (R : Ending → World → Prop) : E std c_0 list_1 w R = (
  call1 (.int .i64) PP F.spec_l1Below #[.pointer (some c_0), vI (list_1.n : Int)] w fun (ρ0 : Int) ω1 =>
  idxK 1 list_1 ρ0 fun (a2 : Addr) =>
  load1 (.int .i64) a2 ω1 fun (ξ3 : Int) =>
  R (.returned (vI ξ3)) ω1) := E_eq std c_0 list_1 w R
theorem drawsOk : drawsOk PP cfg okD (codeOf Tryz.f96) = true := by kernel_rfl
theorem calls (c_0 : Addr) (list_1 : Sl) {w : World} {R : Ending → World → Prop} (h : E std c_0 list_1 w R) : Calls PP F.spec_l1PickInt #[.pointer (some c_0), Sl.v list_1] w R :=
  calls_of noCount mixed drawOk Tryz.func96 rfl (c := cfg) (args := [.pointer (some c_0), Sl.v list_1]) rfl (Nat.le_of_ble_eq_true (by kernel_rfl)) drawsOk h
end spec_l1PickInt

namespace spec_l2Draw
@[reducible] def cfg : Cfg := ⟨34, [(3, [0, 1, 5, 6])], [(1, [0, 1, 5, 6]), (0, [5])], [], [4], [], [13, 32, 63, 81], [41, 4, 46, 44, 48]⟩
def q2 (pr : Prims) (R : Ending → World → Prop) : Exit → Env → World → Prop := fun ex e w => normQ ex (fun e w => contE pr cfg (sub (codeOf Tryz.f95) [1, 1, 1]) (fun e w => wpC pr PP cfg (DD pr) (sub (codeOf Tryz.f95) [1, 1, 1]) (retQ Tryz.f95.results.toList R) e w) e w) (retQ Tryz.f95.results.toList R) e w
def q3 (pr : Prims) (R : Ending → World → Prop) : Exit → Env → World → Prop := fun ex e w => blockQ ex 0 (q2 pr R) e w
def emb3 (c_0 : Addr) (n_1 : Int) (out_5 : Sl) (k_6 : Int) : Env := [(0, .pointer (some c_0)), (1, vI n_1), (5, Sl.v out_5), (6, vI k_6)]
def x0 (out_5 : Sl) : Env := [(5, Sl.v out_5)]
def S3 (pr : Prims) (Q : Exit → Env → World → Prop) : (Env → World → Prop) → Env → World → Prop := fun k e w => wpC pr PP cfg (DD pr) (sub (codeOf Tryz.f95) [1, 1, 0, 1, 0, 0]) (fun ex e w => normQ ex (fun e' w' => k (Env.restr e' (lookN cfg.loops (keyOf (sub (codeOf Tryz.f95) [1, 1, 0, 1, 0, 0])))) w') Q e w) e w
def B3 (pr : Prims) (c_0 : Addr) (n_1 : Int) (out_5 : Sl) (k_6 : Int) (w : World) (k : Env → World → Prop) (Q : Exit → Env → World → Prop) : Prop :=
  S3 pr Q k (emb3 c_0 n_1 out_5 k_6) w
def L3 (pr : Prims) (c_0 : Addr) (n_1 : Int) (out_5 : Sl) (k_6 : Int) (w : World) (Q : Exit → Env → World → Prop) : Prop :=
  pr.loop (S3 pr Q) (emb3 c_0 n_1 out_5 k_6) w
def E (pr : Prims) (c_0 : Addr) (n_1 : Int) (w : World) (R : Ending → World → Prop) : Prop :=
  wpC pr PP cfg (DD pr) (codeOf Tryz.f95) (retQ Tryz.f95.results.toList R) (argE 0 [.pointer (some c_0), vI n_1]) w
theorem B3_eq (pr : Prims) (c_0 : Addr) (n_1 : Int) (out_5 : Sl) (k_6 : Int) (w : World) (k : Env → World → Prop) (Q : Exit → Env → World → Prop) : B3 pr c_0 n_1 out_5 k_6 w k Q = (
  bif decide (k_6 ≤ n_1) then (
  pr.call1 (.int .i64) PP F.spec_l1Below #[.pointer (some c_0), vI (w64 ((out_5.n : Int) + 1))] w fun (ρ4 : Int) ω5 =>
  pr.sem1 .sl PP (Instr.buildSlice T_Sint 0 #[]) ω5 fun (ρ6 : Sl) ω7 =>
  pr.cutK 1 out_5 (some ρ4) none fun (s8 : Sl) =>
  pr.sem1 .sl PP (Builtin.append_ #[T_Sint, T_Sint] T_Sint #[Sl.v ρ6, Sl.v s8]) ω7 fun (ρ9 : Sl) ω10 =>
  pr.cutK 1 out_5 none (some ρ4) fun (s11 : Sl) =>
  pr.sem1 .sl PP (Instr.buildSlice T_Sint 1 #[(0, vI k_6)]) ω10 fun (ρ12 : Sl) ω13 =>
  pr.sem1 .sl PP (Builtin.append_ #[T_Sint, T_Sint] T_Sint #[Sl.v s11, Sl.v ρ12]) ω13 fun (ρ14 : Sl) ω15 =>
  pr.sem1 .sl PP (Builtin.append_ #[T_Sint, T_Sint] T_Sint #[Sl.v ρ14, Sl.v ρ9]) ω15 fun (ρ16 : Sl) ω17 =>
  k (emb3 c_0 n_1 ρ16 (w64 (k_6 + 1))) ω17)
  else (
  Q (.exit 0) (x0 out_5) w)) := by kernel_rfl
theorem B3_s (c_0 : Addr) (n_1 : Int) (out_5 : Sl) (k_6 : Int) (w : World) (k : Env → World → Prop) (Q : Exit → Env → World → Prop) : B3 std c_0 n_1 out_5 k_6 w k Q = (
  bif decide (k_6 ≤ n_1) then (
  call1 (.int .i64) PP F.spec_l1Below #[.pointer (some c_0), vI (w64 ((out_5.n : Int) + 1))] w fun (ρ4 : Int) ω5 =>
  sem1 .sl PP (Instr.buildSlice T_Sint 0 #[]) ω5 fun (ρ6 : Sl) ω7 =>
  cutK 1 out_5 (some ρ4) none fun (s8 : Sl) =>
  sem1 .sl PP (Builtin.append_ #[T_Sint, T_Sint] T_Sint #[Sl.v ρ6, Sl.v s8]) ω7 fun (ρ9 : Sl) ω10 =>
  cutK 1 out_5 none (some ρ4) fun (s11 : Sl) =>
  sem1 .sl PP (Instr.buildSlice T_Sint 1 #[(0, vI k_6)]) ω10 fun (ρ12 : Sl) ω13 =>
  sem1 .sl PP (Builtin.append_ #[T_Sint, T_Sint] T_Sint #[Sl.v s11, Sl.v ρ12]) ω13 fun (ρ14 : Sl) ω15 =>
  sem1 .sl PP (Builtin.append_ #[T_Sint, T_Sint] T_Sint #[Sl.v ρ14, Sl.v ρ9]) ω15 fun (ρ16 : Sl) ω17 =>
  k (emb3 c_0 n_1 ρ16 (w64 (k_6 + 1))) ω17)
  else (
  Q (.exit 0) (x0 out_5) w)) := B3_eq std c_0 n_1 out_5 k_6 w k Q
theorem L3_rule (c_0 : Addr) (n_1 : Int) (out_5 : Sl) (k_6 : Int) (w : World) (Q : Exit → Env → World → Prop) (I : Sl → Int → World → Prop) (μ : Sl → Int → World → Nat) (h0 : I out_5 k_6 w)
    (h : ∀ (out_5 : Sl) (k_6 : Int) (w' : World), I out_5 k_6 w' → B3 std c_0 n_1 out_5 k_6 w' (fun e2 w2 => ∃ out_5_n k_6_n, e2 = emb3 c_0 n_1 out_5_n k_6_n ∧ I out_5_n k_6_n w2 ∧ μ out_5_n k_6_n w2 < μ out_5 k_6 w') Q) :
    L3 std c_0 n_1 out_5 k_6 w Q := by
  unfold L3
  refine LoopE.intro (σ := Sl × Int) (step := S3 std Q) (fun s => emb3 c_0 n_1 s.1 s.2) (fun s w => I s.1 s.2 w) (fun s w => μ s.1 s.2 w) (out_5, k_6) rfl h0 ?_
  intro s w' hI
  have h1 := h s.1 s.2 w' hI
  unfold B3 at h1
  simp only [Prod.exists]
  exact h1
theorem A3_0_eq (pr : Prims) (out_5 : Sl) (w : World) (R : Ending → World → Prop) : (q3 pr R) (.exit 0) (x0 out_5) w = (
  R (.returned (Sl.v out_5)) w) := by kernel_rfl
theorem A3_0_s (out_5 : Sl) (w : World) (R : Ending → World → Prop) : (q3 std R) (.exit 0) (x0 out_5) w = (
  R (.returned (Sl.v out_5)) w) := A3_0_eq std out_5 w R
theorem E_eq (pr : Prims) (c_0 : Addr) (n_1 : Int) (w : World) (R : Ending → World → Prop) : E pr c_0 n_1 w R = (
  pr.sem1 .sl PP (Instr.buildSlice T_Sint 0 #[]) w fun (ρ0 : Sl) ω1 =>
  L3 pr c_0 n_1 ρ0 1 ω1 (q3 pr R)) := by kernel_rfl
theorem E_s (c_0 : Addr) (n_1 : Int) (w : World) (R : Ending → World → Prop) : E std c_0 n_1 w R = (
  sem1 .sl PP (Instr.buildSlice T_Sint 0 #[]) w fun (ρ0 : Sl) ω1 =>
  L3 std c_0 n_1 ρ0 1 ω1 (q3 std R)) := E_eq std c_0 n_1 w R
theorem drawsOk : drawsOk PP cfg okD (codeOf Tryz.f95) = true := by kernel_rfl
theorem calls (c_0 : Addr) (n_1 : Int) {w : World} {R : Ending → World → Prop} (h : E std c_0 n_1 w R) : Calls PP F.spec_l2Draw #[.pointer (some c_0), vI n_1] w R :=
  calls_of noCount mixed drawOk Tryz.func95 rfl (c := cfg) (args := [.pointer (some c_0), vI n_1]) rfl (Nat.le_of_ble_eq_true (by kernel_rfl)) drawsOk h
end spec_l2Draw

namespace spec_l2Any
@[reducible] def cfg : Cfg := ⟨8, [], [], [], [2], [], [13, 32, 63, 81], [41, 4, 46, 44, 48]⟩
def E (pr : Prims) (c_0 : Addr) (w : World) (R : Ending → World → Prop) : Prop :=
  wpC pr PP cfg (DD pr) (codeOf Tryz.f73) (retQ Tryz.f73.results.toList R) (argE 0 [.pointer (some c_0)]) w
theorem E_eq (pr : Prims) (c_0 : Addr) (w : World) (R : Ending → World → Prop) : E pr c_0 w R = (
  pr.sem1 .sl PP (Instr.buildSlice T_Sint 11 #[(0, vI 0), (1, vI 1), (2, vI 2), (3, vI 3), (4, vI 4), (5, vI 5), (6, vI 5), (7, vI 6), (8, vI 6), (9, vI 7), (10, vI 8)]) w fun (ρ0 : Sl) ω1 =>
  pr.call1 (.int .i64) PP F.spec_l1PickInt #[.pointer (some c_0), Sl.v ρ0] ω1 fun (ρ2 : Int) ω3 =>
  pr.call1 .sl PP F.spec_l2Draw #[.pointer (some c_0), vI ρ2] ω3 fun (ρ4 : Sl) ω5 =>
  R (.returned (Sl.v ρ4)) ω5) := by kernel_rfl
theorem E_s (c_0 : Addr) (w : World) (R : Ending → World → Prop) : E std c_0 w R = (
  sem1 .sl PP (Instr.buildSlice T_Sint 11 #[(0, vI 0), (1, vI 1), (2, vI 2), (3, vI 3), (4, vI 4), (5, vI 5), (6, vI 5), (7, vI 6), (8, vI 6), (9, vI 7), (10, vI 8)]) w fun (ρ0 : Sl) ω1 =>
  call1 (.int .i64) PP F.spec_l1PickInt #[.pointer (some c_0), Sl.v ρ0] ω1 fun (ρ2 : Int) ω3 =>
  call1 .sl PP F.spec_l2Draw #[.pointer (some c_0), vI ρ2] ω3 fun (ρ4 : Sl) ω5 =>
  R (.returned (Sl.v ρ4)) ω5) := E_eq std c_0 w R
theorem drawsOk : drawsOk PP cfg okD (codeOf Tryz.f73) = true := by kernel_rfl
theorem calls (c_0 : Addr) {w : World} {R : Ending → World → Prop} (h : E std c_0 w R) : Calls PP F.spec_l2Any #[.pointer (some c_0)] w R :=
  calls_of noCount mixed drawOk Tryz.func73 rfl (c := cfg) (args := [.pointer (some c_0)]) rfl (Nat.le_of_ble_eq_true (by kernel_rfl)) drawsOk h
end spec_l2Any

namespace spec_l2Bent
@[reducible] def cfg : Cfg := ⟨27, [], [(0, [3])], [], [2], [], [13, 32, 63, 81], [41, 4, 46, 44, 48]⟩
def E (pr : Prims) (c_0 : Addr) (w : World) (R : Ending → World → Prop) : Prop :=
  wpC pr PP cfg (DD pr) (codeOf Tryz.f52) (retQ Tryz.f52.results.toList R) (argE 0 [.pointer (some c_0)]) w
theorem E_eq (pr : Prims) (c_0 : Addr) (w : World) (R : Ending → World → Prop) : E pr c_0 w R = (
  pr.call1 .sl PP F.spec_l2Any #[.pointer (some c_0)] w fun (ρ0 : Sl) ω1 =>
  pr.call1 (.int .i64) PP F.spec_l1Below #[.pointer (some c_0), vI 14] ω1 fun (ρ2 : Int) ω3 =>
  bif ρ2 == 0 then (
  pr.call1 (.int .i64) PP F.spec_l1Below #[.pointer (some c_0), vI 12] ω3 fun (ρ4 : Int) ω5 =>
  pr.sem1 .sl PP (Instr.buildSlice T_Sint 1 #[(0, vI (w64 (ρ4 - 1)))]) ω5 fun (ρ6 : Sl) ω7 =>
  pr.sem1 .sl PP (Builtin.append_ #[T_Sint, T_Sint] T_Sint #[Sl.v ρ0, Sl.v ρ6]) ω7 fun (ρ8 : Sl) ω9 =>
  R (.returned (Sl.v ρ8)) ω9)
  else (
  bif ρ2 == 1 then (
  bif decide ((ρ0.n : Int) > 0) then (
  pr.call1 (.int .i64) PP F.spec_l1Below #[.pointer (some c_0), vI 11] ω3 fun (ρ10 : Int) ω11 =>
  pr.idxK 1 ρ0 0 fun (a12 : Addr) =>
  pr.storeC a12 (vI (w64 (ρ10 - 1))) ω11 fun ω13 =>
  R (.returned (Sl.v ρ0)) ω13)
  else (
  R (.returned (Sl.v ρ0)) ω3))
  else (
  R (.returned (Sl.v ρ0)) ω3))) := by kernel_rfl
theorem E_s (c_0 : Addr) (w : World) (R : Ending → World → Prop) : E std c_0 w R = (
  call1 .sl PP F.spec_l2Any #[.pointer (some c_0)] w fun (ρ0 : Sl) ω1 =>
  call1 (.int .i64) PP F.spec_l1Below #[.pointer (some c_0), vI 14] ω1 fun (ρ2 : Int) ω3 =>
  bif ρ2 == 0 then (
  call1 (.int .i64) PP F.spec_l1Below #[.pointer (some c_0), vI 12] ω3 fun (ρ4 : Int) ω5 =>
  sem1 .sl PP (Instr.buildSlice T_Sint 1 #[(0, vI (w64 (ρ4 - 1)))]) ω5 fun (ρ6 : Sl) ω7 =>
  sem1 .sl PP (Builtin.append_ #[T_Sint, T_Sint] T_Sint #[Sl.v ρ0, Sl.v ρ6]) ω7 fun (ρ8 : Sl) ω9 =>
  R (.returned (Sl.v ρ8)) ω9)
  else (
  bif ρ2 == 1 then (
  bif decide ((ρ0.n : Int) > 0) then (
  call1 (.int .i64) PP F.spec_l1Below #[.pointer (some c_0), vI 11] ω3 fun (ρ10 : Int) ω11 =>
  idxK 1 ρ0 0 fun (a12 : Addr) =>
  storeC a12 (vI (w64 (ρ10 - 1))) ω11 fun ω13 =>
  R (.returned (Sl.v ρ0)) ω13)
  else (
  R (.returned (Sl.v ρ0)) ω3))
  else (
  R (.returned (Sl.v ρ0)) ω3))) := E_eq std c_0 w R
theorem drawsOk : drawsOk PP cfg okD (codeOf Tryz.f52) = true := by kernel_rfl
theorem calls (c_0 : Addr) {w : World} {R : Ending → World → Prop} (h : E std c_0 w R) : Calls PP F.spec_l2Bent #[.pointer (some c_0)] w R :=
  calls_of noCount mixed drawOk Tryz.func52 rfl (c := cfg) (args := [.pointer (some c_0)]) rfl (Nat.le_of_ble_eq_true (by kernel_rfl)) drawsOk h
end spec_l2Bent

end Go.Proofs.YtlcemelmnkipmaaGreat

/- Words that the walks share: calls that only reckon, tests, sums of ints. -/
namespace Go.Proofs.YtlcemelmnkipmaaGreat
open Go

theorem w64_id {n : Int} (h : -(2^63 : Int) ≤ n) (h2 : n < 2^63) : w64 n = n := by
  unfold w64; simp [IntKind.wrap, IntKind.signed, IntKind.bits]; omega
theorem w64_succ {n : Int} (h : 0 ≤ n) (h2 : n < 2^62) : w64 (n + 1) = n + 1 := w64_id (by omega) (by omega)

/-- A function that only reckons: in every world it answers 'v' and leaves the world alone. -/
def Pure (f : FuncId) (args : Array Value) (v : Value) : Prop := ∀ w, Calls PP f args w fun e w' => e = .returned v ∧ w' = w
theorem Pure.call1 {s : Sh} {f args} {r : s.T} (h : Pure f args (s.enc r)) {w : World} {K : s.T → World → Prop} (hk : K r w) : call1 s PP f args w K := by
  exact (h w).mono fun e w' ⟨he, hw⟩ => ⟨r, he, hw ▸ hk⟩
theorem Pure.pcall1 {s : Sh} {f args} {r : s.T} (h : Pure f args (s.enc r)) {K : s.T → Prop} (hk : K r) : pcall1 s PP f args K := ⟨r, h, hk⟩
theorem Pure.qcall1 {s : Sh} {f args} {r : s.T} (h : Pure f args (s.enc r)) {w : World} {K : s.T → Prop} (hk : K r) : qcall1 s PP f args w K :=
  ⟨r, fun w' _ => (h w').mono fun e w'' ⟨he, hw⟩ => ⟨he, 0, by rw [hw]; rfl⟩, hk⟩
theorem bif_intro {c : Bool} {p q : Prop} (h1 : c = true → p) (h2 : c = false → q) : (bif c then p else q) := by cases c <;> simp_all
theorem bif_dec {c : Prop} [Decidable c] {p q : Prop} (h1 : c → p) (h2 : ¬ c → q) : (bif decide c then p else q) := by by_cases h : c <;> simp_all
theorem bif_t {c : Bool} {p q : Prop} (h : c = true) (h1 : p) : (bif c then p else q) := by subst h; exact h1
theorem bif_f {c : Bool} {p q : Prop} (h : c = false) (h1 : q) : (bif c then p else q) := by subst h; exact h1
end Go.Proofs.YtlcemelmnkipmaaGreat

/- Rows in memory: what a slice reads, what a call owns, and what append, literals, make, loads and stores do to both. -/
namespace Go.Proofs.YtlcemelmnkipmaaGreat
open Go Go.RowKit

/-- A slice type whose elements are one cell. -/
def OneT (t e : TypeId) (z : Value) : Prop := ∃ i, PP.underlying t = some (.slice e) ∧ PP.info? e = some i ∧ i.zero = some z ∧ i.size = 1 ∧ i.bytes ≤ 24 ∧ z.cells = #[z]
theorem oneT_of {t e : TypeId} {z : Value} (hu : PP.underlying t = some (.slice e)) (h : (PP.info? e).map (fun i => (i.zero, i.size, Nat.ble i.bytes 24)) = some (some z, 1, true)) (hz : z.cells = #[z]) : OneT t e z := by
  cases hi : PP.info? e with
  | none => rw [hi] at h; cases h
  | some i =>
    rw [hi] at h
    simp only [Option.map_some, Option.some.injEq, Prod.mk.injEq] at h
    exact ⟨i, hu, hi, h.1, h.2.1, Nat.le_of_ble_eq_true h.2.2, hz⟩
/-- A text's byte. -/
def bt (s : ByteArray) (k : Nat) : Int := match s[k]? with
  | some b => (b.toNat : Int)
  | none => 0
theorem strIdx_intro {s : ByteArray} {i : Int} (h0 : 0 ≤ i) (h : i < (s.size : Int)) {K : Int → Prop} (hk : K (bt s i.toNat)) : strIdxK s i K := by
  have hlt : i.toNat < s.size := by omega
  refine ⟨s[i.toNat], h0, getElem?_pos s i.toNat hlt, ?_⟩
  unfold bt at hk
  rw [getElem?_pos s i.toNat hlt] at hk
  exact hk
/-- A value of one cell. -/
def One (v : Value) : Prop := v.cells = #[v] ∧ v.oneCell' = true
theorem One.int (n : Int) : One (vI n) := ⟨rfl, rfl⟩
theorem One.str (s : ByteArray) : One (.string s) := ⟨rfl, rfl⟩
theorem One.sl (s : Sl) : One s.v := ⟨rfl, rfl⟩
theorem One.bool (b : Bool) : One (.bool b) := ⟨rfl, rfl⟩

theorem add_lit (g off j : Nat) : (⟨g, off, none⟩ : Addr).add j = ⟨g, off + j, none⟩ := by unfold Addr.add; split <;> simp_all
theorem add_zero' (a : Addr) : a.add 0 = a := by simp [Addr.add]
theorem add_block (a : Addr) (j : Nat) : (a.add j).block = a.block := by unfold Addr.add; split <;> rfl

/-- What a slice reads. -/
structure Row (w : World) (s : Sl) (vs : List Value) : Prop where
  n : s.n = vs.length
  nc : s.n ≤ s.c
  cell : ∀ i v, vs[i]? = some v → ∃ a, s.a = some a ∧ w.cell? (a.add i) = some v

/-- The block of a slice that may be written. -/
def Sl.blk (s : Sl) : Option Nat := if s.c = 0 then none else s.a.map (·.block)

/-- A slice of the call's own: its block, from B on, is of the element type 'e', no one else's, unfrozen; it begins at the block's begin and its capacity is all of it. -/
structure Own (w : World) (B : Nat) (e : TypeId) (s : Sl) (vs : List Value) : Prop where
  n : s.n = vs.length
  nc : s.n ≤ s.c
  cm : s.c ≤ maxLen
  at_ : s.c = 0 ∨ ∃ g cur, s.a = some ⟨g, 0, none⟩ ∧ B ≤ g ∧ w.heap[g]? = some (.cells cur e (0, 0)) ∧ cur.size = s.c ∧ cur.toList.take s.n = vs

theorem Own.nil (w : World) (B : Nat) (e : TypeId) : Own w B e Sl.nil [] := ⟨rfl, Nat.le_refl _, by simp [Sl.nil], .inl rfl⟩
theorem Own.row {w B e s vs} (h : Own w B e s vs) : Row w s vs := by
  refine ⟨h.n, h.nc, fun i v hv => ?_⟩
  have hi : i < vs.length := (List.getElem?_eq_some_iff.1 hv).1
  rcases h.at_ with h0 | ⟨g, cur, ha, _, hg, hs, ht⟩
  · have := h.nc; have := h.n; omega
  · refine ⟨_, ha, ?_⟩
    rw [add_lit]
    rw [cell_of_row w g (0 + i) cur e (0, 0) hg]
    rw [← ht, List.getElem?_take] at hv
    split at hv
    · simpa using hv
    · cases hv
theorem Own.lt {w B e s vs} (h : Own w B e s vs) : ∀ g, s.blk = some g → B ≤ g ∧ g < w.heap.size := by
  intro g hg
  unfold Sl.blk at hg
  split at hg
  · cases hg
  · rcases h.at_ with h0 | ⟨g', cur, ha, hb, hg', _⟩
    · omega
    · rw [ha] at hg; simp at hg; subst hg
      exact ⟨hb, (Array.getElem?_eq_some_iff.1 hg').1⟩
theorem Own.kept {w w' B e s vs} {r : Option Nat} (h : Own w B e s vs) (hg : w.grownBy w' r) (hne : ∀ g, s.blk = some g → r ≠ some g) : Own w' B e s vs := by
  refine ⟨h.n, h.nc, h.cm, ?_⟩
  rcases h.at_ with h0 | ⟨g, cur, ha, hb, hh, rest⟩
  · exact .inl h0
  · by_cases hc : s.c = 0
    · exact .inl hc
    · refine .inr ⟨g, cur, ha, hb, ?_, rest⟩
      have : s.blk = some g := by simp [Sl.blk, hc, ha]
      rw [hg.block g (Array.getElem?_eq_some_iff.1 hh).1 (fun e => hne g this e.symm)]
      exact hh
theorem Own.below {w w' B B2 e s vs} (h : Own w B e s vs) (hg : Below B2 w w') (hl : ∀ g, s.blk = some g → g < B2) : Own w' B e s vs := by
  refine ⟨h.n, h.nc, h.cm, ?_⟩
  rcases h.at_ with h0 | ⟨g, cur, ha, hb, hh, rest⟩
  · exact .inl h0
  · by_cases hc : s.c = 0
    · exact .inl hc
    · refine .inr ⟨g, cur, ha, hb, ?_, rest⟩
      have : s.blk = some g := by simp [Sl.blk, hc, ha]
      rw [hg.block g (hl g this)]
      exact hh
theorem Own.mono {w B B' e s vs} (h : Own w B e s vs) (hb : B' ≤ B) : Own w B' e s vs :=
  ⟨h.n, h.nc, h.cm, h.at_.imp id fun ⟨g, cur, ha, hb', r⟩ => ⟨g, cur, ha, Nat.le_trans hb hb', r⟩⟩
theorem Own.heap {w w' B e s vs} (h : Own w B e s vs) (hh : w'.heap = w.heap) : Own w' B e s vs :=
  ⟨h.n, h.nc, h.cm, by rw [hh]; exact h.at_⟩
theorem Row.below {w w' B2 s vs} (h : Row w s vs) (hb : Below B2 w w') (hl : ∀ a, s.a = some a → vs ≠ [] → a.block < B2) : Row w' s vs :=
  ⟨h.n, h.nc, fun i v hv => by
    obtain ⟨a, ha, hc⟩ := h.cell i v hv
    exact ⟨a, ha, by rw [hb.cell (by rw [add_block]; exact hl a ha (by rintro rfl; simp at hv))]; exact hc⟩⟩
/-- A row that was there before a call that only adds. -/
theorem Row.grow {w w' s vs} (h : Row w s vs) (hb : Below w.heap.size w w') : Row w' s vs :=
  ⟨h.n, h.nc, fun i v hv => by
    obtain ⟨a, ha, hc⟩ := h.cell i v hv
    exact ⟨a, ha, by rw [hb.cell (World.block_lt_of_cell? w _ hc)]; exact hc⟩⟩
theorem Row.heap {w w' s vs} (h : Row w s vs) (hh : w'.heap = w.heap) : Row w' s vs :=
  ⟨h.n, h.nc, fun i v hv => by
    obtain ⟨a, ha, hc⟩ := h.cell i v hv
    exact ⟨a, ha, by simpa [World.cell?, hh] using hc⟩⟩
theorem Drew.heap' {w w' : World} (h : Drew w w') : w'.heap = w.heap := by obtain ⟨n, rfl⟩ := h; rfl
theorem Drew.below {w w' : World} (h : Drew w w') (B : Nat) : Below B w w' := by
  obtain ⟨n, rfl⟩ := h
  exact ⟨rfl, rfl, rfl, Nat.le_refl _, fun _ _ => rfl⟩
theorem grow_of_below {w w' : World} (h : Below w.heap.size w w') : w.grownBy w' none := ⟨h.os, h.tape, h.output, h.size, fun k hk _ => h.block k hk⟩
theorem below_of_grow {w w' : World} (h : w.grownBy w' none) : Below w.heap.size w w' := ⟨h.os, h.tape, h.output, h.size, fun k hk => h.block k hk (by simp)⟩

/-! ### Reading -/
theorem drew_intro {w : World} {K : World → Prop} (h : ∀ w', Drew w w' → K w') : drewAll w K := h
theorem Row.get {w s vs} (h : Row w s vs) {i : Int} {sh : Sh} {r : sh.T} (h0 : 0 ≤ i) (hv : vs[i.toNat]? = some (sh.enc r)) {K : sh.T → Prop} (hk : K r) : idxK 1 s i fun a => load1 sh a w K := by
  obtain ⟨a, ha, hc⟩ := h.cell _ _ hv
  have hi : i.toNat < vs.length := (List.getElem?_eq_some_iff.1 hv).1
  refine ⟨a, ha, h0, by have := h.n; omega, ?_⟩
  rw [Nat.mul_one]
  exact ⟨r, hc, hk⟩
/-- A row of ints. -/
@[reducible] def RowI (w : World) (s : Sl) (L : List Int) : Prop := Row w s (L.map vI)
@[reducible] def OwnI (w : World) (B : Nat) (s : Sl) (L : List Int) : Prop := Own w B T_int s (L.map vI)
theorem RowI.get {w s L} (h : RowI w s L) {i : Int} (h0 : 0 ≤ i) (hi : i < L.length) {K : Int → Prop} (hk : K (L.getD i.toNat 0)) : idxK 1 s i fun a => load1 (.int .i64) a w K := by
  have hlt : i.toNat < L.length := by omega
  refine Row.get (sh := .int .i64) (r := L.getD i.toNat 0) h h0 ?_ hk
  simp [List.getD_eq_getElem?_getD, List.getElem?_eq_getElem hlt]

theorem RowI.place {w s L} (h : RowI w s L) {i : Int} (h0 : 0 ≤ i) (hi : i < L.length) {K : Addr → Prop} (hk : ∀ a, w.cell? a = some (vI (L.getD i.toNat 0)) → K a) : idxK 1 s i K := by
  have hlt : i.toNat < L.length := by omega
  obtain ⟨a, ha, hc⟩ := h.cell i.toNat (vI (L.getD i.toNat 0)) (by simp [List.getD_eq_getElem?_getD, List.getElem?_eq_getElem hlt])
  have hn := h.n
  refine ⟨a, ha, h0, by rw [hn]; simp; omega, ?_⟩
  rw [Nat.mul_one]
  exact hk _ hc
theorem load_int {w : World} {a : Addr} {x : Int} (h : w.cell? a = some (vI x)) {K : Int → Prop} (hk : K x) : load1 (.int .i64) a w K := ⟨x, h, hk⟩

/-! ### append of one value -/
theorem fill_one (z v : Value) (hz : z.cells = #[z]) (hv : One v) : Instr.fill (fun i => some (i * 1, 1)) ((Array.range (1 * 1)).map (z.cells[· % z.cells.size]!)) [(0, v)] = some #[v] := by
  simp [Instr.fill, hv.1, hz, Array.range]
  rfl

theorem run_lit1 {t e z} (hT : OneT t e z) {v : Value} (hv : One v) (w : World) :
    (Instr.buildSlice t 1 #[(0, v)]).run PP w = .ok (.slice (some ⟨w.heap.size, 0, none⟩) 1 1) (w.alloc (.cells #[v] e)) := by
  obtain ⟨i, hu, hi, hz, hs, hb, hzc⟩ := hT
  refine run_buildSlice w t e 1 #[(0, v)] #[v] i z hu hi hz (by rw [hs]; decide) (by rw [hs]; decide) ?_
  rw [hs]
  exact fill_one z v hzc hv

/-- Cells stored one behind the other into a block. -/
theorem setCells_heap (g : Nat) (e : TypeId) : ∀ (vs : List Value) (o : Nat) (w : World) (cur : Array Value), w.heap[g]? = some (.cells cur e (0, 0)) → o + vs.length ≤ cur.size →
    ∃ cur', (w.setCells g o vs).heap[g]? = some (.cells cur' e (0, 0)) ∧ cur'.size = cur.size ∧ (∀ k, cur'[k]? = if o ≤ k ∧ k < o + vs.length then vs[k - o]? else cur[k]?) ∧ w.grownBy (w.setCells g o vs) (some g)
  | [], o, w, cur, h, _ => ⟨cur, h, rfl, fun k => by rw [if_neg (by simp only [List.length_nil]; omega)], ⟨rfl, rfl, rfl, Nat.le_refl _, fun _ _ _ => rfl⟩⟩
  | v :: r, o, w, cur, h, hl => by
    have h1 : (w.setCell ⟨g, o, none⟩ v).heap[g]? = some (.cells (cur.setIfInBounds o v) e (0, 0)) := by
      simp [World.setCell, Array.getElem?_modify, h]
    obtain ⟨cur', h2, h3, h4, h5⟩ := setCells_heap g e r (o + 1) _ _ h1 (by simp at hl ⊢; omega)
    refine ⟨cur', h2, by rw [h3]; simp, fun k => ?_, ?_⟩
    · rw [h4 k]
      simp only [List.length_cons] at hl ⊢
      by_cases hk : k = o
      · subst hk
        rw [if_neg (by omega), if_pos (by omega)]
        simp [show k < cur.size by omega]
      · by_cases hk2 : o + 1 ≤ k ∧ k < o + 1 + r.length
        · rw [if_pos hk2, if_pos (by omega)]
          obtain ⟨d, rfl⟩ : ∃ d, k = o + 1 + d := ⟨k - (o + 1), by omega⟩
          rw [show o + 1 + d - (o + 1) = d by omega, show o + 1 + d - o = d + 1 by omega, List.getElem?_cons_succ]
        · rw [if_neg hk2, if_neg (by omega), Array.getElem?_setIfInBounds_ne (by omega)]
    · refine ⟨h5.os, h5.tape, h5.output, ?_, fun k hk hne => ?_⟩
      · have := h5.size; rw [show (w.setCell ⟨g, o, none⟩ v).heap.size = w.heap.size by simp [World.setCell]] at this; exact this
      · show ((w.setCell ⟨g, o, none⟩ v).setCells g (o + 1) r).heap[k]? = _
        rw [h5.block k (by simpa [World.setCell] using hk) hne]
        exact Below.heap_setCell _ _ _ _ (fun e => hne (by simp [e]))

/-- How a new slice stands to the old: the same block, or a new one. -/
def Next (w : World) (s s' : Sl) : Prop := ∀ g, s'.blk = some g → s.blk = some g ∨ w.heap.size ≤ g

theorem run_append_row {t e z} (hT : OneT t e z) {w : World} {B : Nat} {s r : Sl} {vs news : List Value} (hown : Own w B e s vs) (hB : B ≤ w.heap.size)
    (hr : Row w r news) (h1 : ∀ v ∈ news, One v) (hn : vs.length + news.length < 2^40) :
    ∃ (s' : Sl) (w' : World), (Builtin.append_ #[t, t] t #[s.v, r.v]).run PP w = .ok s'.v w' ∧ Own w' B e s' (vs ++ news) ∧ w.grownBy w' s.blk ∧ Next w s s' ∧ (news = [] → s' = s ∧ w' = w) ∧ (vs.length + news.length ≤ s.c → s'.c = s.c) := by
  obtain ⟨i, hu, hi, hz, hs, hb, hzc⟩ := hT
  have hsrc : Src PP i.size t r.v r.n news w := by
    rw [hs]
    cases hra : r.a with
    | none =>
      have : news = [] := by
        cases news with
        | nil => rfl
        | cons v l => obtain ⟨a, ha, _⟩ := hr.cell 0 v rfl; rw [hra] at ha; cases ha
      subst this
      have h0 : r.n = 0 := by have := hr.n; simpa using this
      have := Src.ofNil (P := PP) (size := 1) w hu r.c
      simp only [Sl.v, hra, h0]
      exact this
    | some a =>
      have := Src.ofSlice (P := PP) (size := 1) w hu a r.n r.c news (by rw [hr.n]; simp) (fun j u hj => by
        obtain ⟨a', ha, hc⟩ := hr.cell j u hj
        rw [hra] at ha; cases ha; exact hc) (fun u hu => (h1 u hu).2)
      simp only [Sl.v, hra]
      exact this
  have hrn : r.n = news.length := hr.n
  have hsn : s.n = vs.length := hown.n
  by_cases hroom : s.n + r.n ≤ s.c
  · by_cases hc0 : s.c = 0
    · have hnn : news = [] := List.eq_nil_of_length_eq_zero (by omega)
      have hvn : vs = [] := List.eq_nil_of_length_eq_zero (by omega)
      subst hnn hvn
      refine ⟨s, w, ?_, by simpa using hown, ⟨rfl, rfl, rfl, Nat.le_refl _, fun _ _ _ => rfl⟩, fun g hg => .inl hg, fun _ => ⟨rfl, rfl⟩, fun _ => rfl⟩
      have h00 : r.n = 0 := by simpa using hrn
      have h01 : s.n = 0 := by simpa using hsn
      have hsc := hsrc.cells
      rw [h00] at hsc
      rcases hsrc.kind with ⟨e', hk⟩ | hk
      · simp only [Builtin.append_]
        simp [run_underlying hu, sizeOf, typeInfo, hi, hsrc.len, hsc, h00, h01]
        cases hsa : s.a <;> simp [storeCells] <;> exact ⟨hsa.symm, h01.symm⟩
      · rw [hu] at hk; cases hk
    · rcases hown.at_ with h0 | ⟨g, cur, ha, hbg, hg, hcs, htake⟩
      · exact absurd h0 hc0
      · have hcell : ∀ k, w.cell? ⟨g, k, none⟩ = cur[k]? := fun k => cell_of_row w g k cur e (0, 0) hg
        have hrun := run_append_room_src (P := PP) w t t t e i hu hi g 0 s.n s.c r.v r.n news hsrc hroom (fun j hj => by rw [hcell, hs]; simp; omega) (fun j hj => by simp [World.frozen?, hg])
        rw [hs, Nat.zero_add, Nat.mul_one] at hrun
        obtain ⟨cur', h2, h3, h4, h5⟩ := setCells_heap g e news s.n w cur hg (by omega)
        have hblk : s.blk = some g := by simp [Sl.blk, hc0, ha]
        refine ⟨⟨some ⟨g, 0, none⟩, s.n + r.n, s.c⟩, _, ?_, ⟨by simp; omega, hroom, hown.cm, .inr ⟨g, cur', rfl, hbg, h2, by rw [h3, hcs], ?_⟩⟩, by rw [hblk]; exact h5, fun g' hg' => .inl ?_, fun hn => ?_, fun _ => rfl⟩
        · simp only [Sl.v, ha]; exact hrun
        · apply List.ext_getElem?
          intro k
          rw [List.getElem?_take]
          simp only
          by_cases hk : k < s.n + r.n
          · rw [if_pos hk, Array.getElem?_toList, h4 k]
            by_cases hk2 : k < s.n
            · rw [if_neg (by omega), List.getElem?_append_left (by omega), ← htake, List.getElem?_take, if_pos hk2, Array.getElem?_toList]
            · rw [if_pos (by omega), List.getElem?_append_right (by omega), hsn]
          · rw [if_neg hk, List.getElem?_eq_none (by simp; omega)]
        · rw [hblk]
          simp only [Sl.blk, hc0, if_false, Option.map_some] at hg'
          exact hg'
        · subst hn
          have h00 : r.n = 0 := by simpa using hrn
          refine ⟨?_, rfl⟩
          cases s
          simp_all
  · have hgt : s.c < s.n + r.n := by omega
    have hold : (Builtin.firstCells i.size s.n (.slice s.a s.n s.c)).run PP w.drew = .ok vs.toArray w.drew := by
      rw [hs]
      cases hsa : s.a with
      | none =>
        have : vs = [] := by
          cases vs with
          | nil => rfl
          | cons v l => obtain ⟨a, ha, _⟩ := hown.row.cell 0 v rfl; rw [hsa] at ha; cases ha
        subst this
        exact run_firstCells_none w.drew 1 s.n s.n s.c
      | some a =>
        refine run_firstCells_some w.drew 1 s.n a s.n s.c vs (by omega) (fun j u hj => ?_)
        obtain ⟨a', ha, hc⟩ := hown.row.cell j u hj
        rw [hsa] at ha; cases ha; exact hc
    have hrun := run_append_grow_src (P := PP) w t t t e i z hu hi hz s.a s.n s.c vs hold r.v r.n news hsrc hgt (by omega) (growslice_fits (by omega) (by
      have : (s.n + r.n) * i.bytes ≤ (s.n + r.n) * 24 := Nat.mul_le_mul_left _ hb
      omega))
    have hge := grownCap_ge w (s.n + r.n) s.c e
    have hcm := grownCap_le_maxLen w (s.n + r.n) s.c e (by simp only [maxLen]; omega)
    refine ⟨⟨some ⟨w.heap.size, 0, none⟩, s.n + r.n, grownCap w (s.n + r.n) s.c e⟩, _, hrun, ⟨by simp; omega, hge, hcm, .inr ⟨w.heap.size, _, rfl, hB, heap_alloc_new w.drew _, ?_, ?_⟩⟩, ⟨rfl, rfl, rfl, by simp, fun k hk _ => heap_alloc_old w.drew _ hk⟩, fun g hg => .inr ?_, fun hn => ?_, fun hcc => by omega⟩
    · simp [size_zeroCells, hzc]; omega
    · simp only [Array.toList_append]
      rw [show s.n + r.n = (vs ++ news).length by simp; omega]
      exact List.take_left
    · simp only [Sl.blk] at hg
      split at hg
      · cases hg
      · simp at hg; omega
    · subst hn; have := hown.nc; simp at hrn; omega

theorem append_row {t e z} (hT : OneT t e z) {w : World} {B : Nat} {s r : Sl} {vs news : List Value} (hown : Own w B e s vs) (hB : B ≤ w.heap.size)
    (hr : Row w r news) (h1 : ∀ v ∈ news, One v) (hn : vs.length + news.length < 2^40) {K : Sl → World → Prop}
    (h : ∀ s' w', Own w' B e s' (vs ++ news) → w.grownBy w' s.blk → Next w s s' → (news = [] → s' = s ∧ w' = w) → K s' w') : sem1 .sl PP (Builtin.append_ #[t, t] t #[s.v, r.v]) w K := by
  obtain ⟨s', w', h1, h2, h3, h4, h5, _⟩ := run_append_row hT hown hB hr h1 hn
  exact ⟨s', w', h1, h _ _ h2 h3 h4 h5⟩

/-- The same where there is room. -/
theorem append_room {t e z} (hT : OneT t e z) {w : World} {B : Nat} {s r : Sl} {vs news : List Value} (hown : Own w B e s vs) (hB : B ≤ w.heap.size)
    (hr : Row w r news) (h1 : ∀ v ∈ news, One v) (hn : vs.length + news.length < 2^40) (hc : vs.length + news.length ≤ s.c) {K : Sl → World → Prop}
    (h : ∀ s' w', Own w' B e s' (vs ++ news) → w.grownBy w' s.blk → Next w s s' → s'.c = s.c → K s' w') : sem1 .sl PP (Builtin.append_ #[t, t] t #[s.v, r.v]) w K := by
  obtain ⟨s', w', h1, h2, h3, h4, h5, h6⟩ := run_append_row hT hown hB hr h1 hn
  exact ⟨s', w', h1, h _ _ h2 h3 h4 (h6 hc)⟩

/-- 'append(s, v)'. -/
theorem append_one {t e z} (hT : OneT t e z) {w : World} {B : Nat} {s : Sl} {vs : List Value} {v : Value} (hown : Own w B e s vs) (hB : B ≤ w.heap.size) (hv : One v) (hn : vs.length < 2^39) {K : Sl → World → Prop}
    (h : ∀ s' w', Own w' B e s' (vs ++ [v]) → w.grownBy w' s.blk → Next w s s' → K s' w') :
    sem1 .sl PP (Instr.buildSlice t 1 #[(0, v)]) w fun r w1 => sem1 .sl PP (Builtin.append_ #[t, t] t #[s.v, r.v]) w1 K := by
  refine ⟨⟨some ⟨w.heap.size, 0, none⟩, 1, 1⟩, _, run_lit1 hT hv w, ?_⟩
  have hg1 : w.grownBy (w.alloc (.cells #[v] e)) none := World.grownBy_alloc w _ none
  have hnew : (w.alloc (.cells #[v] e)).heap[w.heap.size]? = some (.cells #[v] e (0, 0)) := heap_alloc_new w _
  refine append_row hT (hown.kept hg1 (fun _ _ => by simp)) (by simp; omega) (news := [v]) ⟨rfl, Nat.le_refl _, fun i u hu => ⟨_, rfl, ?_⟩⟩ (by simpa using hv) (by simp; omega) ?_
  · cases i with
    | zero =>
      simp at hu; subst hu
      rw [add_zero', cell_of_row _ _ _ _ _ _ hnew]; rfl
    | succ i => simp at hu
  · intro s' w' h2 h3 h4 _
    refine h s' w' h2 ⟨h3.os, h3.tape, h3.output, by have := h3.size; simp at this; omega, fun k hk hne => ?_⟩ fun g hg => ?_
    · rw [h3.block k (by simp; omega) hne]; exact heap_alloc_old w _ hk
    · rcases h4 g hg with h5 | h5
      · exact .inl h5
      · simp at h5; exact .inr (by omega)

theorem oneInt : OneT T_Sint T_int (vI 0) := oneT_of (by kernel_rfl) (by kernel_rfl) rfl
theorem append_int {w : World} {B : Nat} {s : Sl} {L : List Int} {x : Int} (hown : OwnI w B s L) (hB : B ≤ w.heap.size) (hn : L.length < 2^39) {K : Sl → World → Prop}
    (h : ∀ s' w', OwnI w' B s' (L ++ [x]) → w.grownBy w' s.blk → Next w s s' → K s' w') :
    sem1 .sl PP (Instr.buildSlice T_Sint 1 #[(0, vI x)]) w fun r w1 => sem1 .sl PP (Builtin.append_ #[T_Sint, T_Sint] T_Sint #[s.v, r.v]) w1 K :=
  append_one oneInt hown hB (One.int x) (by simpa using hn) fun s' w' h1 h2 h3 => h s' w' (by simp only [OwnI, List.map_append, List.map_cons, List.map_nil]; exact h1) h2 h3

/-! ### Literals, make -/
theorem run_lit0 {P : Program} {t e : TypeId} {i : TypeInfo} (hu : P.underlying t = some (.slice e)) (hi : P.info? e = some i) (w : World) :
    (Instr.buildSlice t 0 #[]).run P w = .ok (.slice (some ⟨w.heap.size, 0, none⟩) 0 0) (w.alloc (.cells #[] e)) := by
  simp [Instr.buildSlice, run_underlying hu, sizeOf, typeInfo, hi, Instr.fill, newRow]
  congr 2
  apply Array.eq_empty_of_size_eq_zero
  simp
theorem lit0 {t e z} (hT : OneT t e z) {w : World} {B : Nat} (hB : B ≤ w.heap.size) {K : Sl → World → Prop}
    (h : ∀ s w', Own w' B e s [] → w.grownBy w' none → s.c = 0 → K s w') : sem1 .sl PP (Instr.buildSlice t 0 #[]) w K := by
  obtain ⟨i, hu, hi, hz, hs, hb, hzc⟩ := hT
  exact ⟨⟨some ⟨w.heap.size, 0, none⟩, 0, 0⟩, w.alloc (.cells #[] e), run_lit0 hu hi w, h _ _ ⟨rfl, Nat.le_refl _, by simp, .inl rfl⟩ (World.grownBy_alloc w _ none) rfl⟩
theorem lit1 {t e z} (hT : OneT t e z) {w : World} {B : Nat} (hB : B ≤ w.heap.size) {v : Value} (hv : One v) {K : Sl → World → Prop}
    (h : ∀ s w', Own w' B e s [v] → w.grownBy w' none → Next w Sl.nil s → K s w') : sem1 .sl PP (Instr.buildSlice t 1 #[(0, v)]) w K := by
  refine ⟨⟨some ⟨w.heap.size, 0, none⟩, 1, 1⟩, _, run_lit1 hT hv w, h _ _ ⟨rfl, Nat.le_refl _, by simp only [maxLen]; omega, .inr ⟨_, _, rfl, hB, heap_alloc_new w _, rfl, rfl⟩⟩ (World.grownBy_alloc w _ none) fun g hg => .inr ?_⟩
  simp [Sl.blk] at hg; omega
theorem madeCells_one (z : Value) (n : Nat) : (madeCells #[z] n).toList = List.replicate n z := by
  unfold madeCells
  apply List.ext_getElem?
  intro i
  simp [List.getElem?_replicate, Nat.mod_one]
  by_cases h : i < n <;> simp [h]
theorem make_own {t e z} (hT : OneT t e z) {w : World} {B : Nat} (hB : B ≤ w.heap.size) {n : Int} (h0 : 0 ≤ n) (hn : n < 2^39) {K : Sl → World → Prop}
    (h : ∀ s w', Own w' B e s (List.replicate n.toNat z) → w.grownBy w' none → Next w Sl.nil s → K s w') : sem1 .sl PP (Instr.makeSlice t (vI n) (vI n)) w K := by
  obtain ⟨i, hu, hi, hz, hs, hb, hzc⟩ := hT
  obtain ⟨m, rfl⟩ : ∃ m : Nat, n = m := ⟨n.toNat, by omega⟩
  have hbm : i.bytes * m ≤ 281474976710656 := by
    have h1 : i.bytes * m ≤ 24 * m := Nat.mul_le_mul_right _ hb
    omega
  obtain ⟨w', hr, how, hg⟩ := run_make_full (P := PP) w B t e i z 1 hu hi hz hs .i64 .i64 m hbm (by simp only [maxLen]; omega) hB
  refine ⟨⟨some ⟨w.heap.size, 0, none⟩, m, m⟩, w', hr, h _ _ ?_ hg fun g hg => .inr ?_⟩
  · rw [hzc, Nat.mul_one, madeCells_one] at how
    refine ⟨by simp, Nat.le_refl _, by simp only [maxLen]; omega, ?_⟩
    rcases how.2 with ⟨h1, _⟩ | ⟨g, cap, cur, h1, h2, h3, h4, h5, h6, h7⟩
    · cases h1
    · simp only [Value.slice.injEq, Option.some.injEq, Addr.mk.injEq] at h1
      obtain ⟨⟨rfl, _, _⟩, _, rfl⟩ := h1
      exact .inr ⟨_, cur, rfl, h2, h3, by simpa using h6, by simpa using h7⟩
  · simp [Sl.blk] at hg; omega

/-! ### Stores, cuts -/
theorem Own.put {w B e s vs} (h : Own w B e s vs) {i : Int} (h0 : 0 ≤ i) (hi : i < vs.length) {v : Value} {K : World → Prop}
    (hK : ∀ w', Own w' B e s (vs.set i.toNat v) → w.grownBy w' s.blk → w'.heap.size = w.heap.size → K w') : idxK 1 s i fun a => storeC a v w K := by
  have hn := h.n
  have hnc := h.nc
  have hlt : i.toNat < vs.length := by omega
  rcases h.at_ with hc | ⟨g, cur, ha, hb, hg, hs, ht⟩
  · omega
  have hc0 : s.c ≠ 0 := by omega
  have hblk : s.blk = some g := by simp [Sl.blk, hc0, ha]
  refine ⟨_, ha, h0, by omega, ?_⟩
  rw [Nat.mul_one, add_lit, Nat.zero_add]
  have hcell := cell_of_row w g i.toNat cur e (0, 0) hg
  refine ⟨⟨cur[i.toNat]'(by omega), by rw [hcell]; simp⟩, by simp [World.frozen?, hg], hK _ ?_ ?_ (by simp [World.setCell])⟩
  · have hg' : (w.setCell ⟨g, i.toNat, none⟩ v).heap[g]? = some (.cells (cur.setIfInBounds i.toNat v) e (0, 0)) := by
      simp [World.setCell, Array.getElem?_modify, hg]
    refine ⟨by simp [hn], hnc, h.cm, .inr ⟨g, _, ha, hb, hg', by simpa using hs, ?_⟩⟩
    rw [Array.toList_setIfInBounds, List.take_set, ht]
  · rw [hblk]
    exact ⟨rfl, rfl, rfl, by simp [World.setCell], fun k hk hne => Below.heap_setCell _ _ _ _ (fun e => hne (by simp [e]))⟩
theorem add_add (a : Addr) (i j : Nat) : (a.add i).add j = a.add (i + j) := by
  unfold Addr.add
  by_cases hi : i = 0
  · simp [hi]
  · by_cases hj : j = 0
    · simp [hj]
    · simp [hi, hj, Nat.add_assoc]
theorem Row.cut {w s vs} (h : Row w s vs) {lo hi : Option Int} (h0 : 0 ≤ lo.getD 0) (h1 : lo.getD 0 ≤ hi.getD s.n) (h2 : hi.getD s.n ≤ vs.length) {K : Sl → Prop}
    (hK : ∀ t : Sl, Row w t ((vs.take (hi.getD s.n).toNat).drop (lo.getD 0).toNat) → K t) : cutK 1 s lo hi K := by
  have hn := h.n
  have hnc := h.nc
  refine ⟨h0, h1, by omega, hK _ ⟨?_, ?_, fun i v hv => ?_⟩⟩
  · simp [Sl.cut]; omega
  · simp only [Sl.cut]; omega
  · rw [List.getElem?_drop, List.getElem?_take] at hv
    split at hv
    · obtain ⟨a, ha, hc⟩ := h.cell _ v hv
      have hlt : (lo.getD 0).toNat + i < vs.length := (List.getElem?_eq_some_iff.1 hv).1
      refine ⟨a.add ((lo.getD 0).toNat), ?_, by rw [add_add]; exact hc⟩
      simp only [Sl.cut, Nat.mul_one]
      rw [if_neg (by omega), ha]; rfl
    · cases hv

/-- 's[:hi]' of a row of the call's own. -/
theorem Own.pop {w B e s vs} (h : Own w B e s vs) {hi : Int} (h0 : 0 ≤ hi) (h1 : hi ≤ vs.length) {K : Sl → Prop} (hK : ∀ t : Sl, Own w B e t (vs.take hi.toNat) → t.blk = s.blk → K t) : cutK 1 s none (some hi) K := by
  have hn := h.n
  have hnc := h.nc
  refine ⟨by simp, by simpa using h0, by simp; omega, ?_⟩
  have ea : (s.cut 1 ((none : Option Int).getD 0).toNat ((some hi).getD (s.n : Int)).toNat) = ⟨s.a, hi.toNat, s.c⟩ := by
    simp only [Sl.cut, Option.getD_none, Option.getD_some, Int.toNat_zero, Nat.zero_mul, Nat.sub_zero]
    cases s.a <;> simp [add_zero']
  rw [ea]
  refine hK _ ⟨by simp; omega, by simp only; omega, h.cm, ?_⟩ rfl
  rcases h.at_ with hc | ⟨g, cur, ha, hb, hg, hs, ht⟩
  · exact .inl hc
  · refine .inr ⟨g, cur, ha, hb, hg, hs, ?_⟩
    rw [← ht, List.take_take]
    congr 1
    simp only
    omega

/-- 's[n:n+1]' behind the end, cleared. -/
theorem clear_spare {tt} {w : World} {B : Nat} {s : Sl} {vs : List Value} (h : Own w B T_int s vs) {n : Int} (hn : n = vs.length + 1) (hc : vs.length + 1 ≤ s.c) {K : Value → World → Prop}
    (hk : ∀ r w', Own w' B T_int s vs → w.grownBy w' s.blk → w'.heap.size = w.heap.size → K r w') :
    cutK 1 s (some (s.n : Int)) (some n) fun s6 => sem1 .any PP (Builtin.clear_ #[T_Sint] tt #[s6.v]) w K := by
  have hsn := h.n
  subst hn
  refine ⟨by simp, by simp; omega, by simp; omega, ?_⟩
  rcases h.at_ with hc0 | ⟨g, cur, ha, hb, hg, hs, ht⟩
  · omega
  have ecut : s.cut 1 ((some (s.n : Int)).getD 0).toNat ((some ((vs.length : Int) + 1)).getD (s.n : Int)).toNat = ⟨some ⟨g, s.n, none⟩, 1, s.c - s.n⟩ := by
    simp only [Sl.cut, Option.getD_some, Int.toNat_natCast]
    rw [if_neg (by omega), ha]
    simp only [Option.map_some, Nat.mul_one, add_lit, Nat.zero_add]
    congr 1; omega
  rw [ecut]
  obtain ⟨i, hu, hi, hz, hs1, hbb, hzc⟩ := oneInt
  have hcell := cell_of_row w g s.n cur T_int (0, 0) hg
  have hcell' : w.cell? ⟨g, s.n, none⟩ = some (cur[s.n]'(by omega)) := by rw [hcell]; simp
  have hfr : w.frozen? ⟨g, s.n, none⟩ = false := by simp [World.frozen?, hg]
  have hzz : Builtin.zeroCells (vI 0).cells 1 = #[vI 0] := by simp [Builtin.zeroCells, Value.cells, Array.range]; rfl
  have hblk : s.blk = some g := by simp [Sl.blk, show s.c ≠ 0 by omega, ha]
  have hg' : (w.setCell ⟨g, s.n, none⟩ (vI 0)).heap[g]? = some (.cells (cur.setIfInBounds s.n (vI 0)) T_int (0, 0)) := by
    simp [World.setCell, Array.getElem?_modify, hg]
  refine ⟨.tuple #[], w.setCell ⟨g, s.n, none⟩ (vI 0), ?_, hk _ _ ⟨h.n, h.nc, h.cm, .inr ⟨g, _, ha, hb, hg', by simpa using hs, ?_⟩⟩ ?_ (by simp [World.setCell])⟩
  · have hst : ∀ k : Sem Unit, (Sem.store .plain ⟨g, s.n, none⟩ (vI 0) k).run PP w = k.run PP (w.setCell ⟨g, s.n, none⟩ (vI 0)) := by
      intro k
      simp [Sem.run, hcell', hfr]
    simp [Builtin.clear_, run_underlying hu, zeroValue, typeInfo, hi, hz, hzz, storeCells, store, add_zero', hst, Sem.run]
  · rw [Array.toList_setIfInBounds, List.take_set_of_le (by omega)]
    exact ht
  · rw [hblk]
    exact ⟨rfl, rfl, rfl, by simp [World.setCell], fun k hk hne => Below.heap_setCell _ _ _ _ (fun e => hne (by simp [e]))⟩
/-- The same, told whole. -/
theorem Own.popE {w B e s vs} (h : Own w B e s vs) {hi : Int} (h0 : 0 ≤ hi) (h1 : hi ≤ vs.length) {K : Sl → Prop} (hK : Own w B e ⟨s.a, hi.toNat, s.c⟩ (vs.take hi.toNat) → K ⟨s.a, hi.toNat, s.c⟩) : cutK 1 s none (some hi) K := by
  have hn := h.n
  have hnc := h.nc
  refine ⟨by simp, by simpa using h0, by simp; omega, ?_⟩
  have ea : (s.cut 1 ((none : Option Int).getD 0).toNat ((some hi).getD (s.n : Int)).toNat) = ⟨s.a, hi.toNat, s.c⟩ := by
    simp only [Sl.cut, Option.getD_none, Option.getD_some, Int.toNat_zero, Nat.zero_mul, Nat.sub_zero]
    cases s.a <;> simp [add_zero']
  rw [ea]
  refine hK ⟨by simp; omega, by simp only; omega, h.cm, ?_⟩
  rcases h.at_ with hc | ⟨g, cur, ha, hb, hg, hs, ht⟩
  · exact .inl hc
  · refine .inr ⟨g, cur, ha, hb, hg, hs, ?_⟩
    rw [← ht, List.take_take]
    congr 1
    simp only
    omega
/-! ### Quiet calls: they read, and draw at most -/
def Quiet (f : FuncId) (args : Array Value) (w : World) (v : Value) : Prop := ∀ w', Drew w w' → Calls PP f args w' fun e w'' => e = .returned v ∧ Drew w' w''
theorem Quiet.qcall1 {s : Sh} {f args} {w : World} {r : s.T} (h : Quiet f args w (s.enc r)) {K : s.T → Prop} (hk : K r) : qcall1 s PP f args w K := ⟨r, h, hk⟩
theorem Quiet.call1 {s : Sh} {f args} {w : World} {r : s.T} (h : Quiet f args w (s.enc r)) {K : s.T → World → Prop} (hk : ∀ w', Drew w w' → K r w') : call1 s PP f args w K :=
  (h w (Drew.refl w)).mono fun e w' ⟨he, hw⟩ => ⟨r, he, hk w' hw⟩
theorem Pure.quiet {f args v} (h : Pure f args v) (w : World) : Quiet f args w v := fun w' _ => (h w').mono fun e w'' ⟨he, hw⟩ => ⟨he, by rw [hw]; exact Drew.refl _⟩

end Go.Proofs.YtlcemelmnkipmaaGreat

/- Rows of rows in memory: what such a slice reads, what a call owns of it, and what appends, loads and stores do to both. -/
namespace Go.Proofs.YtlcemelmnkipmaaGreat
open Go Go.RowKit
set_option maxRecDepth 100000

theorem oneSint : OneT T_SSint T_Sint Sl.nil.v := oneT_of (by kernel_rfl) (by kernel_rfl) rfl
theorem ne_int_Sint : T_int ≠ T_Sint := by decide

/-- The blocks of two slices are not the same. -/
def Apt (s t : Sl) : Prop := ∀ g, s.blk = some g → t.blk ≠ some g
theorem Apt.symm {s t : Sl} (h : Apt s t) : Apt t s := fun g h1 h2 => h g h2 h1
theorem Apt.next {w : World} {s s' t : Sl} (h : Apt s t) (hn : Next w s s') (ht : ∀ g, t.blk = some g → g < w.heap.size) : Apt s' t := fun g h1 h2 => by
  rcases hn g h1 with h3 | h3
  · exact h g h3 h2
  · have := ht g h2; omega
theorem Apt.of_blk {s s' t : Sl} (h : Apt s t) (he : s'.blk = s.blk) : Apt s' t := fun g h1 h2 => h g (he ▸ h1) h2
theorem Apt.of_lt {s t : Sl} {C : Nat} (h1 : ∀ g, s.blk = some g → g < C) (h2 : ∀ g, t.blk = some g → C ≤ g) : Apt s t := fun g h3 h4 => by
  have := h1 g h3; have := h2 g h4; omega
theorem Own.heapAt {w B e s vs} (h : Own w B e s vs) {g : Nat} (hg : s.blk = some g) : ∃ cur, w.heap[g]? = some (.cells cur e (0, 0)) := by
  unfold Sl.blk at hg
  split at hg
  · cases hg
  · rcases h.at_ with h0 | ⟨g', cur, ha, hb, hg', _⟩
    · omega
    · rw [ha] at hg; simp at hg; subst hg; exact ⟨cur, hg'⟩
theorem Own.apt {w B e s vs B' e' t us} (h : Own w B e s vs) (h' : Own w B' e' t us) (hne : e ≠ e') : Apt s t := fun g h1 h2 => by
  obtain ⟨c1, k1⟩ := h.heapAt h1
  obtain ⟨c2, k2⟩ := h'.heapAt h2
  rw [k1] at k2
  simp only [Option.some.injEq, Obj.cells.injEq] at k2
  exact hne k2.2.1

/-- What two worlds have in common: every block outside S. -/
structure Keeps (S : Nat → Prop) (w w' : World) : Prop where
  os : w'.os = w.os
  tape : w'.tape = w.tape
  output : w'.output = w.output
  size : w.heap.size ≤ w'.heap.size
  block : ∀ k, k < w.heap.size → ¬ S k → w'.heap[k]? = w.heap[k]?
theorem Keeps.refl (S : Nat → Prop) (w : World) : Keeps S w w := ⟨rfl, rfl, rfl, Nat.le_refl _, fun _ _ _ => rfl⟩
theorem Keeps.trans {S : Nat → Prop} {a b c : World} (h : Keeps S a b) (k : Keeps S b c) : Keeps S a c :=
  ⟨k.os.trans h.os, k.tape.trans h.tape, k.output.trans h.output, Nat.le_trans h.size k.size, fun x hx hne => (k.block x (Nat.lt_of_lt_of_le hx h.size) hne).trans (h.block x hx hne)⟩
theorem Keeps.mono {S T : Nat → Prop} {a b : World} (h : Keeps S a b) (hST : ∀ k, S k → T k) : Keeps T a b := ⟨h.os, h.tape, h.output, h.size, fun x hx hne => h.block x hx fun hs => hne (hST x hs)⟩
theorem Keeps.below {S : Nat → Prop} {a b : World} {B : Nat} (h : Keeps S a b) (hS : ∀ k, S k → B ≤ k) (hB : B ≤ a.heap.size) : Below B a b := ⟨h.os, h.tape, h.output, h.size, fun x hx => h.block x (by omega) fun hs => by have := hS x hs; omega⟩
theorem keeps_grown {a b : World} {r : Option Nat} (h : a.grownBy b r) : Keeps (fun k => r = some k) a b := ⟨h.os, h.tape, h.output, h.size, fun x hx hne => h.block x hx (fun e => hne e.symm)⟩
theorem Drew.keeps {a b : World} (h : Drew a b) (S : Nat → Prop) : Keeps S a b := by obtain ⟨n, rfl⟩ := h; exact ⟨rfl, rfl, rfl, Nat.le_refl _, fun _ _ _ => rfl⟩
theorem Own.keeps {S : Nat → Prop} {w w' B e s vs} (h : Own w B e s vs) (hk : Keeps S w w') (hn : ∀ g, s.blk = some g → ¬ S g) : Own w' B e s vs := by
  refine ⟨h.n, h.nc, h.cm, ?_⟩
  rcases h.at_ with h0 | ⟨g, cur, ha, hb, hh, rest⟩
  · exact .inl h0
  · by_cases hc : s.c = 0
    · exact .inl hc
    · refine .inr ⟨g, cur, ha, hb, ?_, rest⟩
      have : s.blk = some g := by simp [Sl.blk, hc, ha]
      rw [hk.block g (h.lt g this).2 (hn g this)]
      exact hh

/-! ### Reading -/
structure RowsI (w : World) (s : Sl) (rs : List Sl) (LL : List (List Int)) : Prop where
  out : Row w s (rs.map Sl.v)
  len : rs.length = LL.length
  at_ : ∀ (i : Nat) (r : Sl) (L : List Int), rs[i]? = some r → LL[i]? = some L → RowI w r L
/-- What a slice of rows reads. -/
def RowSS (w : World) (s : Sl) (LL : List (List Int)) : Prop := ∃ rs, RowsI w s rs LL
theorem RowSS.n {w s LL} (h : RowSS w s LL) : s.n = LL.length := by obtain ⟨rs, h⟩ := h; have := h.out.n; have := h.len; simp_all
theorem RowSS.grow {w w' s LL} (h : RowSS w s LL) (hb : Below w.heap.size w w') : RowSS w' s LL := by
  obtain ⟨rs, h⟩ := h
  exact ⟨rs, h.out.grow hb, h.len, fun i r L h1 h2 => (h.at_ i r L h1 h2).grow hb⟩
theorem RowSS.heap {w w' s LL} (h : RowSS w s LL) (hh : w'.heap = w.heap) : RowSS w' s LL := by
  obtain ⟨rs, h⟩ := h
  exact ⟨rs, h.out.heap hh, h.len, fun i r L h1 h2 => (h.at_ i r L h1 h2).heap hh⟩
theorem RowSS.get {w s LL} (h : RowSS w s LL) {i : Int} (h0 : 0 ≤ i) (hi : i < LL.length) {K : Sl → Prop} (hk : ∀ r, RowI w r (LL.getD i.toNat []) → K r) : idxK 1 s i fun a => load1 .sl a w K := by
  obtain ⟨rs, h⟩ := h
  have hlt : i.toNat < rs.length := by have := h.len; omega
  have hlt2 : i.toNat < LL.length := by omega
  refine Row.get (sh := .sl) (r := rs[i.toNat]) h.out h0 ?_ (hk _ ?_)
  · rw [List.getElem?_map, List.getElem?_eq_getElem hlt]; rfl
  · refine h.at_ i.toNat _ _ (List.getElem?_eq_getElem hlt) ?_
    simp [List.getD_eq_getElem?_getD, List.getElem?_eq_getElem hlt2]
theorem RowSS.place {w s LL} (h : RowSS w s LL) {i : Int} (h0 : 0 ≤ i) (hi : i < LL.length) {K : Addr → Prop} (hk : ∀ a (r : Sl), w.cell? a = some r.v → RowI w r (LL.getD i.toNat []) → K a) : idxK 1 s i K := by
  obtain ⟨rs, h⟩ := h
  have hlt : i.toNat < rs.length := by have := h.len; omega
  have hlt2 : i.toNat < LL.length := by omega
  obtain ⟨a, ha, hc⟩ := h.out.cell i.toNat rs[i.toNat].v (by rw [List.getElem?_map, List.getElem?_eq_getElem hlt]; rfl)
  have hn := h.out.n
  refine ⟨a, ha, h0, by rw [hn]; simp; omega, ?_⟩
  rw [Nat.mul_one]
  refine hk _ _ hc (h.at_ i.toNat _ _ (List.getElem?_eq_getElem hlt) ?_)
  simp [List.getD_eq_getElem?_getD, List.getElem?_eq_getElem hlt2]
theorem getD_SS {LL : List (List Int)} {i : Nat} (h : i < LL.length) : LL.getD i [] = LL[i] := by simp [List.getD_eq_getElem?_getD, List.getElem?_eq_getElem h]
def tot (LL : List (List Int)) : Nat := (LL.map List.length).sum
theorem tot_nil : tot [] = 0 := rfl
theorem tot_cons (L : List Int) (r : List (List Int)) : tot (L :: r) = L.length + tot r := by simp [tot]
theorem tot_append (A B : List (List Int)) : tot (A ++ B) = tot A + tot B := by simp [tot]
theorem len_le_tot {LL : List (List Int)} {L : List Int} (h : L ∈ LL) : L.length ≤ tot LL := by
  induction LL with
  | nil => simp at h
  | cons M r ih =>
    rw [tot_cons]
    rcases List.mem_cons.1 h with rfl | h
    · omega
    · have := ih h; omega
theorem tot_take_succ {LL : List (List Int)} {i : Nat} (h : i < LL.length) : tot (LL.take (i + 1)) = tot (LL.take i) + (LL.getD i []).length := by
  rw [getD_SS h, List.take_succ_eq_append_getElem h, tot_append]; simp [tot]
theorem tot_take_le (LL : List (List Int)) (i : Nat) : tot (LL.take i) ≤ tot LL := by
  have : tot LL = tot (LL.take i) + tot (LL.drop i) := by rw [← tot_append, List.take_append_drop]
  omega
/-- The same, the row's reading told of an older world. -/
theorem RowSS.getB {w0 w s LL} (h : RowSS w0 s LL) (hb : Below w0.heap.size w0 w) {i : Int} (h0 : 0 ≤ i) (hi : i < LL.length) {K : Sl → Prop} (hk : ∀ r, RowI w0 r (LL.getD i.toNat []) → K r) : idxK 1 s i fun a => load1 .sl a w K := by
  obtain ⟨rs, h⟩ := h
  have hlt : i.toNat < rs.length := by have := h.len; omega
  have hlt2 : i.toNat < LL.length := by omega
  refine Row.get (sh := .sl) (r := rs[i.toNat]) (h.out.grow hb) h0 ?_ (hk _ ?_)
  · rw [List.getElem?_map, List.getElem?_eq_getElem hlt]; rfl
  · refine h.at_ i.toNat _ _ (List.getElem?_eq_getElem hlt) ?_
    simp [List.getD_eq_getElem?_getD, List.getElem?_eq_getElem hlt2]
/-- 'rows[:i]'. -/
theorem RowSS.take {w s LL} (h : RowSS w s LL) {i : Nat} (hi : i ≤ LL.length) {K : Sl → Prop} (hK : ∀ t : Sl, RowSS w t (LL.take i) → K t) : cutK 1 s none (some (i : Int)) K := by
  obtain ⟨rs, h⟩ := h
  have hn := h.out.n
  have hl := h.len
  rw [List.length_map] at hn
  refine Row.cut h.out (by simp) (by simp) (by simp; omega) fun t ht => hK t ⟨rs.take i, ?_, by simp; omega, fun j r L e1 e2 => ?_⟩
  · have e : (List.take ((some (i : Int)).getD (s.n : Int)).toNat (rs.map Sl.v)).drop ((none : Option Int).getD 0).toNat = (rs.take i).map Sl.v := by simp
    rw [e] at ht; exact ht
  · rw [List.getElem?_take] at e1 e2
    split at e1
    · rename_i hj
      rw [if_pos hj] at e2
      exact h.at_ j r L e1 e2
    · cases e1
theorem load_sl {w : World} {a : Addr} {r : Sl} (h : w.cell? a = some r.v) {K : Sl → Prop} (hk : K r) : load1 .sl a w K := ⟨r, h, hk⟩

/-! ### Owning -/
structure OwnRows (w : World) (B : Nat) (s : Sl) (rs : List Sl) (LL : List (List Int)) : Prop where
  out : Own w B T_Sint s (rs.map Sl.v)
  len : rs.length = LL.length
  at_ : ∀ (i : Nat) (r : Sl) (L : List Int), rs[i]? = some r → LL[i]? = some L → OwnI w B r L
  apt : ∀ (i j : Nat) (r t : Sl), i ≠ j → rs[i]? = some r → rs[j]? = some t → Apt r t
def OwnSS (w : World) (B : Nat) (s : Sl) (LL : List (List Int)) : Prop := ∃ rs, OwnRows w B s rs LL
theorem OwnRows.rows {w B s rs LL} (h : OwnRows w B s rs LL) : RowsI w s rs LL := ⟨h.out.row, h.len, fun i r L h1 h2 => (h.at_ i r L h1 h2).row⟩
theorem OwnRows.row {w B s rs LL} (h : OwnRows w B s rs LL) : RowSS w s LL := ⟨rs, h.rows⟩
theorem OwnSS.row {w B s LL} (h : OwnSS w B s LL) : RowSS w s LL := by obtain ⟨rs, h⟩ := h; exact h.row
theorem OwnRows.n {w B s rs LL} (h : OwnRows w B s rs LL) : s.n = LL.length := h.row.n
theorem OwnRows.own {w B s rs LL} (h : OwnRows w B s rs LL) {r : Sl} (hr : r ∈ rs) : ∃ L, L ∈ LL ∧ OwnI w B r L := by
  obtain ⟨i, hi, rfl⟩ := List.getElem_of_mem hr
  have : i < LL.length := by have := h.len; omega
  exact ⟨LL[i], List.getElem_mem this, h.at_ i _ _ (List.getElem?_eq_getElem hi) (List.getElem?_eq_getElem this)⟩
theorem OwnRows.lt {w B s rs LL} (h : OwnRows w B s rs LL) {r : Sl} (hr : r ∈ rs) {g : Nat} (hg : r.blk = some g) : B ≤ g ∧ g < w.heap.size := by
  obtain ⟨L, _, ho⟩ := h.own hr; exact ho.lt g hg
theorem OwnRows.keeps {S : Nat → Prop} {w w' B s rs LL} (h : OwnRows w B s rs LL) (hk : Keeps S w w') (h1 : ∀ g, s.blk = some g → ¬ S g) (h2 : ∀ r ∈ rs, ∀ g, r.blk = some g → ¬ S g) : OwnRows w' B s rs LL :=
  ⟨h.out.keeps hk h1, h.len, fun i r L e1 e2 => (h.at_ i r L e1 e2).keeps hk (h2 r (List.mem_of_getElem? e1)), h.apt⟩
theorem OwnRows.keepsLt {S : Nat → Prop} {w w' B s rs LL} (h : OwnRows w B s rs LL) (hk : Keeps S w w') (hS : ∀ k, S k → k < B) : OwnRows w' B s rs LL :=
  h.keeps hk (fun g hg hs => by have := hS g hs; have := h.out.lt g hg; omega) (fun r hr g hg hs => by have := hS g hs; have := h.lt hr hg; omega)
theorem OwnRows.below {w w' B B2 s rs LL} (h : OwnRows w B s rs LL) (hb : Below B2 w w') (h1 : ∀ g, s.blk = some g → g < B2) (h2 : ∀ r ∈ rs, ∀ g, r.blk = some g → g < B2) : OwnRows w' B s rs LL :=
  ⟨h.out.below hb h1, h.len, fun i r L e1 e2 => (h.at_ i r L e1 e2).below hb (h2 r (List.mem_of_getElem? e1)), h.apt⟩
theorem OwnRows.grow {w w' B s rs LL} (h : OwnRows w B s rs LL) (hb : Below w.heap.size w w') : OwnRows w' B s rs LL :=
  h.below hb (fun g hg => (h.out.lt g hg).2) (fun r hr g hg => (h.lt hr hg).2)
theorem OwnSS.grow {w w' B s LL} (h : OwnSS w B s LL) (hb : Below w.heap.size w w') : OwnSS w' B s LL := by obtain ⟨rs, h⟩ := h; exact ⟨rs, h.grow hb⟩
theorem Own.grow {w w' B e s vs} (h : Own w B e s vs) (hb : Below w.heap.size w w') : Own w' B e s vs := h.below hb (fun g hg => (h.lt g hg).2)
theorem OwnRows.heap {w w' B s rs LL} (h : OwnRows w B s rs LL) (hh : w'.heap = w.heap) : OwnRows w' B s rs LL :=
  ⟨h.out.heap hh, h.len, fun i r L e1 e2 => (h.at_ i r L e1 e2).heap hh, h.apt⟩
theorem OwnSS.heap {w w' B s LL} (h : OwnSS w B s LL) (hh : w'.heap = w.heap) : OwnSS w' B s LL := by obtain ⟨rs, h⟩ := h; exact ⟨rs, h.heap hh⟩
theorem OwnRows.mono {w B B' s rs LL} (h : OwnRows w B s rs LL) (hb : B' ≤ B) : OwnRows w B' s rs LL :=
  ⟨h.out.mono hb, h.len, fun i r L e1 e2 => (h.at_ i r L e1 e2).mono hb, h.apt⟩
theorem OwnSS.mono {w B B' s LL} (h : OwnSS w B s LL) (hb : B' ≤ B) : OwnSS w B' s LL := by obtain ⟨rs, h⟩ := h; exact ⟨rs, h.mono hb⟩
theorem OwnRows.nil {w B s} (h : Own w B T_Sint s []) : OwnRows w B s [] [] := ⟨h, rfl, fun i r L e1 => by simp at e1, fun i j r t _ e1 => by simp at e1⟩
theorem OwnSS.nil {w B s} (h : Own w B T_Sint s []) : OwnSS w B s [] := ⟨[], OwnRows.nil h⟩
theorem OwnSS.none (w : World) (B : Nat) : OwnSS w B Sl.nil [] := OwnSS.nil (Own.nil w B _)

theorem getElem?_snoc {α : Type} {l : List α} {x y : α} {i : Nat} (h : (l ++ [x])[i]? = some y) : (i < l.length ∧ l[i]? = some y) ∨ (i = l.length ∧ y = x) := by
  rcases Nat.lt_trichotomy i l.length with h1 | h1 | h1
  · rw [List.getElem?_append_left h1] at h; exact .inl ⟨h1, h⟩
  · subst h1; simp at h; exact .inr ⟨rfl, h.symm⟩
  · rw [List.getElem?_eq_none (by simp; omega)] at h; cases h

/-- One more row, apart from all others. -/
theorem OwnRows.push {w w' B s s' rs LL r L} (h : OwnRows w B s rs LL) (hr : OwnI w B r L) (hap : ∀ t ∈ rs, Apt t r) (ho : Own w' B T_Sint s' (rs.map Sl.v ++ [r.v])) (hg : w.grownBy w' s.blk) :
    OwnRows w' B s' (rs ++ [r]) (LL ++ [L]) := by
  have kept : ∀ t M, OwnI w B t M → OwnI w' B t M := fun t M ht => ht.kept hg (fun g hg' e => (h.out.apt ht (by decide)) g e hg')
  refine ⟨by simpa using ho, by simp [h.len], fun i t M e1 e2 => ?_, fun i j t u hij e1 e2 => ?_⟩
  · have hl := h.len
    rcases getElem?_snoc e1 with ⟨h1, h2⟩ | ⟨h1, rfl⟩
    · rcases getElem?_snoc e2 with ⟨h3, h4⟩ | ⟨h3, rfl⟩
      · exact kept _ _ (h.at_ i t M h2 h4)
      · omega
    · rcases getElem?_snoc e2 with ⟨h3, h4⟩ | ⟨h3, rfl⟩
      · omega
      · exact kept _ _ hr
  · rcases getElem?_snoc e1 with ⟨h1, h2⟩ | ⟨h1, rfl⟩
    · rcases getElem?_snoc e2 with ⟨h3, h4⟩ | ⟨h3, rfl⟩
      · exact h.apt i j t u hij h2 h4
      · exact hap t (List.mem_of_getElem? h2)
    · rcases getElem?_snoc e2 with ⟨h3, h4⟩ | ⟨h3, rfl⟩
      · exact (hap u (List.mem_of_getElem? h4)).symm
      · omega
/-- More rows, apart from all others. -/
theorem OwnRows.pushMany {w w' B s s' s2 rs LL rs2 MM} (h : OwnRows w B s rs LL) (h2 : OwnRows w B s2 rs2 MM) (hap : ∀ t ∈ rs, ∀ r ∈ rs2, Apt t r) (ho : Own w' B T_Sint s' (rs.map Sl.v ++ rs2.map Sl.v)) (hg : w.grownBy w' s.blk) :
    OwnRows w' B s' (rs ++ rs2) (LL ++ MM) := by
  have kept : ∀ t M, OwnI w B t M → OwnI w' B t M := fun t M ht => ht.kept hg (fun g hg' e => (h.out.apt ht (by decide)) g e hg')
  have hl := h.len
  refine ⟨by simpa using ho, by simp [h.len, h2.len], fun i t M e1 e2 => ?_, fun i j t u hij e1 e2 => ?_⟩
  · by_cases hi : i < rs.length
    · rw [List.getElem?_append_left hi] at e1
      rw [List.getElem?_append_left (by omega)] at e2
      exact kept _ _ (h.at_ i t M e1 e2)
    · rw [List.getElem?_append_right (by omega)] at e1
      rw [List.getElem?_append_right (by omega), ← hl] at e2
      exact kept _ _ (h2.at_ (i - rs.length) t M e1 e2)
  · by_cases hi : i < rs.length
    · rw [List.getElem?_append_left hi] at e1
      by_cases hj : j < rs.length
      · rw [List.getElem?_append_left hj] at e2
        exact h.apt i j t u hij e1 e2
      · rw [List.getElem?_append_right (by omega)] at e2
        exact hap t (List.mem_of_getElem? e1) u (List.mem_of_getElem? e2)
    · rw [List.getElem?_append_right (by omega)] at e1
      by_cases hj : j < rs.length
      · rw [List.getElem?_append_left hj] at e2
        exact (hap u (List.mem_of_getElem? e2) t (List.mem_of_getElem? e1)).symm
      · rw [List.getElem?_append_right (by omega)] at e2
        exact h2.apt (i - rs.length) (j - rs.length) t u (by omega) e1 e2
/-- 'append(rows, more...)', the rows behind made later. -/
theorem append_many {w0 w : World} {B : Nat} {s s2 : Sl} {LL MM : List (List Int)} (h0 : OwnSS w0 B s LL) (hb : Below w0.heap.size w0 w) (hB : B ≤ w0.heap.size) (h2 : OwnSS w w0.heap.size s2 MM) (hn : LL.length + MM.length < 2^39) {K : Sl → World → Prop}
    (hk : ∀ s' w', OwnSS w' B s' (LL ++ MM) → w.grownBy w' s.blk → Next w s s' → K s' w') :
    sem1 .sl PP (Builtin.append_ #[T_SSint, T_SSint] T_SSint #[s.v, s2.v]) w K := by
  obtain ⟨rs, h0⟩ := h0
  obtain ⟨rs2, h2⟩ := h2
  have h1 := h0.grow hb
  have hl1 := h1.len
  have hl2 := h2.len
  refine append_row oneSint h1.out (Nat.le_trans hB hb.size) h2.out.row (fun v hv => by obtain ⟨r, _, rfl⟩ := List.mem_map.1 hv; exact One.sl r) (by rw [List.length_map, List.length_map]; omega) ?_
  intro s' w' ho hg hn' _
  exact hk s' w' ⟨_, h1.pushMany (h2.mono hB) (fun t ht r hr => Apt.of_lt (fun g hg => (h0.lt ht hg).2) (fun g hg => (h2.lt hr hg).1)) ho hg⟩ hg hn'
/-- 'append(rows, row)'. -/
theorem append_sl {w : World} {B : Nat} {s : Sl} {rs : List Sl} {LL : List (List Int)} {r : Sl} {L : List Int} (h : OwnRows w B s rs LL) (hB : B ≤ w.heap.size) (hr : OwnI w B r L) (hap : ∀ t ∈ rs, Apt t r) (hn : LL.length < 2^39) {K : Sl → World → Prop}
    (hk : ∀ s' w', OwnRows w' B s' (rs ++ [r]) (LL ++ [L]) → w.grownBy w' s.blk → Next w s s' → K s' w') :
    sem1 .sl PP (Instr.buildSlice T_SSint 1 #[(0, r.v)]) w fun t w1 => sem1 .sl PP (Builtin.append_ #[T_SSint, T_SSint] T_SSint #[s.v, t.v]) w1 K :=
  append_one oneSint h.out hB (One.sl r) (by rw [List.length_map, h.len]; exact hn) fun s' w' h1 h2 h3 => hk s' w' (h.push hr hap h1 h2) h2 h3
/-- 'append(rows, row)', the rows known only to exist, the row made later. -/
theorem append_new {w0 w : World} {B : Nat} {s : Sl} {LL : List (List Int)} {r : Sl} {L : List Int} (h0 : OwnSS w0 B s LL) (hb : Below w0.heap.size w0 w) (hB : B ≤ w0.heap.size) (hr : OwnI w w0.heap.size r L) (hn : LL.length < 2^39) {K : Sl → World → Prop}
    (hk : ∀ s' w', OwnSS w' B s' (LL ++ [L]) → w.grownBy w' s.blk → Next w s s' → K s' w') :
    sem1 .sl PP (Instr.buildSlice T_SSint 1 #[(0, r.v)]) w fun t w1 => sem1 .sl PP (Builtin.append_ #[T_SSint, T_SSint] T_SSint #[s.v, t.v]) w1 K := by
  obtain ⟨rs, h0⟩ := h0
  exact append_sl (h0.grow hb) (Nat.le_trans hB hb.size) (hr.mono hB) (fun t ht => Apt.of_lt (fun g hg => (h0.lt ht hg).2) (fun g hg => (hr.lt g hg).1)) hn fun s' w' h1 h2 h3 => hk s' w' ⟨_, h1⟩ h2 h3
theorem OwnSS.lt {w B s LL} (h : OwnSS w B s LL) : ∀ g, s.blk = some g → B ≤ g ∧ g < w.heap.size := by obtain ⟨rs, h⟩ := h; exact h.out.lt
/-- Another row in a place. -/
theorem OwnRows.set {w w' B s rs LL} (h : OwnRows w B s rs LL) {i : Nat} {r : Sl} {L : List Int} (hr : OwnI w B r L) (hap : ∀ j t, j ≠ i → rs[j]? = some t → Apt t r) (ho : Own w' B T_Sint s ((rs.map Sl.v).set i r.v)) (hg : w.grownBy w' s.blk) :
    OwnRows w' B s (rs.set i r) (LL.set i L) := by
  have kept : ∀ t M, OwnI w B t M → OwnI w' B t M := fun t M ht => ht.kept hg (fun g hg' e => (h.out.apt ht (by decide)) g e hg')
  refine ⟨by simpa [List.map_set] using ho, by simp [h.len], fun j t M e1 e2 => ?_, fun j k t u hjk e1 e2 => ?_⟩
  · rw [List.getElem?_set] at e1 e2
    by_cases hj : i = j
    · subst hj
      rw [if_pos rfl] at e1 e2
      split at e1
      · split at e2
        · simp only [Option.some.injEq] at e1 e2; subst e1 e2; exact kept _ _ hr
        · cases e2
      · cases e1
    · rw [if_neg hj] at e1 e2; exact kept _ _ (h.at_ j t M e1 e2)
  · rw [List.getElem?_set] at e1 e2
    by_cases hj : i = j
    · subst hj
      rw [if_pos rfl] at e1
      rw [if_neg hjk] at e2
      split at e1
      · simp only [Option.some.injEq] at e1; subst e1; exact (hap k u (Ne.symm hjk) e2).symm
      · cases e1
    · rw [if_neg hj] at e1
      by_cases hk : i = k
      · subst hk
        rw [if_pos rfl] at e2
        split at e2
        · simp only [Option.some.injEq] at e2; subst e2; exact hap j t (Ne.symm hj) e1
        · cases e2
      · rw [if_neg hk] at e2; exact h.apt j k t u hjk e1 e2
/-- One row changed where it stands (its block alone was written). -/
theorem OwnRows.inside {w w' B s rs LL} (h : OwnRows w B s rs LL) {i : Nat} {r : Sl} {L : List Int} (hi : rs[i]? = some r) (hr : OwnI w' B r L) (hg : w.grownBy w' r.blk) : OwnRows w' B s rs (LL.set i L) := by
  have hlt : i < LL.length := by have := (List.getElem?_eq_some_iff.1 hi).1; have := h.len; omega
  have hor := h.at_ i r _ hi (List.getElem?_eq_getElem hlt)
  refine ⟨h.out.kept hg fun g hg' e => (h.out.apt hor (by decide)) g hg' e, by simp [h.len], fun j t M e1 e2 => ?_, h.apt⟩
  rw [List.getElem?_set] at e2
  by_cases hj : i = j
  · subst hj
    rw [if_pos rfl, if_pos hlt] at e2
    rw [hi] at e1
    simp only [Option.some.injEq] at e1 e2; subst e1 e2; exact hr
  · rw [if_neg hj] at e2
    exact (h.at_ j t M e1 e2).kept hg fun g hg' e => h.apt i j r t hj hi e1 g e hg'
theorem OwnRows.get {w B s rs LL} (h : OwnRows w B s rs LL) {i : Nat} (hi : i < LL.length) : ∃ r, rs[i]? = some r ∧ OwnI w B r (LL.getD i []) := by
  have hlt : i < rs.length := by have := h.len; omega
  refine ⟨rs[i], List.getElem?_eq_getElem hlt, h.at_ i _ _ (List.getElem?_eq_getElem hlt) ?_⟩
  simp [List.getD_eq_getElem?_getD, List.getElem?_eq_getElem hi]
/-- A row that has moved or grown, stored in its place. -/
theorem OwnRows.setNew {w w5 w6 B s rs LL} (h : OwnRows w B s rs LL) {i : Nat} {t t' : Sl} {L' : List Int} (hi : rs[i]? = some t) (hg : w.grownBy w5 t.blk) (hr : OwnI w5 B t' L') (hn : Next w t t')
    (ho : Own w6 B T_Sint s ((rs.map Sl.v).set i t'.v)) (hg6 : w5.grownBy w6 s.blk) (hsame : s.blk = s.blk) : OwnRows w6 B s (rs.set i t') (LL.set i L') := by
  have hlt : i < LL.length := by have := (List.getElem?_eq_some_iff.1 hi).1; have := h.len; omega
  have hot := h.at_ i t _ hi (List.getElem?_eq_getElem hlt)
  have aptT : ∀ u M, OwnI w5 B u M → ∀ g, u.blk = some g → s.blk ≠ some g := fun u M hu g e1 e2 => by
    have hs5 : Own w5 B T_Sint s (rs.map Sl.v) := h.out.kept hg fun g hg' e => (h.out.apt hot (by decide)) g hg' e
    exact (hs5.apt hu (by decide)) g e2 e1
  have kept6 : ∀ u M, OwnI w5 B u M → OwnI w6 B u M := fun u M hu => hu.kept hg6 (fun g hg' e => aptT u M hu g hg' e)
  refine ⟨by simpa [List.map_set] using ho, by simp [h.len], fun j u M e1 e2 => ?_, fun j k u v hjk e1 e2 => ?_⟩
  · rw [List.getElem?_set] at e1 e2
    by_cases hj : i = j
    · subst hj
      rw [if_pos rfl] at e1 e2
      split at e1
      · split at e2
        · simp only [Option.some.injEq] at e1 e2; subst e1 e2; exact kept6 _ _ hr
        · omega
      · cases e1
    · rw [if_neg hj] at e1 e2
      exact kept6 _ _ ((h.at_ j u M e1 e2).kept hg fun g hg' e => h.apt i j t u hj hi e1 g e hg')
  · have key : ∀ j u, i ≠ j → rs[j]? = some u → Apt t' u := fun j u hij hu => by
      have hju : j < LL.length := by have := (List.getElem?_eq_some_iff.1 hu).1; have := h.len; omega
      have hou := h.at_ j u _ hu (List.getElem?_eq_getElem hju)
      exact (h.apt i j t u hij hi hu).next hn (fun g hg' => (hou.lt g hg').2)
    rw [List.getElem?_set] at e1 e2
    by_cases hj : i = j
    · subst hj
      rw [if_pos rfl] at e1
      rw [if_neg hjk] at e2
      split at e1
      · simp only [Option.some.injEq] at e1; subst e1; exact key k v hjk e2
      · cases e1
    · rw [if_neg hj] at e1
      by_cases hk : i = k
      · subst hk
        rw [if_pos rfl] at e2
        split at e2
        · simp only [Option.some.injEq] at e2; subst e2; exact (key j u hj e1).symm
        · cases e2
      · rw [if_neg hk] at e2; exact h.apt j k u v hjk e1 e2
/-- 'rows[i] = append(rows[i], x)'. -/
theorem OwnRows.appendAt {w B s rs LL} (h : OwnRows w B s rs LL) {i : Int} (h0 : 0 ≤ i) (hi : i < LL.length) (hB : B ≤ w.heap.size) (hlen : (LL.getD i.toNat []).length < 2^39) {x : Int} {K : World → Prop}
    (hk : ∀ w' rs', OwnRows w' B s rs' (LL.set i.toNat (LL.getD i.toNat [] ++ [x])) → Below B w w' → K w') :
    idxK 1 s i fun a => load1 .sl a w fun (t : Sl) => sem1 .sl PP (Instr.buildSlice T_Sint 1 #[(0, vI x)]) w fun (ρ : Sl) w1 => sem1 .sl PP (Builtin.append_ #[T_Sint, T_Sint] T_Sint #[t.v, ρ.v]) w1 fun (t' : Sl) w2 =>
      idxK 1 s i fun a2 => storeC a2 t'.v w2 K := by
  obtain ⟨t, h1, h2⟩ := h.get (i := i.toNat) (by omega)
  refine Row.get (sh := .sl) (r := t) h.out.row h0 (by rw [List.getElem?_map, h1]; rfl) ?_
  refine append_int h2 hB hlen ?_
  intro t' w5 ht' hg5 hn5
  have hs5 : Own w5 B T_Sint s (rs.map Sl.v) := h.out.kept hg5 fun g hg' e => (h.out.apt h2 (by decide)) g hg' e
  refine Own.put hs5 h0 (by rw [List.length_map, h.len]; exact hi) (v := t'.v) ?_
  intro w6 ho6 hg6 _
  refine hk w6 _ (h.setNew h1 hg5 ht' hn5 ho6 hg6 rfl) ?_
  have hb5 : Below B w w5 := (Below.refl _ _).grown hg5 hB (fun g hg => (h2.lt g hg).1)
  exact hb5.grown hg6 (Nat.le_trans hB hg5.size) (fun g hg => (hs5.lt g hg).1)
/-- Loading one of the rows. -/
theorem OwnRows.load {w B s rs LL} (h : OwnRows w B s rs LL) {i : Int} (h0 : 0 ≤ i) (hi : i < LL.length) {K : Sl → Prop} (hk : ∀ r, rs[i.toNat]? = some r → OwnI w B r (LL.getD i.toNat []) → K r) : idxK 1 s i fun a => load1 .sl a w K := by
  obtain ⟨r, h1, h2⟩ := h.get (i := i.toNat) (by omega)
  exact Row.get (sh := .sl) (r := r) h.out.row h0 (by rw [List.getElem?_map, h1]; rfl) (hk r h1 h2)
end Go.Proofs.YtlcemelmnkipmaaGreat
