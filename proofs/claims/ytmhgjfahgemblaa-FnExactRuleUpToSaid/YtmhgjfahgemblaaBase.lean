/- An evaluator of the model's code over an environment of slots, proved sound. -/
import Derived.WalkKit
import Derived.Deep.Quiet
namespace Go.Proofs.Ytmhgjfahgemblaa
open Go
set_option linter.unusedVariables false

/-! ### Typed values -/
structure Sl where
  a : Option Addr
  n : Nat
  c : Nat
@[reducible] def Sl.v (s : Sl) : Value := .slice s.a s.n s.c
def Sl.nil : Sl := ⟨none, 0, 0⟩
/-- What 's[l:h]' is, each element 'size' cells. -/
def Sl.cut (size : Nat) (s : Sl) (l h : Nat) : Sl := ⟨if s.c = l then s.a else s.a.map (·.add (l * size)), h - l, s.c - l⟩

inductive Sh where
  | int (k : IntKind) | bool | str | sl | ptr | map | any
@[reducible] def Sh.T : Sh → Type
  | .int _ => Int
  | .bool => Bool
  | .str => ByteArray
  | .sl => Sl
  | .ptr => Option Addr
  | .map => Option Nat
  | .any => Value
@[reducible] def Sh.enc : (s : Sh) → s.T → Value
  | .int k, n => .int k n
  | .bool, b => .bool b
  | .str, s => .string s
  | .sl, s => .slice s.a s.n s.c
  | .ptr, a => .pointer a
  | .map, r => .map r
  | .any, v => v
def shOf (P : Program) (t : TypeId) : Sh :=
  match P.underlying t with
  | some .bool => .bool
  | some (.int k) => .int k
  | some .string => .str
  | some (.slice _) => .sl
  | some (.pointer _) => .ptr
  | some (.map _ _) => .map
  | _ => .any
/-- Is a value of the type one cell? -/
def oneB (P : Program) (t : TypeId) : Bool :=
  match P.underlying t with
  | some (.struct _) | some (.array _ _) => false
  | some _ => true
  | none => false
def szK (P : Program) (t : TypeId) (K : Nat → Prop) : Prop :=
  match P.info? t with
  | some i => K i.size
  | none => False

/-! ### Environments -/
abbrev Env := List (Nat × Value)
def Env.get : Env → Nat → Option Value
  | [], _ => none
  | p :: r, i => bif Nat.beq p.1 i then some p.2 else Env.get r i
def Env.ev (e : Env) : Operand → Option Value
  | .tmp t => Env.get e t
  | .const v => some v
  | .global g => some (.pointer (some ⟨g, 0, none⟩))
  | .func f => some (.func (.func f) #[] #[])
def Env.evs (e : Env) : List Operand → Option (List Value)
  | [] => some []
  | x :: r => match Env.ev e x with
    | some v => match Env.evs e r with
      | some vs => some (v :: vs)
      | none => none
    | none => none
def Env.parts (e : Env) : List (Nat × Operand) → Option (List (Nat × Value))
  | [] => some []
  | x :: r => match Env.ev e x.2 with
    | some v => match Env.parts e r with
      | some vs => some ((x.1, v) :: vs)
      | none => none
    | none => none
def Env.restr (e : Env) : List Nat → Env
  | [] => []
  | i :: r => match Env.get e i with
    | some v => (i, v) :: Env.restr e r
    | none => Env.restr e r
def putE (N : Nat) (e : Env) (dst : Option Tmp) (v : Value) : Env :=
  match dst with
  | some d => bif Nat.blt d N then (d, v) :: e else e
  | none => e

structure Fits (N : Nat) (a : Act) (e : Env) : Prop where
  size : a.tmps.size = N
  defers : a.defers = []
  at_ : ∀ i v, Env.get e i = some v → a.tmps[i]? = some v

theorem Fits.ev {N : Nat} {a : Act} {e : Env} (h : Fits N a e) {x : Operand} {v : Value} (hx : Env.ev e x = some v) : a.eval x = v := by
  cases x with
  | tmp t => simp only [Env.ev] at hx; have := h.at_ t v hx; simp [Act.eval, Array.getD_eq_getD_getElem?, this]
  | const c => simp only [Env.ev, Option.some.injEq] at hx; simp [Act.eval, hx]
  | global g => simp only [Env.ev, Option.some.injEq] at hx; simp [Act.eval, hx]
  | func f => simp only [Env.ev, Option.some.injEq] at hx; simp [Act.eval, hx]
theorem Fits.evs {N : Nat} {a : Act} {e : Env} (h : Fits N a e) : ∀ {l : List Operand} {vs : List Value}, Env.evs e l = some vs → l.map a.eval = vs
  | [], vs, hv => by simp only [Env.evs, Option.some.injEq] at hv; simp [← hv]
  | x :: r, vs, hv => by
    simp only [Env.evs] at hv
    split at hv
    · rename_i v hx
      split at hv
      · rename_i us hr
        simp only [Option.some.injEq] at hv
        subst hv
        simp [h.ev hx, h.evs hr]
      · cases hv
    · cases hv
theorem Fits.parts {N : Nat} {a : Act} {e : Env} (h : Fits N a e) : ∀ {l : List (Nat × Operand)} {vs : List (Nat × Value)}, Env.parts e l = some vs → l.map (fun p => (p.1, a.eval p.2)) = vs
  | [], vs, hv => by simp only [Env.parts, Option.some.injEq] at hv; simp [← hv]
  | x :: r, vs, hv => by
    simp only [Env.parts] at hv
    split at hv
    · rename_i v hx
      split at hv
      · rename_i us hr
        simp only [Option.some.injEq] at hv
        subst hv
        simp [h.ev hx, h.parts hr]
      · cases hv
    · cases hv
theorem get_cons (p : Nat × Value) (r : Env) (i : Nat) : Env.get (p :: r) i = if p.1 = i then some p.2 else Env.get r i := by
  simp only [Env.get]
  by_cases h : p.1 = i
  · simp [h]
  · have : Nat.beq p.1 i = false := by
      cases hb : Nat.beq p.1 i
      · rfl
      · exact absurd (Nat.eq_of_beq_eq_true hb) h
    simp [h, this]
theorem Fits.put {N : Nat} {a : Act} {e : Env} (h : Fits N a e) (dst : Option Tmp) (v : Value) : Fits N (a.put dst v) (putE N e dst v) := by
  cases dst with
  | none => exact h
  | some d =>
    simp only [Act.put, putE]
    by_cases hd : d < N
    · have : Nat.blt d N = true := by simp [Nat.blt_eq, hd]
      rw [this]
      refine ⟨by simp [h.size], h.defers, fun i u hi => ?_⟩
      simp only [cond_true] at hi
      rw [get_cons] at hi
      by_cases hdi : d = i
      · subst hdi
        simp only [if_true, Option.some.injEq] at hi
        subst hi
        simp [h.size, hd]
      · simp only [hdi, if_false] at hi
        rw [Array.getElem?_setIfInBounds_ne (fun hh => hdi hh)]
        exact h.at_ i u hi
    · have hb : Nat.blt d N = false := by
        cases hb : Nat.blt d N
        · rfl
        · exact absurd (by simpa using hb) hd
      rw [hb]
      refine ⟨by simp [h.size], h.defers, fun i u hi => ?_⟩
      simp only [cond_false] at hi
      have hi' := h.at_ i u hi
      have this : i < a.tmps.size := (Array.getElem?_eq_some_iff.1 hi').1
      have hne : d ≠ i := fun hh => hd (by rw [hh, ← h.size]; exact this)
      rw [Array.getElem?_setIfInBounds_ne hne]
      exact hi'
theorem Fits.set {N : Nat} {a : Act} {e : Env} (h : Fits N a e) {d : Nat} {v : Value} (hv : Env.get e d = some v) : Fits N a ((d, v) :: e) :=
  ⟨h.size, h.defers, fun i u hi => by
    rw [get_cons] at hi
    by_cases hdi : d = i
    · subst hdi
      simp only [if_true, Option.some.injEq] at hi
      subst hi
      exact h.at_ _ _ hv
    · simp only [hdi, if_false] at hi
      exact h.at_ i u hi⟩
theorem get_restr {e : Env} : ∀ {l : List Nat} {i : Nat} {v : Value}, Env.get (Env.restr e l) i = some v → Env.get e i = some v
  | [], i, v, h => by simp [Env.restr, Env.get] at h
  | j :: r, i, v, h => by
    simp only [Env.restr] at h
    split at h
    · rename_i u hj
      rw [get_cons] at h
      by_cases hji : j = i
      · subst hji; simp only [if_true, Option.some.injEq] at h; subst h; exact hj
      · simp only [hji, if_false] at h; exact get_restr h
    · exact get_restr h
theorem Fits.restr {N : Nat} {a : Act} {e : Env} (h : Fits N a e) (l : List Nat) : Fits N a (Env.restr e l) :=
  ⟨h.size, h.defers, fun i v hi => h.at_ i v (get_restr hi)⟩

@[reducible] def vI (n : Int) : Value := .int .i64 n
/-- A sum of ints as Go reckons it. -/
def w64 (n : Int) : Int := IntKind.i64.wrap n
/-- 's[i]''s place. -/
def idxK (size : Nat) (s : Sl) (i : Int) (K : Addr → Prop) : Prop :=
  ∃ a, s.a = some a ∧ 0 ≤ i ∧ i < s.n ∧ K (a.add (i.toNat * size))
/-- 's[i]', s a string. -/
def strIdxK (s : ByteArray) (i : Int) (K : Int → Prop) : Prop :=
  ∃ b : UInt8, 0 ≤ i ∧ s[i.toNat]? = some b ∧ K (b.toNat : Int)
/-- 's[l:h]' of a slice (without h: up to the length). -/
def cutK (size : Nat) (s : Sl) (lo hi : Option Int) (K : Sl → Prop) : Prop :=
  0 ≤ lo.getD 0 ∧ lo.getD 0 ≤ hi.getD s.n ∧ hi.getD s.n ≤ s.c ∧ K (s.cut size (lo.getD 0).toNat (hi.getD s.n).toNat)
/-- 's[l:h:m]'. -/
def cut3K (size : Nat) (s : Sl) (lo : Option Int) (hi mx : Int) (K : Sl → Prop) : Prop :=
  0 ≤ lo.getD 0 ∧ lo.getD 0 ≤ hi ∧ hi ≤ mx ∧ mx ≤ s.c ∧ K ⟨if mx.toNat = (lo.getD 0).toNat then s.a else s.a.map (·.add ((lo.getD 0).toNat * size)), hi.toNat - (lo.getD 0).toNat, mx.toNat - (lo.getD 0).toNat⟩
def strCutK (s : ByteArray) (lo hi : Option Int) (K : ByteArray → Prop) : Prop :=
  0 ≤ lo.getD 0 ∧ lo.getD 0 ≤ hi.getD s.size ∧ hi.getD s.size ≤ s.size ∧ K (s.extract (lo.getD 0).toNat (hi.getD s.size).toNat)
/-- A struct's or an array's value, put together. -/
def buildK (P : Program) (t : TypeId) (parts : List (Nat × Value)) (K : Value → Prop) : Prop :=
  ∃ v, (∀ w, (Instr.build t parts.toArray).run P w = .ok v w) ∧ K v
/-- A load of one cell, by the type's shape; of a struct or an array: whole. -/
def load1 (s : Sh) (ad : Addr) (w : World) (K : s.T → Prop) : Prop := ∃ r : s.T, w.cell? ad = some (s.enc r) ∧ K r
def loadA (P : Program) (t : TypeId) (ad : Addr) (w : World) (K : Value → Prop) : Prop := ∃ v, (∀ w', w'.heap = w.heap → (loadVar t ad).run P w' = .ok v w') ∧ K v
def sem1 (s : Sh) (P : Program) (m : Sem Value) (w : World) (K : s.T → World → Prop) : Prop := ∃ r w', m.run P w = .ok (s.enc r) w' ∧ K r w'
def sem2 (s1 s2 : Sh) (P : Program) (m : Sem Value) (w : World) (K : s1.T → s2.T → World → Prop) : Prop := ∃ r1 r2 w', m.run P w = .ok (.tuple #[s1.enc r1, s2.enc r2]) w' ∧ K r1 r2 w'
def sem3 (s1 s2 s3 : Sh) (P : Program) (m : Sem Value) (w : World) (K : s1.T → s2.T → s3.T → World → Prop) : Prop := ∃ r1 r2 r3 w', m.run P w = .ok (.tuple #[s1.enc r1, s2.enc r2, s3.enc r3]) w' ∧ K r1 r2 r3 w'
def sem0 (P : Program) (m : Sem Unit) (w : World) (K : World → Prop) : Prop := ∃ w', m.run P w = .ok () w' ∧ K w'
def Ret0 (K : World → Prop) (e : Ending) (w : World) : Prop := e = .returned (.tuple #[]) ∧ K w
def Ret1 (s : Sh) (K : s.T → World → Prop) (e : Ending) (w : World) : Prop := ∃ r, e = .returned (s.enc r) ∧ K r w
def Ret2 (s1 s2 : Sh) (K : s1.T → s2.T → World → Prop) (e : Ending) (w : World) : Prop := ∃ r1 r2, e = .returned (.tuple #[s1.enc r1, s2.enc r2]) ∧ K r1 r2 w
def Ret3 (s1 s2 s3 : Sh) (K : s1.T → s2.T → s3.T → World → Prop) (e : Ending) (w : World) : Prop := ∃ r1 r2 r3, e = .returned (.tuple #[s1.enc r1, s2.enc r2, s3.enc r3]) ∧ K r1 r2 r3 w
def call0 (P : Program) (f : FuncId) (args : Array Value) (w : World) (K : World → Prop) : Prop := Calls P f args w (Ret0 K)
def call1 (s : Sh) (P : Program) (f : FuncId) (args : Array Value) (w : World) (K : s.T → World → Prop) : Prop := Calls P f args w (Ret1 s K)
def call2 (s1 s2 : Sh) (P : Program) (f : FuncId) (args : Array Value) (w : World) (K : s1.T → s2.T → World → Prop) : Prop := Calls P f args w (Ret2 s1 s2 K)
def call3 (s1 s2 s3 : Sh) (P : Program) (f : FuncId) (args : Array Value) (w : World) (K : s1.T → s2.T → s3.T → World → Prop) : Prop := Calls P f args w (Ret3 s1 s2 s3 K)
/-- A call of a function that only reckons with its arguments: the same in every world. -/
def pcall1 (s : Sh) (P : Program) (f : FuncId) (args : Array Value) (K : s.T → Prop) : Prop :=
  ∃ r : s.T, (∀ w, Calls P f args w fun e w' => e = .returned (s.enc r) ∧ w' = w) ∧ K r
/-- A region that draws its order, whose operations read and call quietly alone: one walk in the order of the text; what stands behind it is asked in every world after some draws. -/
def Drew (w w' : World) : Prop := ∃ n, w' = w.drewN n
def qcall1 (s : Sh) (P : Program) (f : FuncId) (args : Array Value) (w : World) (K : s.T → Prop) : Prop :=
  ∃ r : s.T, (∀ w', Drew w w' → Calls P f args w' fun e w'' => e = .returned (s.enc r) ∧ Drew w' w'') ∧ K r
def newK (t : TypeId) (cells : Array Value) (w : World) (K : Addr → World → Prop) : Prop := K ⟨w.heap.size, 0, none⟩ (w.alloc (.cells cells t))
def storeC (ad : Addr) (v : Value) (w : World) (K : World → Prop) : Prop := (∃ u, w.cell? ad = some u) ∧ w.frozen? ad = false ∧ K (w.setCell ad v)
def drewAll (w : World) (K : World → Prop) : Prop := ∀ w', Drew w w' → K w'
/-- A call of a function that the model itself answers, one result. -/
def ext1 (s : Sh) (P : Program) (f : FuncId) (args : Array Value) (w : World) (K : s.T → World → Prop) : Prop := ∃ r w', (callFunc f args).run P w = .ok (.value (s.enc r)) w' ∧ K r w'
def bodied (P : Program) (f : FuncId) : Bool :=
  match P.funcs[f]? with
  | some fn => fn.body.isSome
  | none => false
/-- A call of a function value, one result. -/
def callV1 (s : Sh) (P : Program) (fv : Value) (args : List Value) (w : World) (K : s.T → World → Prop) : Prop :=
  ∃ f first cap, fv = .func (.func f) first cap ∧ bodied P f = true ∧ call1 s P f ((first ++ args.toArray) ++ cap) w K
/-- The words of the text, as one record: the equations between the evaluator and the text hold for whatever they are. -/
structure Prims where
  idxK : Nat → Sl → Int → (Addr → Prop) → Prop
  strIdxK : ByteArray → Int → (Int → Prop) → Prop
  cutK : Nat → Sl → Option Int → Option Int → (Sl → Prop) → Prop
  strCutK : ByteArray → Option Int → Option Int → (ByteArray → Prop) → Prop
  buildK : Program → TypeId → List (Nat × Value) → (Value → Prop) → Prop
  load1 : (s : Sh) → Addr → World → (s.T → Prop) → Prop
  loadA : Program → TypeId → Addr → World → (Value → Prop) → Prop
  sem0 : Program → Sem Unit → World → (World → Prop) → Prop
  sem1 : (s : Sh) → Program → Sem Value → World → (s.T → World → Prop) → Prop
  sem2 : (s1 s2 : Sh) → Program → Sem Value → World → (s1.T → s2.T → World → Prop) → Prop
  sem3 : (s1 s2 s3 : Sh) → Program → Sem Value → World → (s1.T → s2.T → s3.T → World → Prop) → Prop
  call0 : Program → FuncId → Array Value → World → (World → Prop) → Prop
  call1 : (s : Sh) → Program → FuncId → Array Value → World → (s.T → World → Prop) → Prop
  call2 : (s1 s2 : Sh) → Program → FuncId → Array Value → World → (s1.T → s2.T → World → Prop) → Prop
  call3 : (s1 s2 s3 : Sh) → Program → FuncId → Array Value → World → (s1.T → s2.T → s3.T → World → Prop) → Prop
  callV1 : (s : Sh) → Program → Value → List Value → World → (s.T → World → Prop) → Prop
  pcall1 : (s : Sh) → Program → FuncId → Array Value → (s.T → Prop) → Prop
  qcall1 : (s : Sh) → Program → FuncId → Array Value → World → (s.T → Prop) → Prop
  newK : TypeId → Array Value → World → (Addr → World → Prop) → Prop
  storeC : Addr → Value → World → (World → Prop) → Prop
  drewAll : World → (World → Prop) → Prop
  seg : (Env → World → Prop) → Env → World → Prop
  loop : ((Env → World → Prop) → Env → World → Prop) → Env → World → Prop
  cut3K : Nat → Sl → Option Int → Int → Int → (Sl → Prop) → Prop
  ext1 : (s : Sh) → Program → FuncId → Array Value → World → (s.T → World → Prop) → Prop
/-- A loop: what is alive at its head told by a state 's', an invariant over it, a measure. -/
def LoopE (step : (Env → World → Prop) → Env → World → Prop) (e : Env) (w : World) : Prop :=
  ∃ (σ : Type) (emb : σ → Env) (I : σ → World → Prop) (μ : σ → World → Nat) (s0 : σ), e = emb s0 ∧ I s0 w ∧
    ∀ s w, I s w → step (fun e' w' => ∃ s', e' = emb s' ∧ I s' w' ∧ μ s' w' < μ s w) (emb s) w
@[reducible] def std : Prims := ⟨idxK, strIdxK, cutK, strCutK, buildK, load1, loadA, sem0, sem1, sem2, sem3, call0, call1, call2, call3, callV1, pcall1, qcall1, newK, storeC, drewAll, fun k e w => k e w, LoopE, cut3K, ext1⟩

/-! ### Operations that leave the world alone -/
def ev1 (e : Env) (x : Operand) (K : Value → Prop) : Prop :=
  match Env.ev e x with
  | some v => K v
  | none => False
def ev2 (e : Env) (x y : Operand) (K : Value → Value → Prop) : Prop :=
  match Env.ev e x with
  | some u => match Env.ev e y with
    | some v => K u v
    | none => False
  | none => False
def intOpK (op : BinOp) (k : IntKind) (a b : Int) (K : Value → Prop) : Prop :=
  match op with
  | .add => K (.int k (k.wrap (a + b)))
  | .sub => K (.int k (k.wrap (a - b)))
  | .mul => K (.int k (k.wrap (a * b)))
  | .quo => b ≠ 0 ∧ K (.int k (k.wrap (a.tdiv b)))
  | .rem => b ≠ 0 ∧ K (.int k (a.tmod b))
  | .and => K (.int k (k.wrap (BitVec.ofInt k.bits a &&& BitVec.ofInt k.bits b).toNat))
  | .or => K (.int k (k.wrap (BitVec.ofInt k.bits a ||| BitVec.ofInt k.bits b).toNat))
  | .xor => K (.int k (k.wrap (BitVec.ofInt k.bits a ^^^ BitVec.ofInt k.bits b).toNat))
  | .andNot => K (.int k (k.wrap (BitVec.ofInt k.bits a &&& ~~~ BitVec.ofInt k.bits b).toNat))
  | .eql => K (.bool (a == b))
  | .neq => K (.bool (a != b))
  | .lss => K (.bool (decide (a < b)))
  | .leq => K (.bool (decide (a ≤ b)))
  | .gtr => K (.bool (decide (a > b)))
  | .geq => K (.bool (decide (a ≥ b)))
  | .shl => 0 ≤ b ∧ K (.int k (k.wrap (a * 2 ^ (min b.toNat k.bits))))
  | .shr => 0 ≤ b ∧ K (.int k (a.fdiv (2 ^ (min b.toNat k.bits))))
def strOpK (op : BinOp) (a b : ByteArray) (K : Value → Prop) : Prop :=
  match op with
  | .add => ((a.size + b.size : Nat) : Int) ≤ IntKind.i64.max ∧ K (.string (a ++ b))
  | .eql => K (.bool (a.toList == b.toList))
  | .neq => K (.bool (!(a.toList == b.toList)))
  | .lss => K (.bool (Op.bytesLess a.toList b.toList))
  | .leq => K (.bool (Op.bytesLess a.toList b.toList || a.toList == b.toList))
  | .gtr => K (.bool (!(Op.bytesLess a.toList b.toList || a.toList == b.toList)))
  | .geq => K (.bool (!Op.bytesLess a.toList b.toList))
  | _ => False
def isShift : BinOp → Bool
  | .shl | .shr => true
  | _ => false
def binK (P : Program) (op : BinOp) (t : TypeId) (u v : Value) (K : Value → Prop) : Prop :=
  match u, v with
  | .int k a, .int k' b => bif isShift op then intOpK op k a b K else (if k = k' then intOpK op k a b K else False)
  | .string a, .string b => strOpK op a b K
  | .bool a, .bool b => match P.underlying t, op with
    | some .bool, .eql => K (.bool (a == b))
    | some .bool, .neq => K (.bool (!(a == b)))
    | _, _ => False
  | .slice a _ _, .slice none 0 0 => match P.underlying t, op with
    | some (.slice _), .eql => K (.bool a.isNone)
    | some (.slice _), .neq => K (.bool (!a.isNone))
    | _, _ => False
  | _, _ => False
def unK (op : UnOp) (v : Value) (K : Value → Prop) : Prop :=
  match op, v with
  | .not, .bool b => K (.bool (!b))
  | .neg, .int k n => K (.int k (k.wrap (0 - n)))
  | _, _ => False
def lenK (P : Program) (t : TypeId) (v : Value) (K : Value → Prop) : Prop :=
  match P.underlying t, v with
  | some .string, .string s => K (.int .i64 s.size)
  | some (.slice _), .slice _ n _ => K (.int .i64 n)
  | _, _ => False
def max2K (u v : Value) (K : Value → Prop) : Prop :=
  match u, v with
  | .int k x, .int _ y => K (.int k (if y > x then y else x))
  | _, _ => False
def min2K (u v : Value) (K : Value → Prop) : Prop :=
  match u, v with
  | .int k x, .int _ y => K (.int k (if y < x then y else x))
  | _, _ => False
def optInt (e : Env) : Option Operand → Option (Option Int)
  | none => some none
  | some x => match Env.ev e x with
    | some (.int _ n) => some (some n)
    | _ => none
def cutVK (pr : Prims) (P : Program) (t : TypeId) (v : Value) (lo hi : Option Int) (K : Value → Prop) : Prop :=
  match P.underlying t, v with
  | some (.slice el), .slice a n c => szK P el fun z => pr.cutK z ⟨a, n, c⟩ lo hi (fun s => K s.v)
  | some .string, .string s => pr.strCutK s lo hi (fun s => K (.string s))
  | _, _ => False
def cut3VK (pr : Prims) (P : Program) (t : TypeId) (v : Value) (lo : Option Int) (hi mx : Int) (K : Value → Prop) : Prop :=
  match P.underlying t, v with
  | some (.slice el), .slice a n c => szK P el fun z => pr.cut3K z ⟨a, n, c⟩ lo hi mx (fun s => K s.v)
  | _, _ => False
def capK (P : Program) (t : TypeId) (v : Value) (K : Value → Prop) : Prop :=
  match P.underlying t, v with
  | some (.slice _), .slice _ _ c => K (.int .i64 c)
  | _, _ => False
def idxVK (pr : Prims) (P : Program) (t : TypeId) (v i : Value) (K : Value → Prop) : Prop :=
  match P.underlying t, v, i with
  | some (.slice el), .slice a n c, .int _ i => szK P el fun z => pr.idxK z ⟨a, n, c⟩ i (fun ad => K (.pointer (some ad)))
  | _, _, _ => False
def strIdxVK (pr : Prims) (P : Program) (t : TypeId) (v i : Value) (K : Value → Prop) : Prop :=
  match P.underlying t, v, i with
  | some .string, .string s, .int _ i => pr.strIdxK s i (fun b => K (.int .u8 b))
  | _, _, _ => False
def convK (P : Program) (src dst : TypeId) (v : Value) (K : Value → Prop) : Prop :=
  match P.underlying src, P.underlying dst, v with
  | some _, some (.int k), .int _ n => K (.int k (k.wrap n))
  | some .string, some .string, .string s => K (.string s)
  | _, _, _ => False
def fieldK (P : Program) (s : TypeId) (f : Nat) (v : Value) (K : Value → Prop) : Prop :=
  match P.underlying s, v with
  | some (.struct fields), .pointer (some a) => match fields[f]? with
    | some fd => szK P fd.type fun z => bif Nat.beq z 0 then False else K (.pointer (some (a.add fd.offset)))
    | none => False
  | _, _ => False
def nilK (v : Value) (K : Value → Prop) : Prop :=
  match v with
  | .pointer (some a) => K (.pointer (some a))
  | _ => False
def bAnd (k : IntKind) (a b : Int) : Int := k.wrap (BitVec.ofInt k.bits a &&& BitVec.ofInt k.bits b).toNat
def bOr (k : IntKind) (a b : Int) : Int := k.wrap (BitVec.ofInt k.bits a ||| BitVec.ofInt k.bits b).toNat
def bXor (k : IntKind) (a b : Int) : Int := k.wrap (BitVec.ofInt k.bits a ^^^ BitVec.ofInt k.bits b).toNat
def bAndNot (k : IntKind) (a b : Int) : Int := k.wrap (BitVec.ofInt k.bits a &&& ~~~ BitVec.ofInt k.bits b).toNat
def sShl (k : IntKind) (a b : Int) : Int := k.wrap (a * 2 ^ (min b.toNat k.bits))
def sShr (k : IntKind) (a b : Int) : Int := a.fdiv (2 ^ (min b.toNat k.bits))
def loadK (pr : Prims) (P : Program) (t : TypeId) (ad : Addr) (w : World) (K : Value → Prop) : Prop :=
  bif oneB P t then pr.load1 (shOf P t) ad w (fun r => K ((shOf P t).enc r)) else pr.loadA P t ad w K
def pureK (pr : Prims) (P : Program) (e : Env) (o : Oper) (w : World) (K : Value → Prop) : Prop :=
  match o.op with
  | .move x => ev1 e x K
  | .assign x => ev1 e x K
  | .pick c a b => ev1 e c fun v => match v with
    | .bool t => bif t then ev1 e a K else ev1 e b K
    | _ => False
  | .binOp op t x y _ => ev2 e x y fun u v => binK P op t u v K
  | .unOp op _ x => ev1 e x fun v => unK op v K
  | .extract x i => ev1 e x fun v => match v with
    | .tuple vs => match vs[i]? with
      | some u => K u
      | none => False
    | _ => False
  | .call c => match c.callee, c.args.toList, c.argTypes.toList with
    | .builtin .len, [x], [t] => ev1 e x fun v => lenK P t v K
    | .builtin .cap, [x], [t] => ev1 e x fun v => capK P t v K
    | .builtin .max, [x, y], _ => ev2 e x y fun u v => max2K u v K
    | .builtin .min, [x, y], _ => ev2 e x y fun u v => min2K u v K
    | _, _, _ => False
  | .indexAddr t x i => ev2 e x i fun v n => idxVK pr P t v n K
  | .index t x i => ev2 e x i fun v n => strIdxVK pr P t v n K
  | .slice t x lo hi mx => match mx, optInt e lo, optInt e hi with
    | none, some lo, some hi => ev1 e x fun v => cutVK pr P t v lo hi K
    | some m, some lo, some (some hi) => match Env.ev e m with
      | some (.int _ m) => ev1 e x fun v => cut3VK pr P t v lo hi m K
      | _ => False
    | _, _, _ => False
  | .fieldAddr s x f => ev1 e x fun v => fieldK P s f v K
  | .convert src dst x => ev1 e x fun v => convK P src dst v K
  | .nilCheck x => ev1 e x fun v => nilK v K
  | .makeFunc fn first cap => match Env.evs e first.toList, Env.evs e cap.toList with
    | some f, some c => K (.func fn f.toArray c.toArray)
    | _, _ => False
  | .build t parts => match Env.parts e parts.toList with
    | some ps => pr.buildK P t ps K
    | none => False
  | .load t x => ev1 e x fun v => match v with
    | .pointer (some ad) => loadK pr P t ad w K
    | _ => False
  | _ => False

def isLoad (o : Oper) : Bool :=
  match o.op with
  | .load .. => true
  | _ => false
/-- What a pure operation does: one value, in every world (a load: in every world of this heap), and the world as it was. -/
def Yields (P : Program) (o : Oper) (a : Act) (w : World) (v : Value) : Prop :=
  ∀ w', (isLoad o = true → w'.heap = w.heap) → (execOp a.eval o).run P w' = .ok (.value v) w'
theorem ev1_sound {N : Nat} {a : Act} {e : Env} (hf : Fits N a e) {x : Operand} {K : Value → Prop} (h : ev1 e x K) : K (a.eval x) := by
  unfold ev1 at h
  split at h
  · rename_i v hv; rw [hf.ev hv]; exact h
  · exact h.elim
theorem ev2_sound {N : Nat} {a : Act} {e : Env} (hf : Fits N a e) {x y : Operand} {K : Value → Value → Prop} (h : ev2 e x y K) : K (a.eval x) (a.eval y) := by
  unfold ev2 at h
  split at h
  · rename_i v hv
    split at h
    · rename_i u hu; rw [hf.ev hv, hf.ev hu]; exact h
    · exact h.elim
  · exact h.elim
theorem intOp_run (P : Program) (op : BinOp) (t : TypeId) (k : IntKind) (x y : Operand) (a b : Int) (K : Value → Prop) (hs : isShift op = false) (h : intOpK op k a b K) :
    ∃ v, K v ∧ ∀ w : World, ((do eqGuard op t x y (.int k a) (.int k b); binOp op t (.int k a) (.int k b)) : Sem Value).run P w = .ok v w := by
  cases op <;> simp only [intOpK] at h <;> first
    | (simp [isShift] at hs; done)
    | exact ⟨_, h, fun w => by simp [eqGuard, binOp, Op.intArith, Op.intBits, Op.intCmp]⟩
    | (obtain ⟨h0, h1⟩ := h; exact ⟨_, h1, fun w => by simp [eqGuard, binOp, Op.intDiv, h0]⟩)
theorem shOp_run (P : Program) (op : BinOp) (t : TypeId) (k k' : IntKind) (x y : Operand) (a b : Int) (K : Value → Prop) (hs : isShift op = true) (h : intOpK op k a b K) :
    ∃ v, K v ∧ ∀ w : World, ((do eqGuard op t x y (.int k a) (.int k' b); binOp op t (.int k a) (.int k' b)) : Sem Value).run P w = .ok v w := by
  cases op <;> simp only [isShift, Bool.false_eq_true] at hs <;> simp only [intOpK] at h <;>
    (obtain ⟨h0, h1⟩ := h; exact ⟨_, h1, fun w => by simp [eqGuard, binOp, Op.shift, show ¬ b < 0 by omega]⟩)
theorem strOp_run (P : Program) (op : BinOp) (t : TypeId) (x y : Operand) (a b : ByteArray) (K : Value → Prop) (h : strOpK op a b K) :
    ∃ v, K v ∧ ∀ w : World, ((do eqGuard op t x y (.string a) (.string b); binOp op t (.string a) (.string b)) : Sem Value).run P w = .ok v w := by
  cases op <;> simp only [strOpK] at h <;> first
    | (exfalso; exact h)
    | exact ⟨_, h, fun w => by simp [eqGuard, binOp, Op.stringOp]⟩
    | (obtain ⟨h0, h1⟩ := h; exact ⟨_, h1, fun w => by
        have h2 : ((a.size + b.size : Nat) : Int) ≤ 9223372036854775807 := h0
        simp [eqGuard, binOp, Op.stringOp]; omega⟩)
theorem equalIn_bool (P : Program) (w : World) {t : TypeId} (hu : P.underlying t = some .bool) (d : Nat) (a b : Bool) : (Op.equalIn (d + 1) t (.bool a) (.bool b)).run P w = .ok (a == b) w := by
  simp [Op.equalIn, run_underlying hu]
theorem equalIn_nil (P : Program) (w : World) {t el : TypeId} (hu : P.underlying t = some (.slice el)) (d : Nat) (a : Option Addr) (n c : Nat) :
    (Op.equalIn (d + 1) t (.slice a n c) (.slice none 0 0)).run P w = .ok a.isNone w := by
  cases a <;> simp [Op.equalIn, run_underlying hu]
theorem equal_run {P : Program} {w : World} {t : TypeId} {x y : Value} {r : Bool} (h : ∀ d, (Op.equalIn (d + 1) t x y).run P w = .ok r w) : (Op.equal t x y).run P w = .ok r w := h 9999
theorem eqlV_run (P : Program) (w : World) (t : TypeId) (x y : Operand) (u v : Value) (r : Bool) (hg : (eqGuard .eql t x y u v).run P w = .ok () w) (hb : binOp .eql t u v = (do pure (.bool (← Op.equal t u v))))
    (h : (Op.equal t u v).run P w = .ok r w) : ((do eqGuard .eql t x y u v; binOp .eql t u v) : Sem Value).run P w = .ok (.bool r) w := by
  rw [hb]; simp only [Sem.run_bind, hg, Result.andThen_ok, h, Sem.run_pure]
theorem neqV_run (P : Program) (w : World) (t : TypeId) (x y : Operand) (u v : Value) (r : Bool) (hg : (eqGuard .neq t x y u v).run P w = .ok () w) (hb : binOp .neq t u v = (do pure (.bool (!(← Op.equal t u v)))))
    (h : (Op.equal t u v).run P w = .ok r w) : ((do eqGuard .neq t x y u v; binOp .neq t u v) : Sem Value).run P w = .ok (.bool (!r)) w := by
  rw [hb]; simp only [Sem.run_bind, hg, Result.andThen_ok, h, Sem.run_pure]
theorem binK_run (P : Program) (op : BinOp) (t : TypeId) (x y : Operand) (u v : Value) (K : Value → Prop) (h : binK P op t u v K) :
    ∃ r, K r ∧ ∀ w : World, ((do eqGuard op t x y u v; binOp op t u v) : Sem Value).run P w = .ok r w := by
  unfold binK at h
  split at h
  · rename_i k a k' b
    cases hs : isShift op
    · rw [hs] at h
      simp only [cond_false] at h
      split at h
      · rename_i hk; subst hk; exact intOp_run P op t k x y a b K hs h
      · exact h.elim
    · rw [hs] at h
      exact shOp_run P op t k k' x y a b K hs h
  · exact strOp_run P op t x y _ _ K h
  · rename_i a b
    split at h
    · rename_i hu; exact ⟨_, h, fun w => eqlV_run P w t x y _ _ _ rfl rfl (equal_run fun d => equalIn_bool P w hu d a b)⟩
    · rename_i hu; exact ⟨_, h, fun w => neqV_run P w t x y _ _ _ rfl rfl (equal_run fun d => equalIn_bool P w hu d a b)⟩
    · exact h.elim
  · rename_i a n c
    split at h
    · rename_i el hu; exact ⟨_, h, fun w => eqlV_run P w t x y _ _ _ rfl rfl (equal_run fun d => equalIn_nil P w hu d a n c)⟩
    · rename_i el hu; exact ⟨_, h, fun w => neqV_run P w t x y _ _ _ rfl rfl (equal_run fun d => equalIn_nil P w hu d a n c)⟩
    · exact h.elim
  · exact h.elim

theorem run_value (P : Program) {s : Sem Value} {v : Value} {w : World} (h : s.run P w = .ok v w) : ((do pure (.value (← s))) : Sem Next).run P w = .ok (.value v) w := by
  simp only [Sem.run_bind, h, Result.andThen_ok, Sem.run_pure]
theorem lenK_run (P : Program) {t ty : TypeId} {v : Value} {K : Value → Prop} (h : lenK P t v K) : ∃ r, K r ∧ ∀ w : World, (Builtin.len_ #[t] ty #[v]).run P w = .ok r w := by
  unfold lenK at h
  split at h
  · rename_i s hu; exact ⟨_, h, fun w => by simp [Builtin.len_, run_underlying hu, goInt]⟩
  · rename_i el a n c hu; exact ⟨_, h, fun w => by simp [Builtin.len_, run_underlying hu, goInt]⟩
  · exact h.elim
theorem capK_run (P : Program) {t ty : TypeId} {v : Value} {K : Value → Prop} (h : capK P t v K) : ∃ r, K r ∧ ∀ w : World, (Builtin.cap_ #[t] ty #[v]).run P w = .ok r w := by
  unfold capK at h
  split at h
  · rename_i el a n c hu; exact ⟨_, h, fun w => by simp [Builtin.cap_, run_underlying hu, goInt]⟩
  · exact h.elim
theorem szK_size {P : Program} {t : TypeId} {K : Nat → Prop} (h : szK P t K) : ∃ z, K z ∧ ∀ w, (sizeOf t).run P w = .ok z w := by
  unfold szK at h
  split at h
  · rename_i i hi; exact ⟨_, h, fun w => by simp [sizeOf, typeInfo, hi]⟩
  · exact h.elim
theorem idxVK_run (P : Program) {t : TypeId} {v i : Value} {K : Value → Prop} (h : idxVK std P t v i K) : ∃ r, K r ∧ ∀ w : World, (Instr.indexAt t v i).run P w = .ok r w := by
  unfold idxVK at h
  split at h
  · rename_i el a n c k i hu
    obtain ⟨z, ⟨ad, ha, h0, h1, hK⟩, hz⟩ := szK_size h
    refine ⟨_, hK, fun w => ?_⟩
    simp only at ha h1
    subst ha
    have hc : 0 ≤ i ∧ i < (n : Int) := ⟨h0, h1⟩
    simp [Instr.indexAt, asIntOf, run_underlying hu, hc, hz]
  · exact h.elim
theorem strIdxVK_run (P : Program) {t : TypeId} {v i : Value} {K : Value → Prop} (h : strIdxVK std P t v i K) : ∃ r, K r ∧ ∀ w : World, (Instr.index t v i).run P w = .ok r w := by
  unfold strIdxVK at h
  split at h
  · rename_i s k i hu
    obtain ⟨b, h0, h1, hK⟩ := h
    exact ⟨_, hK, fun w => by simp [Instr.index, asIntOf, run_underlying hu, h0, h1]⟩
  · exact h.elim
theorem optInt_sound {N : Nat} {a : Act} {e : Env} (hf : Fits N a e) {x : Option Operand} {r : Option Int} (h : optInt e x = some r) : (x = none ∧ r = none) ∨ ∃ k n, r = some n ∧ x.map a.eval = some (.int k n) := by
  cases x with
  | none => simp only [optInt, Option.some.injEq] at h; exact .inl ⟨rfl, h.symm⟩
  | some x =>
    simp only [optInt] at h
    split at h
    · rename_i k n hv; simp only [Option.some.injEq] at h; exact .inr ⟨k, n, h.symm, by simp [hf.ev hv]⟩
    · cases h
theorem sliceBound_run (P : Program) (w : World) (k : IntKind) (i : Int) (y : Nat) (code : BoundsCode) (h0 : 0 ≤ i) (h1 : i ≤ y) : (Instr.sliceBound (.int k i) y code).run P w = .ok i.toNat w := by
  simp [Instr.sliceBound, asIntOf, h0, h1]
theorem bounds_run (P : Program) (w : World) (b : Bool) (len cap : Nat) {lo hi : Option Int} {vl vh : Option Value}
    (hl : (vl = none ∧ lo = none) ∨ ∃ k n, lo = some n ∧ vl = some (.int k n)) (hh : (vh = none ∧ hi = none) ∨ ∃ k n, hi = some n ∧ vh = some (.int k n))
    (h0 : 0 ≤ lo.getD 0) (h1 : lo.getD 0 ≤ hi.getD len) (h2 : hi.getD len ≤ cap) :
    (Instr.sliceBounds b len cap vl vh none).run P w = .ok ((lo.getD 0).toNat, (hi.getD len).toNat, cap) w := by
  rcases hl with ⟨rfl, rfl⟩ | ⟨kl, l, rfl, rfl⟩ <;> rcases hh with ⟨rfl, rfl⟩ | ⟨kh, h, rfl, rfl⟩ <;> simp only [Option.getD_some, Option.getD_none] at h0 h1 h2 ⊢
  · simp [Instr.sliceBounds]
  · simp [Instr.sliceBounds, sliceBound_run P w kh h cap _ (by omega) h2]
  · simp [Instr.sliceBounds, sliceBound_run P w kl l len _ h0 h1]
  · have := sliceBound_run P w kh h cap (if b then .sliceAcap else .sliceAlen) (by omega) h2
    simp [Instr.sliceBounds, this]
    rw [sliceBound_run P w kl l h.toNat _ h0 (by omega)]
    simp
theorem cutVK_run (P : Program) {t : TypeId} {v : Value} {lo hi : Option Int} {vl vh : Option Value} {K : Value → Prop}
    (hl : (vl = none ∧ lo = none) ∨ ∃ k n, lo = some n ∧ vl = some (.int k n)) (hh : (vh = none ∧ hi = none) ∨ ∃ k n, hi = some n ∧ vh = some (.int k n))
    (h : cutVK std P t v lo hi K) : ∃ r, K r ∧ ∀ w : World, (Instr.sliceAt t v vl vh none).run P w = .ok r w := by
  unfold cutVK at h
  split at h
  · rename_i el a n c hu
    obtain ⟨z, ⟨h0, h1, h2, hK⟩, hz⟩ := szK_size h
    refine ⟨_, hK, fun w => ?_⟩
    simp [Instr.sliceAt, Instr.slice, run_underlying hu, bounds_run P w true n c hl hh h0 h1 h2, hz, Sl.cut]
  · rename_i s hu
    obtain ⟨h0, h1, h2, hK⟩ := h
    refine ⟨_, hK, fun w => ?_⟩
    simp [Instr.sliceAt, Instr.slice, run_underlying hu, bounds_run P w false s.size s.size hl hh h0 h1 h2]
  · exact h.elim
theorem bounds3_run (P : Program) (w : World) (b : Bool) (len cap : Nat) {lo : Option Int} {vl : Option Value} {kh km : IntKind} {hi mx : Int}
    (hl : (vl = none ∧ lo = none) ∨ ∃ k n, lo = some n ∧ vl = some (.int k n))
    (h0 : 0 ≤ lo.getD 0) (h1 : lo.getD 0 ≤ hi) (h2 : hi ≤ mx) (h3 : mx ≤ cap) :
    (Instr.sliceBounds b len cap vl (some (.int kh hi)) (some (.int km mx))).run P w = .ok ((lo.getD 0).toNat, hi.toNat, mx.toNat) w := by
  have e1 := sliceBound_run P w km mx cap (if b then .slice3Acap else .slice3Alen) (by omega) h3
  have e2 := sliceBound_run P w kh hi mx.toNat .slice3B (by omega) (by omega)
  rcases hl with ⟨rfl, rfl⟩ | ⟨kl, l, rfl, rfl⟩ <;> simp only [Option.getD_some, Option.getD_none] at h0 h1 ⊢
  · simp [Instr.sliceBounds, e1, e2]
  · have e3 := sliceBound_run P w kl l hi.toNat .slice3C h0 (by omega)
    simp [Instr.sliceBounds, e1, e2, e3]
theorem cut3VK_run (P : Program) {t : TypeId} {v : Value} {lo : Option Int} {hi mx : Int} {kh km : IntKind} {vl : Option Value} {K : Value → Prop}
    (hl : (vl = none ∧ lo = none) ∨ ∃ k n, lo = some n ∧ vl = some (.int k n))
    (h : cut3VK std P t v lo hi mx K) : ∃ r, K r ∧ ∀ w : World, (Instr.sliceAt t v vl (some (.int kh hi)) (some (.int km mx))).run P w = .ok r w := by
  unfold cut3VK at h
  split at h
  · rename_i el a n c hu
    obtain ⟨z, ⟨h0, h1, h2, h3, hK⟩, hz⟩ := szK_size h
    refine ⟨_, hK, fun w => ?_⟩
    simp only at h3
    simp [Instr.sliceAt, Instr.slice, run_underlying hu, bounds3_run P w true n c (kh := kh) (km := km) hl h0 h1 h2 h3, hz]
  · exact h.elim
theorem convK_run (P : Program) {src dst : TypeId} {v : Value} {K : Value → Prop} (h : convK P src dst v K) : ∃ r, K r ∧ ∀ w : World, (convert src dst v).run P w = .ok r w := by
  unfold convK at h
  split at h
  · rename_i d k k' n hs hd; exact ⟨_, h, fun w => by simp [convert, run_underlying hs, run_underlying hd, Conv.intToInt]⟩
  · rename_i s hs hd; exact ⟨_, h, fun w => by simp [convert, run_underlying hs, run_underlying hd]⟩
  · exact h.elim
theorem fieldK_run (P : Program) {s : TypeId} {f : Nat} {v : Value} {K : Value → Prop} (h : fieldK P s f v K) : ∃ r, K r ∧ ∀ w : World, (Instr.fieldAt s v f).run P w = .ok r w := by
  unfold fieldK at h
  split at h
  · rename_i fields a hu
    split at h
    · rename_i fd hfd
      obtain ⟨z, hK, hz⟩ := szK_size h
      cases hb : Nat.beq z 0 with
      | true => rw [hb] at hK; exact hK.elim
      | false =>
        rw [hb] at hK
        have hne : z ≠ 0 := by intro h0; subst h0; simp at hb
        exact ⟨_, hK, fun w => by simp [Instr.fieldAt, run_underlying hu, hfd, Instr.sureAddr, fieldPlace, hz, hne]⟩
    · exact h.elim
  · exact h.elim
theorem isAgg_one {P : Program} {t : TypeId} (h : oneB P t = true) (w : World) : (isAgg t).run P w = .ok false w := by
  unfold oneB at h
  split at h
  · cases h
  · cases h
  · rename_i hu; simp only [isAgg, Sem.run_bind, run_underlying hu, Result.andThen_ok]; first | (split <;> simp_all) | simp
  · cases h
theorem loadK_run (P : Program) (w : World) {t : TypeId} {ad : Addr} {K : Value → Prop} (h : loadK std P t ad w K) :
    ∃ r, K r ∧ ∀ w', w'.heap = w.heap → (Instr.loadAt t (.pointer (some ad))).run P w' = .ok r w' := by
  unfold loadK at h
  cases ho : oneB P t with
  | true =>
    rw [ho] at h
    obtain ⟨r, hc, hK⟩ := h
    refine ⟨_, hK, fun w' hw => ?_⟩
    have hc' : w'.cell? ad = some ((shOf P t).enc r) := by rw [← hc]; unfold World.cell?; rw [hw]
    simp only [Instr.loadAt, Instr.sureAddr, loadVar, Sem.run_bind, Sem.run_pure, Result.andThen_ok, isAgg_one ho, Bool.false_eq_true, if_false]
    simp [load, Sem.run, hc']
  | false =>
    rw [ho] at h
    obtain ⟨v, hv, hK⟩ := h
    exact ⟨v, hK, fun w' hw => by simp [Instr.loadAt, Instr.sureAddr, hv w' hw]⟩

theorem unK_run (P : Program) {op : UnOp} {v : Value} {K : Value → Prop} (h : unK op v K) : ∃ r, K r ∧ ∀ w : World, (Op.unary op v).run P w = .ok r w := by
  unfold unK at h
  split at h
  · exact ⟨_, h, fun w => by simp [Op.unary]⟩
  · exact ⟨_, h, fun w => by simp [Op.unary, Op.intArith]⟩
  · exact h.elim
theorem pureK_sound {P : Program} {N : Nat} {a : Act} {e : Env} (hf : Fits N a e) {o : Oper} {w : World} {K : Value → Prop} (h : pureK std P e o w K) : ∃ v, Yields P o a w v ∧ K v := by
  obtain ⟨dst, op, ty, pos, aft, gd⟩ := o
  unfold Yields execOp
  cases op <;> simp only [pureK] at h
  case move x => exact ⟨_, fun w' _ => by simp, ev1_sound hf h⟩
  case assign x => exact ⟨_, fun w' _ => by simp, ev1_sound hf h⟩
  case pick c x y =>
    have h := ev1_sound hf h
    split at h
    · rename_i t ht
      cases t with
      | true => exact ⟨_, fun w' _ => by simp [ht, asBool], ev1_sound hf h⟩
      | false => exact ⟨_, fun w' _ => by simp [ht, asBool], ev1_sound hf h⟩
    · exact h.elim
  case binOp op t x y yt =>
    have h := ev2_sound hf h
    obtain ⟨r, hK, hr⟩ := binK_run P op t x y _ _ K h
    exact ⟨r, fun w' hw => run_value P (hr w'), hK⟩
  case unOp op t x =>
    obtain ⟨r, hK, hr⟩ := unK_run P (ev1_sound hf h)
    exact ⟨r, fun w' _ => run_value P (hr w'), hK⟩
  case extract x i =>
    have h := ev1_sound hf h
    split at h
    · rename_i vs hvs
      split at h
      · rename_i u hu; exact ⟨u, fun w' _ => by simp [hvs, Instr.extract, hu], h⟩
      · exact h.elim
    · exact h.elim
  case call c =>
    split at h
    · rename_i x t hc hargs htys
      have h := ev1_sound hf h
      obtain ⟨r, hK, hr⟩ := lenK_run P (ty := ty) h
      refine ⟨r, fun w' _ => ?_, hK⟩
      have h1 : c.args = #[x] := by rw [← Array.toArray_toList (xs := c.args), hargs]
      have h2 : c.argTypes = #[t] := by rw [← Array.toArray_toList (xs := c.argTypes), htys]
      simp [resolve, hc, h1, h2, invoke, builtin, hr w']
    · rename_i x t hc hargs htys
      have h := ev1_sound hf h
      obtain ⟨r, hK, hr⟩ := capK_run P (ty := ty) h
      refine ⟨r, fun w' _ => ?_, hK⟩
      have h1 : c.args = #[x] := by rw [← Array.toArray_toList (xs := c.args), hargs]
      have h2 : c.argTypes = #[t] := by rw [← Array.toArray_toList (xs := c.argTypes), htys]
      simp [resolve, hc, h1, h2, invoke, builtin, hr w']
    · rename_i x y hc hargs
      have h := ev2_sound hf h
      have h1 : c.args = #[x, y] := by rw [← Array.toArray_toList (xs := c.args), hargs]
      unfold max2K at h
      split at h
      · rename_i k p k' q hp hq
        exact ⟨_, fun w' _ => by simp [resolve, hc, h1, invoke, builtin, hp, hq, Builtin.max_, Builtin.max2], h⟩
      · exact h.elim
    · rename_i x y hc hargs
      have h := ev2_sound hf h
      have h1 : c.args = #[x, y] := by rw [← Array.toArray_toList (xs := c.args), hargs]
      unfold min2K at h
      split at h
      · rename_i k p k' q hp hq
        exact ⟨_, fun w' _ => by simp [resolve, hc, h1, invoke, builtin, hp, hq, Builtin.min_, Builtin.min2], h⟩
      · exact h.elim
    · exact h.elim
  case indexAddr t x i =>
    obtain ⟨r, hK, hr⟩ := idxVK_run P (ev2_sound hf h)
    exact ⟨r, fun w' _ => run_value P (hr w'), hK⟩
  case index t x i =>
    obtain ⟨r, hK, hr⟩ := strIdxVK_run P (ev2_sound hf h)
    exact ⟨r, fun w' _ => run_value P (hr w'), hK⟩
  case slice t x lo hi mx =>
    split at h
    · rename_i lo' hi' hlo hhi
      obtain ⟨r, hK, hr⟩ := cutVK_run P (vl := lo.map a.eval) (vh := hi.map a.eval)
        ((optInt_sound hf hlo).imp (fun ⟨h1, h2⟩ => ⟨by rw [h1]; rfl, h2⟩) id) ((optInt_sound hf hhi).imp (fun ⟨h1, h2⟩ => ⟨by rw [h1]; rfl, h2⟩) id) (ev1_sound hf h)
      exact ⟨r, fun w' _ => run_value P (hr w'), hK⟩
    · rename_i m lo' hi' hlo hhi
      split at h
      · rename_i km m' hm
        have hh := optInt_sound hf hhi
        rcases hh with ⟨_, h1⟩ | ⟨kh, n, h1, h2⟩
        · cases h1
        · simp only [Option.some.injEq] at h1
          subst h1
          obtain ⟨r, hK, hr⟩ := cut3VK_run P (vl := lo.map a.eval) (kh := kh) (km := km)
            ((optInt_sound hf hlo).imp (fun ⟨h1, h2⟩ => ⟨by rw [h1]; rfl, h2⟩) id) (ev1_sound hf h)
          refine ⟨r, fun w' _ => run_value P ?_, hK⟩
          rw [h2]
          simp only [Option.map_some, hf.ev hm]
          exact hr w'
      · exact h.elim
    · exact h.elim
  case fieldAddr s x f =>
    obtain ⟨r, hK, hr⟩ := fieldK_run P (ev1_sound hf h)
    exact ⟨r, fun w' _ => run_value P (hr w'), hK⟩
  case convert src dst x =>
    obtain ⟨r, hK, hr⟩ := convK_run P (ev1_sound hf h)
    exact ⟨r, fun w' _ => run_value P (hr w'), hK⟩
  case nilCheck x =>
    have h := ev1_sound hf h
    unfold nilK at h
    split at h
    · rename_i ad hv; exact ⟨_, fun w' _ => by simp [hv], h⟩
    · exact h.elim
  case makeFunc fn first cap =>
    split at h
    · rename_i f c h1 h2
      refine ⟨_, fun w' _ => ?_, h⟩
      have e1 : first.map a.eval = f.toArray := by rw [← hf.evs h1, ← Array.toList_map]
      have e2 : cap.map a.eval = c.toArray := by rw [← hf.evs h2, ← Array.toList_map]
      simp [Instr.makeFunc, e1, e2]
    · exact h.elim
  case build t parts =>
    split at h
    · rename_i ps hps
      obtain ⟨v, hv, hK⟩ := h
      refine ⟨v, fun w' _ => ?_, hK⟩
      have e1 : parts.map (fun p => (p.1, a.eval p.2)) = ps.toArray := by rw [← hf.parts hps, ← Array.toList_map]
      exact run_value P (by rw [← hv w', ← e1])
    · exact h.elim
  case load t x =>
    have h := ev1_sound hf h
    split at h
    · rename_i ad hv
      obtain ⟨r, hK, hr⟩ := loadK_run P w h
      exact ⟨r, fun w' hw => run_value P (by rw [hv]; exact hr w' (hw rfl)), hK⟩
    · exact h.elim
  all_goals exact h.elim

/-! ### Operations that make memory, write it, or call -/
def semN (pr : Prims) (P : Program) (ss : List Sh) (m : Sem Value) (w : World) (K : Value → World → Prop) : Prop :=
  match ss with
  | [s] => pr.sem1 s P m w fun r w' => K (s.enc r) w'
  | [s1, s2] => pr.sem2 s1 s2 P m w fun r1 r2 w' => K (.tuple #[s1.enc r1, s2.enc r2]) w'
  | [s1, s2, s3] => pr.sem3 s1 s2 s3 P m w fun r1 r2 r3 w' => K (.tuple #[s1.enc r1, s2.enc r2, s3.enc r3]) w'
  | _ => False
/-- One step of a range over a map: it is over, or some entry comes. -/
def nextK (P : Program) (it : Value) (b : Bool) (ty : TypeId) (w : World) (Kf : World → Prop) (Kt : Value → Value → World → Prop) : Prop :=
  (∃ w', (Instr.next it b ty).run P w = .ok (.tuple #[.bool false]) w' ∧ Kf w') ∨ ∃ k v w', (Instr.next it b ty).run P w = .ok (.tuple #[.bool true, k, v]) w' ∧ Kt k v w'
def entryK (P : Program) (it : Value) (w : World) (K : Value → Value → World → Prop) : Prop := ∃ k v w', (Instr.entry it).run P w = .ok (.tuple #[k, v]) w' ∧ K k v w'
def callN (pr : Prims) (P : Program) (ss : List Sh) (f : FuncId) (args : Array Value) (w : World) (K : Value → World → Prop) : Prop :=
  match ss with
  | [] => pr.call0 P f args w fun w' => K (.tuple #[]) w'
  | [s] => pr.call1 s P f args w fun r w' => K (s.enc r) w'
  | [s1, s2] => pr.call2 s1 s2 P f args w fun r1 r2 w' => K (.tuple #[s1.enc r1, s2.enc r2]) w'
  | [s1, s2, s3] => pr.call3 s1 s2 s3 P f args w fun r1 r2 r3 w' => K (.tuple #[s1.enc r1, s2.enc r2, s3.enc r3]) w'
  | _ => False
def shsOf (P : Program) (t : TypeId) : List Sh :=
  match P.underlying t with
  | some (.tuple ts) => ts.toList.map (shOf P)
  | _ => [shOf P t]
/-- A call of a function value. -/
def callV (pr : Prims) (P : Program) (ss : List Sh) (fv : Value) (args : List Value) (w : World) (K : Value → World → Prop) : Prop :=
  match ss with
  | [s] => pr.callV1 s P fv args w fun r w' => K (s.enc r) w'
  | _ => False
def isOne : Value → Bool
  | .agg _ | .tuple _ => false
  | _ => true
def extN (pr : Prims) (P : Program) (ss : List Sh) (f : FuncId) (args : Array Value) (w : World) (K : Value → World → Prop) : Prop :=
  match ss with
  | [s] => pr.ext1 s P f args w fun r w' => K (s.enc r) w'
  | _ => False
def storeK (pr : Prims) (P : Program) (t : TypeId) (ad : Addr) (v : Value) (w : World) (K : World → Prop) : Prop :=
  bif oneB P t then (bif isOne v then szK P t (fun z => bif Nat.beq z 1 then pr.storeC ad v w K else False) else False)
  else pr.sem0 P (storeVar t ad v) w K
def effK (pr : Prims) (P : Program) (e : Env) (o : Oper) (w : World) (K : Value → World → Prop) : Prop :=
  match o.op with
  | .call c => match Env.evs e c.args.toList with
    | some args => match c.callee with
      | .builtin .append => semN pr P [.sl] (Builtin.append_ c.argTypes o.type args.toArray) w K
      | .builtin .copy => semN pr P (shsOf P o.type) (Builtin.copy_ c.argTypes o.type args.toArray) w K
      | .builtin .clear => semN pr P [.any] (Builtin.clear_ c.argTypes o.type args.toArray) w K
      | .value (.func g) => bif bodied P g then callN pr P (shsOf P o.type) g args.toArray w K else extN pr P (shsOf P o.type) g args.toArray w K
      | .value (.tmp t) => match Env.get e t with
        | some fv => callV pr P (shsOf P o.type) fv args w K
        | none => False
      | _ => False
    | none => False
  | .buildSlice t len parts => match Env.parts e parts.toList with
    | some ps => semN pr P [.sl] (Instr.buildSlice t len ps.toArray) w K
    | none => False
  | .makeSlice t l c => match Env.ev e l with
    | some l => match Env.ev e c with
      | some c => semN pr P [.sl] (Instr.makeSlice t l c) w K
      | none => False
    | none => False
  | .alloc t => match P.info? t with
    | some i => match i.zero with
      | some z => pr.newK t z.cells w fun ad w' => K (.pointer (some ad)) w'
      | none => False
    | none => False
  | .box t x => match Env.ev e x with
    | some v => pr.newK t v.cells w fun ad w' => K (.pointer (some ad)) w'
    | none => False
  | .store t a x => match Env.ev e a with
    | some (.pointer (some ad)) => match Env.ev e x with
      | some v => storeK pr P t ad v w fun w' => K undef w'
      | none => False
    | _ => False
  | .convert src dst x => match Env.ev e x with
    | some v => semN pr P [shOf P dst] (convert src dst v) w K
    | none => False
  | .makeMap t none => semN pr P [.map] (Instr.makeMap t none) w K
  | .mapUpdate t m k x => match Env.ev e m, Env.ev e k, Env.ev e x with
    | some m, some k, some x => pr.sem0 P (Instr.mapUpdate t m k x) w fun w' => K undef w'
    | _, _, _ => False
  | .lookup t x i ok => match Env.ev e x, Env.ev e i with
    | some x, some i => semN pr P (shsOf P o.type) (Instr.lookup t x i ok) w K
    | _, _ => False
  | .range t x => match Env.ev e x with
    | some x => semN pr P [.any] (Instr.range t x) w K
    | none => False
  | .next it b => match Env.ev e it with
    | some it => nextK P it b o.type w (fun w' => K (.tuple #[.bool false]) w') (fun k v w' => K (.tuple #[.bool true, k, v]) w')
    | none => False
  | .entry it => match Env.ev e it with
    | some it => entryK P it w (fun k v w' => K (.tuple #[k, v]) w')
    | none => False
  | _ => False

/-- No function of the program is this one of the run-time's (the one name that the model looks for ahead of a call). -/
def NoCount (P : Program) : Prop := ∀ (f : FuncId) (fn : Func), P.funcs[f]? = some fn → (fn.name == "runtime.NumGoroutine") = false
theorem callFunc_run {P : Program} (hN : NoCount P) {f : FuncId} (hb : bodied P f = true) (args : Array Value) (w : World) : (callFunc f args).run P w = .ok (.enter f args) w := by
  unfold bodied at hb
  split at hb
  · rename_i fn hfn
    have h1 := hN f fn hfn
    have h2 : fn.body.isNone = false := by cases h : fn.body <;> simp_all
    simp only [beq_eq_false_iff_ne, ne_eq] at h1
    have h3 : fn.body ≠ none := by intro h; rw [h] at h2; cases h2
    simp [callFunc, program, Sem.run, hfn, h1, h3]
  · cases hb
theorem callN_calls {P : Program} {ss : List Sh} {f : FuncId} {args : Array Value} {w : World} {K : Value → World → Prop} (h : callN std P ss f args w K) :
    Calls P f args w fun e w' => ∃ v, e = .returned v ∧ K v w' := by
  unfold callN at h
  split at h
  · exact h.mono fun e w' ⟨h1, h2⟩ => ⟨_, h1, h2⟩
  · exact h.mono fun e w' ⟨r, h1, h2⟩ => ⟨_, h1, h2⟩
  · exact h.mono fun e w' ⟨r1, r2, h1, h2⟩ => ⟨_, h1, h2⟩
  · exact h.mono fun e w' ⟨r1, r2, r3, h1, h2⟩ => ⟨_, h1, h2⟩
  · exact h.elim
theorem semN_run {P : Program} {ss : List Sh} {m : Sem Value} {w : World} {K : Value → World → Prop} (h : semN std P ss m w K) : ∃ v w', m.run P w = .ok v w' ∧ K v w' := by
  unfold semN at h
  split at h
  · obtain ⟨r, w', h1, h2⟩ := h; exact ⟨_, _, h1, h2⟩
  · obtain ⟨r1, r2, w', h1, h2⟩ := h; exact ⟨_, _, h1, h2⟩
  · obtain ⟨r1, r2, r3, w', h1, h2⟩ := h; exact ⟨_, _, h1, h2⟩
  · exact h.elim
theorem wp_of_value {P : Program} {o : Oper} {a : Act} {w w' : World} {v : Value} {next : Act → World → Prop} {Q : Exit → Act → World → Prop}
    (h : (execOp a.eval o).run P w = .ok (.value v) w') (hn : next (a.put o.dst v) w') : o.wp P a w next Q := by
  unfold Oper.wp; rw [h]; exact hn
theorem wp_of_skip {P : Program} {o : Oper} {a : Act} {w w' : World} {next : Act → World → Prop} {Q : Exit → Act → World → Prop}
    (h : (execOp a.eval o).run P w = .ok .skip w') (hn : next (a.put o.dst undef) w') : o.wp P a w next Q := by
  unfold Oper.wp; rw [h]; exact hn
theorem wp_of_enter {P : Program} {o : Oper} {a : Act} {w w' : World} {f : FuncId} {args : Array Value} {next : Act → World → Prop} {Q : Exit → Act → World → Prop}
    (h : (execOp a.eval o).run P w = .ok (.enter f args) w') (hn : Calls P f args w' fun e w'' => ∃ v, e = .returned v ∧ next (a.put o.dst v) w'') : o.wp P a w next Q := by
  unfold Oper.wp; rw [h]
  exact hn.mono fun e w'' ⟨v, he, hv⟩ => by subst he; exact hv
theorem run_value' (P : Program) {s : Sem Value} {v : Value} {w w' : World} (h : s.run P w = .ok v w') : ((do pure (.value (← s))) : Sem Next).run P w = .ok (.value v) w' := by
  simp only [Sem.run_bind, h, Result.andThen_ok, Sem.run_pure]
theorem run_skip' (P : Program) {s : Sem Unit} {w w' : World} (h : s.run P w = .ok () w') : ((do s; pure .skip) : Sem Next).run P w = .ok .skip w' := by
  simp only [Sem.run_bind, h, Result.andThen_ok, Sem.run_pure]
theorem storeK_run {P : Program} {t : TypeId} {ad : Addr} {v : Value} {w : World} {K : World → Prop} (h : storeK std P t ad v w K) : ∃ w', (Instr.storeAt t (.pointer (some ad)) v).run P w = .ok () w' ∧ K w' := by
  unfold storeK at h
  cases ho : oneB P t with
  | true =>
    rw [ho] at h
    simp only [cond_true] at h
    cases h1 : isOne v with
    | false => rw [h1] at h; exact h.elim
    | true =>
      rw [h1] at h
      simp only [cond_true] at h
      obtain ⟨z, hK, hz⟩ := szK_size h
      cases hb : Nat.beq z 1 with
      | false => rw [hb] at hK; exact hK.elim
      | true =>
        rw [hb] at hK
        obtain ⟨⟨u, hu⟩, hfr, hK⟩ := hK
        have hz1 : z = 1 := Nat.eq_of_beq_eq_true hb
        subst hz1
        refine ⟨_, ?_, hK⟩
        have hc : v.cells = #[v] := by cases v <;> simp_all [isOne, Value.cells]
        have hst : ∀ k : Sem Unit, (Sem.store .plain ad v k).run P w = k.run P (w.setCell ad v) := by
          intro k; cases v <;> first | (simp [isOne] at h1; done) | simp [Sem.run, hu, hfr]
        simp only [Instr.storeAt, Instr.sureAddr, storeVar, Sem.run_bind, Sem.run_pure, Result.andThen_ok, hz, hc]
        simp [storeCells, store, Addr.add, hst, Sem.run]
  | false =>
    rw [ho] at h
    obtain ⟨w', h1, h2⟩ := h
    exact ⟨w', by simp [Instr.storeAt, Instr.sureAddr, h1], h2⟩

theorem effK_sound {P : Program} (hN : NoCount P) {N : Nat} {a : Act} {e : Env} (hf : Fits N a e) {o : Oper} {w : World} {K : Value → World → Prop} (h : effK std P e o w K)
    {next : Act → World → Prop} {Q : Exit → Act → World → Prop} (hn : ∀ v w', K v w' → next (a.put o.dst v) w') : o.wp P a w next Q := by
  obtain ⟨dst, op, ty, pos, aft, gd⟩ := o
  cases op <;> simp only [effK] at h
  case call c =>
    obtain ⟨callee, args, argTypes⟩ := c
    simp only at h
    split at h
    · rename_i vs hvs
      have hargs : args.map a.eval = vs.toArray := by rw [← hf.evs hvs, ← Array.toList_map]
      split at h
      · obtain ⟨v, w', h1, h2⟩ := semN_run h
        exact wp_of_value (w' := w') (v := v) (by simp [execOp, resolve, invoke, builtin, hargs, h1]) (hn _ _ h2)
      · obtain ⟨v, w', h1, h2⟩ := semN_run h
        exact wp_of_value (w' := w') (v := v) (by simp [execOp, resolve, invoke, builtin, hargs, h1]) (hn _ _ h2)
      · obtain ⟨v, w', h1, h2⟩ := semN_run h
        exact wp_of_value (w' := w') (v := v) (by simp [execOp, resolve, invoke, builtin, hargs, h1]) (hn _ _ h2)
      · rename_i g
        cases hb : bodied P g with
        | false =>
          rw [hb] at h
          simp only [cond_false] at h
          unfold extN at h
          split at h
          · rename_i s _
            obtain ⟨r, w', h1, h2⟩ := h
            refine wp_of_value (w' := w') (v := s.enc r) ?_ (hn _ _ h2)
            simp [execOp, resolve, Deferred.ofValue, Act.eval, invoke, hargs, h1]
          · exact h.elim
        | true =>
          rw [hb] at h
          refine wp_of_enter (w' := w) (f := g) (args := vs.toArray) ?_ ((callN_calls h).mono fun e w' ⟨v, h1, h2⟩ => ⟨v, h1, hn _ _ h2⟩)
          simp [execOp, resolve, Deferred.ofValue, Act.eval, invoke, hargs, callFunc_run hN hb]
      · rename_i t
        split at h
        · rename_i fv hfv
          unfold callV at h
          split at h
          case h_2 => exact h.elim
          rename_i s
          obtain ⟨f, first, cap, rfl, hb, hc⟩ := h
          have hev : a.eval (.tmp t) = .func (.func f) first cap := hf.ev (x := .tmp t) hfv
          refine wp_of_enter (w' := w) (f := f) (args := (first ++ vs.toArray) ++ cap) ?_ (hc.mono fun e w' ⟨v, h1, h2⟩ => ⟨_, h1, hn _ _ h2⟩)
          simp [execOp, resolve, Deferred.ofValue, hev, invoke, hargs, callFunc_run hN hb]
        · exact h.elim
      · exact h.elim
    · exact h.elim
  case buildSlice t len parts =>
    split at h
    · rename_i ps hps
      obtain ⟨v, w', h1, h2⟩ := semN_run h
      have e1 : parts.map (fun p => (p.1, a.eval p.2)) = ps.toArray := by rw [← hf.parts hps, ← Array.toList_map]
      exact wp_of_value (w' := w') (v := v) (run_value' P (by rw [← h1, ← e1])) (hn _ _ h2)
    · exact h.elim
  case makeSlice t l c =>
    split at h
    · rename_i vl hl
      split at h
      · rename_i vc hc
        obtain ⟨v, w', h1, h2⟩ := semN_run h
        exact wp_of_value (w' := w') (v := v) (run_value' P (by rw [hf.ev hl, hf.ev hc]; exact h1)) (hn _ _ h2)
      · exact h.elim
    · exact h.elim
  case alloc t =>
    split at h
    · rename_i i hi
      split at h
      · rename_i z hz
        refine wp_of_value (v := .pointer (some ⟨w.heap.size, 0, none⟩)) (w' := w.alloc (.cells z.cells t)) ?_ (hn _ _ h)
        simp [execOp, Instr.alloc, zeroValue, typeInfo, hi, hz, newVar, newRow, newObj, Sem.run]
      · exact h.elim
    · exact h.elim
  case box t x =>
    split at h
    · rename_i v hv
      refine wp_of_value (v := .pointer (some ⟨w.heap.size, 0, none⟩)) (w' := w.alloc (.cells v.cells t)) ?_ (hn _ _ h)
      simp [execOp, Instr.box, hf.ev hv, newVar, newRow, newObj, Sem.run]
    · exact h.elim
  case store t x y =>
    split at h
    · rename_i ad hx
      split at h
      · rename_i v hv
        obtain ⟨w', h1, h2⟩ := storeK_run h
        exact wp_of_skip (w' := w') (run_skip' P (by rw [hf.ev hx, hf.ev hv]; exact h1)) (hn _ _ h2)
      · exact h.elim
    · exact h.elim
  case convert src dst x =>
    split at h
    · rename_i v hv
      obtain ⟨r, w', h1, h2⟩ := semN_run h
      exact wp_of_value (w' := w') (v := r) (run_value' P (by rw [hf.ev hv]; exact h1)) (hn _ _ h2)
    · exact h.elim
  case makeMap t r =>
    cases r with
    | none =>
      obtain ⟨r, w', h1, h2⟩ := semN_run h
      exact wp_of_value (w' := w') (v := r) (run_value' P h1) (hn _ _ h2)
    | some x => exact h.elim
  case mapUpdate t m k x =>
    split at h
    · rename_i vm vk vx hm hk hx
      obtain ⟨w', h1, h2⟩ := h
      exact wp_of_skip (w' := w') (run_skip' P (by rw [hf.ev hm, hf.ev hk, hf.ev hx]; exact h1)) (hn _ _ h2)
    · exact h.elim
  case lookup t x i ok =>
    split at h
    · rename_i vx vi hx hi
      obtain ⟨r, w', h1, h2⟩ := semN_run h
      exact wp_of_value (w' := w') (v := r) (run_value' P (by rw [hf.ev hx, hf.ev hi]; exact h1)) (hn _ _ h2)
    · exact h.elim
  case range t x =>
    split at h
    · rename_i vx hx
      obtain ⟨r, w', h1, h2⟩ := semN_run h
      exact wp_of_value (w' := w') (v := r) (run_value' P (by rw [hf.ev hx]; exact h1)) (hn _ _ h2)
    · exact h.elim
  case next it b =>
    split at h
    · rename_i vx hx
      rcases h with ⟨w', h1, h2⟩ | ⟨k, v, w', h1, h2⟩
      · exact wp_of_value (w' := w') (run_value' P (by rw [hf.ev hx]; exact h1)) (hn _ _ h2)
      · exact wp_of_value (w' := w') (run_value' P (by rw [hf.ev hx]; exact h1)) (hn _ _ h2)
    · exact h.elim
  case entry it =>
    split at h
    · rename_i vx hx
      obtain ⟨k, v, w', h1, h2⟩ := h
      exact wp_of_value (w' := w') (run_value' P (by rw [hf.ev hx]; exact h1)) (hn _ _ h2)
    · exact h.elim
  all_goals exact h.elim

/-! ### A region in the order of the text -/
structure Cfg where
  N : Nat
  loops : List (Nat × List Nat)
  exits : List (Nat × List Nat)
  joins : List (Nat × List Nat)
  ret : List Nat
  dq : List Nat
  qs : List Nat
  ps : List Nat
def lookN : List (Nat × List Nat) → Nat → List Nat
  | [], _ => []
  | p :: r, i => bif Nat.beq p.1 i then p.2 else lookN r i
def findN : List (Nat × List Nat) → Nat → Option (List Nat)
  | [], _ => none
  | p :: r, i => bif Nat.beq p.1 i then some p.2 else findN r i
def memN : List Nat → Nat → Bool
  | [], _ => false
  | j :: r, i => bif Nat.beq j i then true else memN r i
/-- Is the operation one of those that leave the world alone? -/
def kindPure (P : Program) (o : Oper) : Bool :=
  match o.op with
  | .move _ | .assign _ | .pick .. | .binOp .. | .unOp .. | .extract .. | .indexAddr .. | .index .. | .slice .. | .fieldAddr .. | .nilCheck _ | .makeFunc .. | .build .. | .load .. => true
  | .convert src dst _ => match P.underlying dst with
    | some (.int _) => true
    | some .string => match P.underlying src with
      | some .string => true
      | _ => false
    | _ => false
  | .call c => match c.callee with
    | .builtin .len | .builtin .cap | .builtin .max | .builtin .min => true
    | _ => false
  | _ => false
def pcallK (pr : Prims) (P : Program) (ss : List Sh) (f : FuncId) (args : Array Value) (K : Value → Prop) : Prop :=
  match ss with
  | [s] => pr.pcall1 s P f args fun r => K (s.enc r)
  | _ => False
def staticCall (o : Oper) : Option FuncId :=
  match o.op with
  | .call c => match c.callee with
    | .value (.func g) => some g
    | _ => none
  | _ => none
def callArgs (o : Oper) : List Operand :=
  match o.op with
  | .call c => c.args.toList
  | _ => []
def pcallE (pr : Prims) (P : Program) (e : Env) (o : Oper) (K : Value → Prop) : Prop :=
  match staticCall o with
  | some g => match Env.evs e (callArgs o) with
    | some args => bif bodied P g then pcallK pr P (shsOf P o.type) g args.toArray K else False
    | none => False
  | none => False
def isPCall (ps : List Nat) (o : Oper) : Bool :=
  match staticCall o with
  | some g => memN ps g
  | none => false
def evalOp (pr : Prims) (P : Program) (c : Cfg) (e : Env) (o : Oper) (w : World) (K : Value → World → Prop) : Prop :=
  bif kindPure P o then pureK pr P e o w (fun v => K v w) else bif isPCall c.ps o then pcallE pr P e o (fun v => K v w) else effK pr P e o w K
/-- One operation under its guard: 'run' where it is wanted, 'pass' where not, in the environment in which the guard is decided. -/
def guarded (ops : Array Oper) (e : Env) (o : Oper) (run pass : Env → Prop) : Prop :=
  match o.guard with
  | none => run e
  | some (j, want) => match (ops[j]?).bind (·.dst) with
    | none => False
    | some d => match Env.get e d with
      | some (.bool b) => bif b then (bif want then run ((d, .bool true) :: e) else pass ((d, .bool true) :: e)) else (bif want then pass ((d, .bool false) :: e) else run ((d, .bool false) :: e))
      | some (.tuple _) => pass e
      | _ => False
def evalOps (pr : Prims) (P : Program) (c : Cfg) (ops : Array Oper) : List Oper → Env → World → (Env → World → Prop) → Prop
  | [], e, w, K => K e w
  | o :: rest, e, w, K => guarded ops e o
    (fun e => evalOp pr P c e o w fun v w' => evalOps pr P c ops rest (putE c.N e o.dst v) w' K)
    (fun e => evalOps pr P c ops rest (putE c.N e o.dst undef) w K)
/-- A region whose order is drawn and whose operations do not commute: in every order; an operation that only reckons is taken first. -/
def freePure (P : Program) (ops : Array Oper) (listed : Array Bool) (i : Nat) : Bool :=
  match ops[i]? with
  | some o => kindPure P o && !isLoad o && Region.free .any ops listed i
  | none => false
def allK (f : Nat → Prop) : List Nat → Prop
  | [] => True
  | [i] => f i
  | i :: j :: r => f i ∧ allK f (j :: r)
def findFree (g : Nat → Bool) : List Nat → Option Nat
  | [] => none
  | i :: r => bif g i then some i else findFree g r
def evalAt (pr : Prims) (P : Program) (c : Cfg) (ops : Array Oper) (i : Nat) (e : Env) (w : World) (next : Env → World → Prop) : Prop :=
  match ops[i]? with
  | some o => guarded ops e o (fun e => evalOp pr P c e o w fun v w' => next (putE c.N e o.dst v) w') (fun e => next (putE c.N e o.dst undef) w)
  | none => False
def evalAny (pr : Prims) (P : Program) (c : Cfg) (ops : Array Oper) : Nat → Array Bool → Env → World → (Env → World → Prop) → Prop
  | 0, listed, e, w, K => match Region.ready .any ops listed with
    | [] => K e w
    | _ :: _ => False
  | fuel + 1, listed, e, w, K => match Region.ready .any ops listed with
    | [] => K e w
    | r :: rs => match findFree (freePure P ops listed) (r :: rs) with
      | some i => evalAt pr P c ops i e w fun e' w' => evalAny pr P c ops fuel (listed.setIfInBounds i true) e' w' K
      | none => allK (fun i => evalAt pr P c ops i e w fun e' w' => evalAny pr P c ops fuel (listed.setIfInBounds i true) e' w' K) (r :: rs)
def qcallK (pr : Prims) (P : Program) (ss : List Sh) (f : FuncId) (args : Array Value) (w : World) (K : Value → Prop) : Prop :=
  match ss with
  | [s] => pr.qcall1 s P f args w fun r => K (s.enc r)
  | _ => False
def qcallE (pr : Prims) (P : Program) (e : Env) (o : Oper) (w : World) (K : Value → Prop) : Prop :=
  match staticCall o with
  | some g => match Env.evs e (callArgs o) with
    | some args => bif bodied P g then qcallK pr P (shsOf P o.type) g args.toArray w K else False
    | none => False
  | none => False
def evalOpQ (pr : Prims) (P : Program) (c : Cfg) (e : Env) (o : Oper) (w : World) (K : Value → Prop) : Prop :=
  bif kindPure P o then pureK pr P e o w K else bif isPCall c.ps o then pcallE pr P e o K else qcallE pr P e o w K
def evalOpsQ (pr : Prims) (P : Program) (c : Cfg) (ops : Array Oper) (w : World) : List Oper → Env → (Env → Prop) → Prop
  | [], e, K => K e
  | o :: rest, e, K => guarded ops e o
    (fun e => evalOpQ pr P c e o w fun v => evalOpsQ pr P c ops w rest (putE c.N e o.dst v) K)
    (fun e => evalOpsQ pr P c ops w rest (putE c.N e o.dst undef) K)
def quietB (P : Program) (c : Cfg) (ops : Array Oper) : Bool :=
  ops.toList.all fun o => kindPure P o || isPCall c.ps o || isPCall c.qs o

theorem pcallK_calls {P : Program} {ss : List Sh} {f : FuncId} {args : Array Value} {K : Value → Prop} (h : pcallK std P ss f args K) :
    ∃ v, (∀ w, Calls P f args w fun e w' => e = .returned v ∧ w' = w) ∧ K v := by
  unfold pcallK at h
  split at h
  · obtain ⟨r, h1, h2⟩ := h; exact ⟨_, h1, h2⟩
  · exact h.elim
theorem qcallK_calls {P : Program} {ss : List Sh} {f : FuncId} {args : Array Value} {w : World} {K : Value → Prop} (h : qcallK std P ss f args w K) :
    ∃ v, (∀ w', Drew w w' → Calls P f args w' fun e w'' => e = .returned v ∧ Drew w' w'') ∧ K v := by
  unfold qcallK at h
  split at h
  · obtain ⟨r, h1, h2⟩ := h; exact ⟨_, h1, h2⟩
  · exact h.elim
theorem staticCall_run {P : Program} (hN : NoCount P) {N : Nat} {a : Act} {e : Env} (hf : Fits N a e) {o : Oper} {g : FuncId} {vs : List Value}
    (hs : staticCall o = some g) (hv : Env.evs e (callArgs o) = some vs) (hb : bodied P g = true) (w : World) : (execOp a.eval o).run P w = .ok (.enter g vs.toArray) w := by
  obtain ⟨dst, op, ty, pos, aft, gd⟩ := o
  cases op <;> simp only [staticCall, reduceCtorEq] at hs
  rename_i c
  obtain ⟨callee, args, argTypes⟩ := c
  simp only at hs
  split at hs
  · simp only [Option.some.injEq] at hs
    subst hs
    simp only [callArgs] at hv
    have hargs : args.map a.eval = vs.toArray := by rw [← hf.evs hv, ← Array.toList_map]
    simp [execOp, resolve, Deferred.ofValue, Act.eval, invoke, hargs, callFunc_run hN hb]
  · cases hs
theorem pcallE_sound {P : Program} (hN : NoCount P) {N : Nat} {a : Act} {e : Env} (hf : Fits N a e) {o : Oper} {K : Value → Prop} (h : pcallE std P e o K) :
    ∃ f args v, (∀ w, (execOp a.eval o).run P w = .ok (.enter f args) w) ∧ (∀ w, Calls P f args w fun e w' => e = .returned v ∧ w' = w) ∧ K v := by
  unfold pcallE at h
  split at h
  · rename_i g hg
    split at h
    · rename_i vs hvs
      cases hb : bodied P g with
      | false => rw [hb] at h; exact h.elim
      | true =>
        rw [hb] at h
        obtain ⟨v, h1, h2⟩ := pcallK_calls h
        exact ⟨_, _, v, staticCall_run hN hf hg hvs hb, h1, h2⟩
    · exact h.elim
  · exact h.elim
theorem qcallE_sound {P : Program} (hN : NoCount P) {N : Nat} {a : Act} {e : Env} (hf : Fits N a e) {o : Oper} {w : World} {K : Value → Prop} (h : qcallE std P e o w K) :
    ∃ f args v, (∀ w, (execOp a.eval o).run P w = .ok (.enter f args) w) ∧ (∀ w', Drew w w' → Calls P f args w' fun e w'' => e = .returned v ∧ Drew w' w'') ∧ K v := by
  unfold qcallE at h
  split at h
  · rename_i g hg
    split at h
    · rename_i vs hvs
      cases hb : bodied P g with
      | false => rw [hb] at h; exact h.elim
      | true =>
        rw [hb] at h
        obtain ⟨v, h1, h2⟩ := qcallK_calls h
        exact ⟨_, _, v, staticCall_run hN hf hg hvs hb, h1, h2⟩
    · exact h.elim
  · exact h.elim
theorem evalOp_sound {P : Program} (hN : NoCount P) {c : Cfg} {a : Act} {e : Env} (hf : Fits c.N a e) {o : Oper} {w : World} {K : Value → World → Prop} (h : evalOp std P c e o w K)
    {next : Act → World → Prop} {Q : Exit → Act → World → Prop} (hn : ∀ v w', K v w' → next (a.put o.dst v) w') : o.wp P a w next Q := by
  unfold evalOp at h
  cases hp : kindPure P o with
  | true =>
    rw [hp] at h
    obtain ⟨v, h1, h2⟩ := pureK_sound hf h
    exact wp_of_value (h1 w (fun _ => rfl)) (hn _ _ h2)
  | false =>
    rw [hp] at h
    simp only [cond_false] at h
    cases hc : isPCall c.ps o with
    | true =>
      rw [hc] at h
      obtain ⟨f, args, v, h1, h2, h3⟩ := pcallE_sound hN hf h
      exact wp_of_enter (h1 w) ((h2 w).mono fun e w' ⟨he, hw⟩ => ⟨v, he, by rw [hw]; exact hn _ _ h3⟩)
    | false =>
      rw [hc] at h
      exact effK_sound hN hf h hn
theorem guarded_sound {ops : Array Oper} {N : Nat} {a : Act} {e : Env} (hf : Fits N a e) {o : Oper} {run pass : Env → Prop} (h : guarded ops e o run pass) :
    ∃ e', Fits N a e' ∧ (if Region.wanted o (yielded ops a.tmps) then run e' else pass e') := by
  unfold guarded at h
  split at h
  · rename_i hg; exact ⟨e, hf, by simp only [Region.wanted, hg, if_true]; exact h⟩
  · rename_i j want hg
    split at h
    · exact h.elim
    · rename_i d hd
      split at h
      · rename_i b hb
        have hy : yielded ops a.tmps j = some b := by
          have := hf.at_ d _ hb
          simp [yielded, hd, this]
        have hw : Region.wanted o (yielded ops a.tmps) = (b == want) := by
          simp only [Region.wanted, hg, hy]; cases b <;> cases want <;> rfl
        rw [hw]
        cases b <;> cases want <;> exact ⟨_, hf.set hb, by simpa using h⟩
      · rename_i vs hb
        have hy : yielded ops a.tmps j = none := by
          have := hf.at_ d _ hb
          simp [yielded, hd, this]
        have hw : Region.wanted o (yielded ops a.tmps) = false := by
          simp only [Region.wanted, hg, hy]; cases want <;> rfl
        rw [hw]
        exact ⟨e, hf, by simpa using h⟩
      · exact h.elim
theorem evalOps_sound {P : Program} (hN : NoCount P) {c : Cfg} {ops : Array Oper} {K : Env → World → Prop} : ∀ (l : List Oper) (e : Env) (w : World) (a : Act), Fits c.N a e → evalOps std P c ops l e w K →
    wpList P ops (fun ex a' w' => ex = .normal ∧ ∃ e', Fits c.N a' e' ∧ K e' w') l a w
  | [], e, w, a, hf, h => ⟨rfl, e, hf, h⟩
  | o :: rest, e, w, a, hf, h => by
    simp only [evalOps] at h
    obtain ⟨e', hf', h'⟩ := guarded_sound hf h
    unfold wpList
    split
    · rename_i hw
      rw [if_pos hw] at h'
      exact .inl (evalOp_sound hN hf' h' fun v w' hk => evalOps_sound hN rest _ _ _ (hf'.put _ _) hk)
    · rename_i hw
      rw [if_neg hw] at h'
      exact evalOps_sound hN rest _ _ _ (hf'.put _ _) h'
theorem allK_mem {f : Nat → Prop} : ∀ {l : List Nat}, allK f l → ∀ i ∈ l, f i
  | [], _, _, h => by cases h
  | [j], h, i, hi => by simp at hi; subst hi; exact h
  | j :: k :: r, h, i, hi => by
    simp only [allK] at h
    rcases List.mem_cons.1 hi with rfl | hi
    · exact h.1
    · exact allK_mem h.2 i hi
theorem findFree_spec {g : Nat → Bool} : ∀ {l : List Nat} {i : Nat}, findFree g l = some i → i ∈ l ∧ g i = true
  | [], _, h => by cases h
  | j :: r, i, h => by
    simp only [findFree] at h
    cases hj : g j with
    | true => rw [hj] at h; simp at h; subst h; exact ⟨by simp, hj⟩
    | false =>
      rw [hj] at h
      have := findFree_spec h
      exact ⟨List.mem_cons_of_mem _ this.1, this.2⟩
theorem evalAny_sound {P : Program} (hN : NoCount P) {c : Cfg} {ops : Array Oper} (hs : Region.noSelect ops = true) {K : Env → World → Prop} : ∀ (fuel : Nat) (listed : Array Bool) (e : Env) (w : World) (a : Act), Fits c.N a e →
    evalAny std P c ops fuel listed e w K → wpAny P .any ops (fun ex a' w' => ex = .normal ∧ ∃ e', Fits c.N a' e' ∧ K e' w') fuel listed a w
  | 0, listed, e, w, a, hf, h => by
    simp only [evalAny] at h
    split at h
    · rename_i hr; exact ⟨hr, rfl, e, hf, h⟩
    · exact h.elim
  | fuel + 1, listed, e, w, a, hf, h => by
    simp only [evalAny] at h
    split at h
    · rename_i hr; exact wpAny_done hr ⟨rfl, e, hf, h⟩ _
    · rename_i r rs hr
      split at h
      · rename_i i hi
        obtain ⟨hmem, hfree⟩ := findFree_spec hi
        unfold freePure at hfree
        unfold evalAt at h
        split at hfree
        · rename_i o ho
          rw [ho] at h
          simp only [Bool.and_eq_true, Bool.not_eq_true'] at hfree
          obtain ⟨⟨hk, hl⟩, hfr⟩ := hfree
          obtain ⟨e', hf', h'⟩ := guarded_sound hf h
          by_cases hw : Region.wanted o (yielded ops a.tmps) = true
          · rw [if_pos hw] at h'
            unfold evalOp at h'
            rw [hk] at h'
            obtain ⟨v, h1, h2⟩ := pureK_sound hf' h'
            refine wpAny_take ho hs hfr (by rw [hr]; simpa using hmem) (fun c a w h => by cases h.1) (.inl ⟨hw, fun w' => h1 w' (fun hh => by rw [hl] at hh; cases hh)⟩) ?_
            exact evalAny_sound hN hs fuel _ _ _ _ (hf'.put _ _) h2
          · rw [if_neg hw] at h'
            refine wpAny_take ho hs hfr (by rw [hr]; simpa using hmem) (fun c a w h => by cases h.1) (.inr ⟨by simpa using hw, rfl⟩) ?_
            exact evalAny_sound hN hs fuel _ _ _ _ (hf'.put _ _) h'
        · cases hfree
      · refine wpAny_all hr (by simp) fun i hi => ?_
        have h := allK_mem h i hi
        unfold evalAt at h
        split at h
        · rename_i o ho
          obtain ⟨e', hf', h'⟩ := guarded_sound hf h
          unfold wpOp
          simp only [ho]
          by_cases hw : Region.wanted o (yielded ops a.tmps) = true
          · rw [if_pos hw] at h' ⊢
            exact .inl (evalOp_sound hN hf' h' fun v w' hk => evalAny_sound hN hs fuel _ _ _ _ (hf'.put _ _) hk)
          · rw [if_neg hw] at h' ⊢
            exact evalAny_sound hN hs fuel _ _ _ _ (hf'.put _ _) h'
        · exact h.elim
theorem Drew.refl (w : World) : Drew w w := ⟨0, rfl⟩
theorem Drew.trans {a b c : World} (h : Drew a b) (k : Drew b c) : Drew a c := by
  obtain ⟨n, rfl⟩ := h; obtain ⟨m, rfl⟩ := k; exact ⟨n + m, by simp⟩
theorem Drew.heap {w w' : World} (h : Drew w w') : w'.heap = w.heap := by obtain ⟨n, rfl⟩ := h; rfl
theorem evalOpQ_sound {P : Program} (hN : NoCount P) {c : Cfg} {a : Act} {e : Env} (hf : Fits c.N a e) {o : Oper} {w : World} {K : Value → Prop} (h : evalOpQ std P c e o w K)
    {next : Act → Prop} (hn : ∀ v, K v → next (a.put o.dst v)) : o.quiet P a (Drew w) next := by
  unfold evalOpQ at h
  cases hp : kindPure P o with
  | true =>
    rw [hp] at h
    obtain ⟨v, h1, h2⟩ := pureK_sound hf h
    refine ⟨v, fun w' hw' => ?_, hn _ h2⟩
    unfold Oper.quietAt
    rw [h1 w' (fun _ => hw'.heap)]
    exact ⟨rfl, rfl⟩
  | false =>
    rw [hp] at h
    simp only [cond_false] at h
    cases hc : isPCall c.ps o with
    | true =>
      rw [hc] at h
      obtain ⟨f, args, v, h1, h2, h3⟩ := pcallE_sound hN hf h
      refine ⟨v, fun w' hw' => ?_, hn _ h3⟩
      unfold Oper.quietAt
      rw [h1 w']
      exact ⟨rfl, (h2 w').mono fun e w'' ⟨he, hw⟩ => ⟨he, by rw [hw]; exact hw'⟩⟩
    | false =>
      rw [hc] at h
      obtain ⟨f, args, v, h1, h2, h3⟩ := qcallE_sound hN hf h
      refine ⟨v, fun w' hw' => ?_, hn _ h3⟩
      unfold Oper.quietAt
      rw [h1 w']
      exact ⟨rfl, (h2 w' hw').mono fun e w'' ⟨he, hw⟩ => ⟨he, hw'.trans hw⟩⟩
theorem evalOpsQ_sound {P : Program} (hN : NoCount P) {c : Cfg} {ops : Array Oper} {w : World} {K : Env → Prop} {KA : Act → Prop} : ∀ (l : List Oper) (e : Env) (a : Act), Fits c.N a e → evalOpsQ std P c ops w l e K →
    (∀ a' e', Fits c.N a' e' → K e' → KA a') → wpQuiet P ops (Drew w) KA l a
  | [], e, a, hf, h, hk => hk a e hf h
  | o :: rest, e, a, hf, h, hk => by
    simp only [evalOpsQ] at h
    obtain ⟨e', hf', h'⟩ := guarded_sound hf h
    unfold wpQuiet
    split
    · rename_i hw
      rw [if_pos hw] at h'
      exact evalOpQ_sound hN hf' h' fun v hv => evalOpsQ_sound hN rest _ _ (hf'.put _ _) hv hk
    · rename_i hw
      rw [if_neg hw] at h'
      exact evalOpsQ_sound hN rest _ _ (hf'.put _ _) h' hk

/-! ### The code -/
def firstReg : Code → Option Nat
  | .region id _ _ => some id
  | .seq a b => match firstReg a with
    | some i => some i
    | none => firstReg b
  | .cond _ a b => match firstReg a with
    | some i => some i
    | none => firstReg b
  | .block _ b => firstReg b
  | .loop b => firstReg b
  | .scope b => firstReg b
  | _ => none
def keyOf (c : Code) : Nat :=
  match firstReg c with
  | some i => i
  | none => 0
def normQ (ex : Exit) (k : Env → World → Prop) (Q : Exit → Env → World → Prop) (e : Env) (w : World) : Prop :=
  match ex with
  | .normal => k e w
  | ex => Q ex e w
def blockQ (ex : Exit) (id : Nat) (Q : Exit → Env → World → Prop) (e : Env) (w : World) : Prop :=
  match ex with
  | .exit i => bif Nat.beq i id then Q .normal e w else Q (.exit i) e w
  | ex => Q ex e w
def scopeQ (ex : Exit) (Q : Exit → Env → World → Prop) (e : Env) (w : World) : Prop :=
  match ex with
  | .goto _ => False
  | ex => Q ex e w
/-- Where the ways of a test meet again: what is alive there, and the rest behind one word. -/
def contE (pr : Prims) (c : Cfg) (b : Code) (k : Env → World → Prop) (e : Env) (w : World) : Prop :=
  match findN c.joins (keyOf b) with
  | some l => pr.seg k (Env.restr e l) w
  | none => k e w
def wpC (pr : Prims) (P : Program) (c : Cfg) (D : Nat → Array Oper → Env → World → (Env → World → Prop) → Prop) : Code → (Exit → Env → World → Prop) → Env → World → Prop
  | .skip, Q, e, w => Q .normal e w
  | .region id ops draw, Q, e, w =>
    bif draw then (bif memN c.dq id then evalOpsQ pr P c ops w ops.toList e (fun e' => pr.drewAll w fun w' => Q .normal e' w') else pr.drewAll w fun w' => evalAny pr P c ops ops.size (Array.replicate ops.size false) e w' (Q .normal))
    else evalOps pr P c ops ops.toList e w (Q .normal)
  | .seq a b, Q, e, w => wpC pr P c D a (fun ex e w => normQ ex (fun e w => contE pr c b (fun e w => wpC pr P c D b Q e w) e w) Q e w) e w
  | .cond x a b, Q, e, w => match Env.ev e x with
    | some (.bool t) => bif t then wpC pr P c D a Q e w else wpC pr P c D b Q e w
    | _ => False
  | .block id b, Q, e, w => wpC pr P c D b (fun ex e w => blockQ ex id Q e w) e w
  | .loop b, Q, e, w => pr.loop (fun k e w => wpC pr P c D b (fun ex e w => normQ ex (fun e' w' => k (Env.restr e' (lookN c.loops (keyOf b))) w') Q e w) e w) (Env.restr e (lookN c.loops (keyOf b))) w
  | .exit id, Q, e, w => Q (.exit id) (Env.restr e (lookN c.exits id)) w
  | .scope b, Q, e, w => wpC pr P c D b (fun ex e w => scopeQ ex Q e w) e w
  | .ret, Q, e, w => Q .ret (Env.restr e c.ret) w
  | _, _, _, _ => False
/-- What is owed for the regions that draw their order: those listed in 'dq' are quiet; of the others 'ok' is asked. -/
def drawsOk (P : Program) (c : Cfg) (ok : Nat → Array Oper → Bool) : Code → Bool
  | .region id ops draw => bif draw then (bif memN c.dq id then (quietB P c ops && Region.lexB .any ops) else Region.noSelect ops) else true
  | .seq a b => drawsOk P c ok a && drawsOk P c ok b
  | .cond _ a b => drawsOk P c ok a && drawsOk P c ok b
  | .block _ b => drawsOk P c ok b
  | .loop b => drawsOk P c ok b
  | .scope b => drawsOk P c ok b
  | _ => true
/-- What 'D' owes. -/
def DrawOk (P : Program) (c : Cfg) (D : Nat → Array Oper → Env → World → (Env → World → Prop) → Prop) (ok : Nat → Array Oper → Bool) : Prop :=
  ∀ (id : Nat) (ops : Array Oper) (e : Env) (w : World) (K : Env → World → Prop) (a : Act), ok id ops = true → Fits c.N a e → D id ops e w K →
    (Code.region id ops true).wp P (fun ex a' w' => ex = .normal ∧ ∃ e', Fits c.N a' e' ∧ K e' w') a w
def QA (N : Nat) (Q : Exit → Env → World → Prop) (ex : Exit) (a : Act) (w : World) : Prop := ∃ e, Fits N a e ∧ Q ex e w
theorem contE_sound {c : Cfg} {a : Act} {e : Env} (h : Fits c.N a e) (b : Code) {k : Env → World → Prop} {w : World} (hc : contE std c b k e w) : ∃ e', Fits c.N a e' ∧ k e' w := by
  unfold contE at hc
  split at hc
  · exact ⟨_, h.restr _, hc⟩
  · exact ⟨e, h, hc⟩
theorem exists_least {p : Nat → Prop} (h : ∃ n, p n) : ∃ n, p n ∧ ∀ m, p m → n ≤ m := by
  obtain ⟨n, hn⟩ := h
  induction n using Nat.strongRecOn with
  | _ n ih =>
    by_cases hm : ∃ m, m < n ∧ p m
    · obtain ⟨m, hlt, hp⟩ := hm; exact ih m hlt hp
    · exact ⟨n, hn, fun m hp => by
        rcases Nat.lt_or_ge m n with hlt | hge
        · exact absurd ⟨m, hlt, hp⟩ hm
        · exact hge⟩
open Classical in
theorem wp_loop_env {P : Program} {N : Nat} {b : Code} {Q : Exit → Act → World → Prop} {σ : Type} {emb : σ → Env} {I : σ → World → Prop} {μ : σ → World → Nat} {a : Act} {w : World} {s0 : σ}
    (hf : Fits N a (emb s0)) (h0 : I s0 w)
    (round : ∀ a w s, Fits N a (emb s) → I s w → b.wp P (Exit.then (fun a' w' => ∃ s', Fits N a' (emb s') ∧ I s' w' ∧ μ s' w' < μ s w) Q) a w) : (Code.loop b).wp P Q a w := by
  let p : Act → World → Nat → Prop := fun a w n => ∃ s, Fits N a (emb s) ∧ I s w ∧ μ s w = n
  let m : Act → World → Nat := fun a w => if h : ∃ n, p a w n then Classical.choose (exists_least h) else 0
  have hm : ∀ a w, (h : ∃ n, p a w n) → p a w (m a w) ∧ ∀ n, p a w n → m a w ≤ n := fun a w h => by
    have := Classical.choose_spec (exists_least h)
    simp only [m, dif_pos h]
    exact this
  refine wp_loop (fun a w => ∃ s, Fits N a (emb s) ∧ I s w) m ⟨s0, hf, h0⟩ ?_
  rintro a w ⟨e1, hf1, hI1⟩
  obtain ⟨⟨e2, hf2, hI2, hμ⟩, _⟩ := hm a w ⟨_, e1, hf1, hI1, rfl⟩
  refine wp_mono (round a w e2 hf2 hI2) ?_
  intro ex a' w' hq
  cases ex <;> first | exact hq | skip
  obtain ⟨e', hf', hI', hlt⟩ := hq
  refine ⟨⟨e', hf', hI'⟩, ?_⟩
  have := (hm a' w' ⟨_, e', hf', hI', rfl⟩).2 _ ⟨e', hf', hI', rfl⟩
  omega
theorem wpC_sound {P : Program} (hN : NoCount P) (hm : P.follows .mixedOrders = true) {c : Cfg} {D : Nat → Array Oper → Env → World → (Env → World → Prop) → Prop} {ok : Nat → Array Oper → Bool} (hD : DrawOk P c D ok) :
    ∀ (b : Code), drawsOk P c ok b = true → ∀ (Q : Exit → Env → World → Prop) (e : Env) (w : World) (a : Act), Fits c.N a e → wpC std P c D b Q e w → b.wp P (QA c.N Q) a w := by
  intro b
  induction b with
  | skip => intro hok Q e w a hf h; exact wp_skip ⟨e, hf, h⟩
  | region id ops draw =>
    intro hok Q e w a hf h
    simp only [wpC] at h
    cases draw with
    | false =>
      refine wp_mono (wp_region_list (evalOps_sound hN _ _ _ _ hf h)) ?_
      rintro ex a' w' ⟨rfl, e', hf', hk⟩
      exact ⟨e', hf', hk⟩
    | true =>
      simp only [cond_true] at h
      simp only [drawsOk, cond_true] at hok
      cases hq : memN c.dq id with
      | true =>
        rw [hq] at h hok
        refine wp_region_quiet (C := Drew w) hm (Bool.and_eq_true_iff.1 hok).2 ⟨1, rfl⟩ (evalOpsQ_sound hN (KA := fun a' => ∀ w', Drew w w' → QA c.N Q .normal a' w') _ _ _ hf h ?_)
        intro a' e' hf' hk w' hw'
        exact ⟨e', hf', hk w' hw'⟩
      | false =>
        rw [hq] at h hok
        refine wp_mono (wp_region_any hm (evalAny_sound hN hok _ _ _ _ _ hf (h _ ⟨1, rfl⟩))) ?_
        rintro ex a' w' ⟨rfl, e', hf', hk⟩
        exact ⟨e', hf', hk⟩
  | seq x y ihx ihy =>
    intro hok Q e w a hf h
    simp only [drawsOk, Bool.and_eq_true] at hok
    refine wp_seq (wp_mono (ihx hok.1 _ e w a hf h) ?_)
    rintro ex a' w' ⟨e', hf', hq⟩
    cases ex <;> first | exact ⟨e', hf', hq⟩ | skip
    obtain ⟨e2, hf2, hk⟩ := contE_sound hf' y hq
    exact ihy hok.2 _ _ _ _ hf2 hk
  | cond x y z ihy ihz =>
    intro hok Q e w a hf h
    simp only [drawsOk, Bool.and_eq_true] at hok
    simp only [wpC] at h
    split at h
    · rename_i t ht
      refine wp_cond (hf.ev ht) ?_
      cases t with
      | true => exact ihy hok.1 _ _ _ _ hf h
      | false => exact ihz hok.2 _ _ _ _ hf h
    · exact h.elim
  | block id b ih =>
    intro hok Q e w a hf h
    refine wp_block (wp_mono (ih hok _ e w a hf h) ?_)
    rintro ex a' w' ⟨e', hf', hq⟩
    cases ex <;> first | exact ⟨e', hf', hq⟩ | skip
    rename_i i
    simp only [Exit.inBlock]
    simp only [blockQ] at hq
    cases hb : Nat.beq i id with
    | true => rw [hb] at hq; rw [if_pos (Nat.eq_of_beq_eq_true hb)]; exact ⟨e', hf', hq⟩
    | false => rw [hb] at hq; rw [if_neg (Nat.ne_of_beq_eq_false hb)]; exact ⟨e', hf', hq⟩
  | loop b ih =>
    intro hok Q e w a hf h
    obtain ⟨σ, emb, I, μ, s0, he, h0, hstep⟩ := h
    refine wp_loop_env (N := c.N) (emb := emb) (I := I) (μ := μ) (s0 := s0) (he ▸ hf.restr _) h0 ?_
    intro a w s hf hI
    refine wp_mono (ih hok _ (emb s) w a hf (hstep s w hI)) ?_
    rintro ex a' w' ⟨e', hf', hq⟩
    cases ex <;> first | exact ⟨e', hf', hq⟩ | skip
    obtain ⟨s', he', hI', hlt⟩ := hq
    exact ⟨s', he' ▸ hf'.restr _, hI', hlt⟩
  | exit id => intro hok Q e w a hf h; exact wp_exit ⟨_, hf.restr _, h⟩
  | scope b ih =>
    intro hok Q e w a hf h
    refine wp_scope_straight (wp_mono (ih hok _ e w a hf h) ?_)
    rintro ex a' w' ⟨e', hf', hq⟩
    cases ex <;> first | exact ⟨e', hf', hq⟩ | exact hq.elim
  | ret => intro hok Q e w a hf h; exact wp_ret ⟨_, hf.restr _, h⟩
  | rangeFunc => intro hok Q e w a hf h; exact h.elim
  | label => intro hok Q e w a hf h; exact h.elim
  | goto => intro hok Q e w a hf h; exact h.elim
  | refuse => intro hok Q e w a hf h; exact h.elim

/-! ### A function's call -/
def retVal (rs : List ResultVar) (e : Env) : Option Value :=
  match rs with
  | [] => some (.tuple #[])
  | [.tmp t] => Env.get e t
  | [.tmp t, .tmp u] => match Env.get e t, Env.get e u with
    | some x, some y => some (.tuple #[x, y])
    | _, _ => none
  | [.tmp t, .tmp u, .tmp v] => match Env.get e t, Env.get e u, Env.get e v with
    | some x, some y, some z => some (.tuple #[x, y, z])
    | _, _, _ => none
  | _ => none
def endQ (rs : List ResultVar) (R : Ending → World → Prop) (e : Env) (w : World) : Prop :=
  match retVal rs e with
  | some v => R (.returned v) w
  | none => False
def retQ (rs : List ResultVar) (R : Ending → World → Prop) : Exit → Env → World → Prop
  | .normal, e, w => endQ rs R e w
  | .ret, e, w => endQ rs R e w
  | _, _, _ => False
def argE : Nat → List Value → Env
  | _, [] => []
  | k, v :: r => (k, v) :: argE (k + 1) r
def codeOf (fn : Func) : Code :=
  match fn.body with
  | some c => c
  | none => .skip
/-- A piece of the code by its way from the top. -/
def sub : Code → List Nat → Code
  | c, [] => c
  | .seq a b, i :: r => bif Nat.beq i 0 then sub a r else sub b r
  | .cond _ a b, i :: r => bif Nat.beq i 0 then sub a r else sub b r
  | .block _ b, _ :: r => sub b r
  | .loop b, _ :: r => sub b r
  | .scope b, _ :: r => sub b r
  | c, _ => c
theorem get_argE : ∀ (l : List Value) (k i : Nat) (v : Value), Env.get (argE k l) i = some v → k ≤ i ∧ l[i - k]? = some v
  | [], k, i, v, h => by simp [argE, Env.get] at h
  | u :: r, k, i, v, h => by
    simp only [argE] at h
    rw [get_cons] at h
    by_cases hki : k = i
    · subst hki; simp only [if_true, Option.some.injEq] at h; subst h; simp
    · simp only [hki, if_false] at h
      obtain ⟨h1, h2⟩ := get_argE r (k + 1) i v h
      refine ⟨by omega, ?_⟩
      rw [show i - k = (i - (k + 1)) + 1 by omega, List.getElem?_cons_succ]
      exact h2
theorem retVal_run {P : Program} {N : Nat} {a : Act} {e : Env} (hf : Fits N a e) {fn : Func} {v : Value} (w : World) (h : retVal fn.results.toList e = some v) : (results fn a.tmps).run P w = .ok v w := by
  generalize hr : fn.results.toList = rs at h
  have hr' : fn.results = rs.toArray := by rw [← hr]
  unfold retVal at h
  split at h
  · simp only [Option.some.injEq] at h; subst h; simp [results, hr']
  · simp [results, hr', hf.at_ _ _ h]
  · split at h
    · rename_i x y hx hy; simp only [Option.some.injEq] at h; subst h; simp [results, hr', hf.at_ _ _ hx, hf.at_ _ _ hy]
    · cases h
  · split at h
    · rename_i x y z hx hy hz; simp only [Option.some.injEq] at h; subst h; simp [results, hr', hf.at_ _ _ hx, hf.at_ _ _ hy, hf.at_ _ _ hz]
    · cases h
  · cases h
theorem fits_args (n : Nat) (args : List Value) (h : args.length ≤ n) : Fits n { tmps := args.toArray ++ Array.replicate (n - args.toArray.size) undef, defers := [] } (argE 0 args) := by
  refine ⟨by simp; omega, rfl, fun i v hv => ?_⟩
  obtain ⟨_, h2⟩ := get_argE args 0 i v hv
  simp only [Nat.sub_zero] at h2
  have hi : i < args.length := (List.getElem?_eq_some_iff.1 h2).1
  rw [Array.getElem?_append_left (by simpa using hi)]
  simpa using h2
theorem calls_of {P : Program} (hN : NoCount P) (hm : P.follows .mixedOrders = true) {c : Cfg} {D : Nat → Array Oper → Env → World → (Env → World → Prop) → Prop} {ok : Nat → Array Oper → Bool} (hD : DrawOk P c D ok)
    {f : FuncId} {fn : Func} (hf : P.funcs[f]? = some fn) (hb : fn.body.isSome = true) {args : List Value} (hn : c.N = fn.ntmps) (hl : args.length ≤ fn.ntmps) (hok : drawsOk P c ok (codeOf fn) = true) {R : Ending → World → Prop} {w : World}
    (h : wpC std P c D (codeOf fn) (retQ fn.results.toList R) (argE 0 args) w) : Calls P f args.toArray w R := by
  obtain ⟨b, hb⟩ := Option.isSome_iff_exists.1 hb
  have hc : codeOf fn = b := by simp [codeOf, hb]
  rw [hc] at h hok
  refine calls_of_wp hf hb (wp_mono (wpC_sound hN hm hD b hok _ _ w _ (by rw [hn]; exact fits_args fn.ntmps args hl) h) ?_)
  rintro ex a w' ⟨e, hfit, hq⟩
  cases ex <;> simp only [retQ] at hq
  all_goals
    unfold endQ at hq
    split at hq
    · rename_i v hv; exact ⟨hfit.defers, v, retVal_run hfit w' hv, hq⟩
    · exact hq.elim

/-! ### Loops, for whoever proves -/
theorem LoopE.intro {step : (Env → World → Prop) → Env → World → Prop} {e : Env} {w : World} {σ : Type} (emb : σ → Env) (I : σ → World → Prop) (μ : σ → World → Nat) (s0 : σ)
    (he : e = emb s0) (h0 : I s0 w) (h : ∀ s w, I s w → step (fun e' w' => ∃ s', e' = emb s' ∧ I s' w' ∧ μ s' w' < μ s w) (emb s) w) : LoopE step e w :=
  ⟨σ, emb, I, μ, s0, he, h0, h⟩
end Go.Proofs.Ytmhgjfahgemblaa
