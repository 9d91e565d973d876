/- What each function does, step by step, written by a program (Gen.lean); each equation is checked by the kernel. -/
import Derived.Test.YthbjkgpbnfibkaaHead
namespace Go.Proofs.Ythbjkgpbnfibkaa
open Go
set_option linter.unusedVariables false
set_option maxRecDepth 100000
namespace spec_KnownCounts
@[reducible] def cfg : Cfg := ⟨52, [(10, [1, 5, 6, 7, 8, 9]), (6, [1, 5, 6, 7])], [(3, [1, 5, 6, 7, 8, 9]), (2, [1, 5, 6, 7, 8]), (1, [1, 5, 6, 7]), (0, [])], [], [4], [], [93, 51, 18, 26, 23, 44, 60, 19, 57, 123, 109, 126, 53, 100], [61, 85, 110, 74, 127, 120]⟩
def q7 (pr : Prims) (R : Ending → World → Prop) : Exit → Env → World → Prop := fun ex e w => normQ ex (fun e w => contE pr cfg (sub (codeOf Try.f49) [1, 1, 1, 1, 1]) (fun e w => wpC pr PP cfg (DD pr) (sub (codeOf Try.f49) [1, 1, 1, 1, 1]) (retQ Try.f49.results.toList R) e w) e w) (retQ Try.f49.results.toList R) e w
def q8 (pr : Prims) (R : Ending → World → Prop) : Exit → Env → World → Prop := fun ex e w => blockQ ex 0 (q7 pr R) e w
def q9 (pr : Prims) (k : Env → World → Prop) (Q : Exit → Env → World → Prop) : Exit → Env → World → Prop := fun ex e w => normQ ex (fun e w => contE pr cfg (sub (codeOf Try.f49) [1, 1, 1, 1, 0, 1, 0, 0, 1, 1]) (fun e w => wpC pr PP cfg (DD pr) (sub (codeOf Try.f49) [1, 1, 1, 1, 0, 1, 0, 0, 1, 1]) (fun ex e w => normQ ex (fun e' w' => k (Env.restr e' (lookN cfg.loops (keyOf (sub (codeOf Try.f49) [1, 1, 1, 1, 0, 1, 0, 0])))) w') Q e w) e w) e w) (fun ex e w => normQ ex (fun e' w' => k (Env.restr e' (lookN cfg.loops (keyOf (sub (codeOf Try.f49) [1, 1, 1, 1, 0, 1, 0, 0])))) w') Q e w) e w
def q10 (pr : Prims) (k : Env → World → Prop) (Q : Exit → Env → World → Prop) : Exit → Env → World → Prop := fun ex e w => blockQ ex 1 (q9 pr k Q) e w
def q11 (pr : Prims) (k : Env → World → Prop) (Q : Exit → Env → World → Prop) : Exit → Env → World → Prop := fun ex e w => normQ ex (fun e w => contE pr cfg (sub (codeOf Try.f49) [1, 1, 1, 1, 0, 1, 0, 0, 1, 0, 0, 1, 1]) (fun e w => wpC pr PP cfg (DD pr) (sub (codeOf Try.f49) [1, 1, 1, 1, 0, 1, 0, 0, 1, 0, 0, 1, 1]) (q10 pr k Q) e w) e w) (q10 pr k Q) e w
def q12 (pr : Prims) (k : Env → World → Prop) (Q : Exit → Env → World → Prop) : Exit → Env → World → Prop := fun ex e w => blockQ ex 2 (q11 pr k Q) e w
def emb6 (n_1 : Int) (counts_5 : Sl) (words_6 : Sl) (k_7 : Int) : Env := [(1, vI n_1), (5, Sl.v counts_5), (6, Sl.v words_6), (7, vI k_7)]
def emb10 (n_1 : Int) (counts_5 : Sl) (words_6 : Sl) (k_7 : Int) (fine_8 : Bool) (m_9 : Int) : Env := [(1, vI n_1), (5, Sl.v counts_5), (6, Sl.v words_6), (7, vI k_7), (8, .bool fine_8), (9, vI m_9)]
def x2 (n_1 : Int) (counts_5 : Sl) (words_6 : Sl) (k_7 : Int) (fine_8 : Bool) : Env := [(1, vI n_1), (5, Sl.v counts_5), (6, Sl.v words_6), (7, vI k_7), (8, .bool fine_8)]
def x0 : Env := []
def S10 (pr : Prims) (Q : Exit → Env → World → Prop) : (Env → World → Prop) → Env → World → Prop := fun k e w => wpC pr PP cfg (DD pr) (sub (codeOf Try.f49) [1, 1, 1, 1, 0, 1, 0, 0, 1, 0, 0, 1, 0, 1, 0, 0]) (fun ex e w => normQ ex (fun e' w' => k (Env.restr e' (lookN cfg.loops (keyOf (sub (codeOf Try.f49) [1, 1, 1, 1, 0, 1, 0, 0, 1, 0, 0, 1, 0, 1, 0, 0])))) w') Q e w) e w
def S6 (pr : Prims) (Q : Exit → Env → World → Prop) : (Env → World → Prop) → Env → World → Prop := fun k e w => wpC pr PP cfg (DD pr) (sub (codeOf Try.f49) [1, 1, 1, 1, 0, 1, 0, 0]) (fun ex e w => normQ ex (fun e' w' => k (Env.restr e' (lookN cfg.loops (keyOf (sub (codeOf Try.f49) [1, 1, 1, 1, 0, 1, 0, 0])))) w') Q e w) e w
def B10 (pr : Prims) (n_1 : Int) (counts_5 : Sl) (words_6 : Sl) (k_7 : Int) (fine_8 : Bool) (m_9 : Int) (w : World) (k : Env → World → Prop) (Q : Exit → Env → World → Prop) : Prop :=
  S10 pr Q k (emb10 n_1 counts_5 words_6 k_7 fine_8 m_9) w
def L10 (pr : Prims) (n_1 : Int) (counts_5 : Sl) (words_6 : Sl) (k_7 : Int) (fine_8 : Bool) (m_9 : Int) (w : World) (Q : Exit → Env → World → Prop) : Prop :=
  pr.loop (S10 pr Q) (emb10 n_1 counts_5 words_6 k_7 fine_8 m_9) w
def B6 (pr : Prims) (n_1 : Int) (counts_5 : Sl) (words_6 : Sl) (k_7 : Int) (w : World) (k : Env → World → Prop) (Q : Exit → Env → World → Prop) : Prop :=
  S6 pr Q k (emb6 n_1 counts_5 words_6 k_7) w
def L6 (pr : Prims) (n_1 : Int) (counts_5 : Sl) (words_6 : Sl) (k_7 : Int) (w : World) (Q : Exit → Env → World → Prop) : Prop :=
  pr.loop (S6 pr Q) (emb6 n_1 counts_5 words_6 k_7) w
def E (pr : Prims) (list_0 : Sl) (n_1 : Int) (w : World) (R : Ending → World → Prop) : Prop :=
  wpC pr PP cfg (DD pr) (codeOf Try.f49) (retQ Try.f49.results.toList R) (argE 0 [Sl.v list_0, vI n_1]) w
theorem B10_eq (pr : Prims) (n_1 : Int) (counts_5 : Sl) (words_6 : Sl) (k_7 : Int) (fine_8 : Bool) (m_9 : Int) (w : World) (k : Env → World → Prop) (Q : Exit → Env → World → Prop) : B10 pr n_1 counts_5 words_6 k_7 fine_8 m_9 w k Q = (
  bif decide (m_9 ≤ n_1) then (
  pr.drewAll w fun ω13 =>
  bif fine_8 then (
  pr.idxK 1 counts_5 m_9 fun (a14 : Addr) =>
  pr.idxK 1 words_6 k_7 fun (a15 : Addr) =>
  (pr.load1 (.int .i64) a14 ω13 fun (ξ16 : Int) =>
  pr.load1 .str a15 ω13 fun (ξ17 : ByteArray) =>
  pr.call1 (.int .i64) PP F.spec_l16Known #[.string ξ17, vI m_9] ω13 fun (ρ18 : Int) ω19 =>
  k (emb10 n_1 counts_5 words_6 k_7 (ξ16 == ρ18) (w64 (m_9 + 1))) ω19) ∧
  (pr.load1 .str a15 ω13 fun (ξ20 : ByteArray) =>
  (pr.load1 (.int .i64) a14 ω13 fun (ξ21 : Int) =>
  pr.call1 (.int .i64) PP F.spec_l16Known #[.string ξ20, vI m_9] ω13 fun (ρ22 : Int) ω23 =>
  k (emb10 n_1 counts_5 words_6 k_7 (ξ21 == ρ22) (w64 (m_9 + 1))) ω23) ∧
  (pr.call1 (.int .i64) PP F.spec_l16Known #[.string ξ20, vI m_9] ω13 fun (ρ24 : Int) ω25 =>
  pr.load1 (.int .i64) a14 ω25 fun (ξ26 : Int) =>
  k (emb10 n_1 counts_5 words_6 k_7 (ξ26 == ρ24) (w64 (m_9 + 1))) ω25)))
  else (
  (k (emb10 n_1 counts_5 words_6 k_7 false (w64 (m_9 + 1))) ω13) ∧
  ((k (emb10 n_1 counts_5 words_6 k_7 false (w64 (m_9 + 1))) ω13) ∧
  (k (emb10 n_1 counts_5 words_6 k_7 false (w64 (m_9 + 1))) ω13))))
  else (
  Q (.exit 2) (x2 n_1 counts_5 words_6 k_7 fine_8) w)) := by kernel_rfl
theorem B10_s (n_1 : Int) (counts_5 : Sl) (words_6 : Sl) (k_7 : Int) (fine_8 : Bool) (m_9 : Int) (w : World) (k : Env → World → Prop) (Q : Exit → Env → World → Prop) : B10 std n_1 counts_5 words_6 k_7 fine_8 m_9 w k Q = (
  bif decide (m_9 ≤ n_1) then (
  drewAll w fun ω13 =>
  bif fine_8 then (
  idxK 1 counts_5 m_9 fun (a14 : Addr) =>
  idxK 1 words_6 k_7 fun (a15 : Addr) =>
  (load1 (.int .i64) a14 ω13 fun (ξ16 : Int) =>
  load1 .str a15 ω13 fun (ξ17 : ByteArray) =>
  call1 (.int .i64) PP F.spec_l16Known #[.string ξ17, vI m_9] ω13 fun (ρ18 : Int) ω19 =>
  k (emb10 n_1 counts_5 words_6 k_7 (ξ16 == ρ18) (w64 (m_9 + 1))) ω19) ∧
  (load1 .str a15 ω13 fun (ξ20 : ByteArray) =>
  (load1 (.int .i64) a14 ω13 fun (ξ21 : Int) =>
  call1 (.int .i64) PP F.spec_l16Known #[.string ξ20, vI m_9] ω13 fun (ρ22 : Int) ω23 =>
  k (emb10 n_1 counts_5 words_6 k_7 (ξ21 == ρ22) (w64 (m_9 + 1))) ω23) ∧
  (call1 (.int .i64) PP F.spec_l16Known #[.string ξ20, vI m_9] ω13 fun (ρ24 : Int) ω25 =>
  load1 (.int .i64) a14 ω25 fun (ξ26 : Int) =>
  k (emb10 n_1 counts_5 words_6 k_7 (ξ26 == ρ24) (w64 (m_9 + 1))) ω25)))
  else (
  (k (emb10 n_1 counts_5 words_6 k_7 false (w64 (m_9 + 1))) ω13) ∧
  ((k (emb10 n_1 counts_5 words_6 k_7 false (w64 (m_9 + 1))) ω13) ∧
  (k (emb10 n_1 counts_5 words_6 k_7 false (w64 (m_9 + 1))) ω13))))
  else (
  Q (.exit 2) (x2 n_1 counts_5 words_6 k_7 fine_8) w)) := B10_eq std n_1 counts_5 words_6 k_7 fine_8 m_9 w k Q
theorem L10_rule (n_1 : Int) (counts_5 : Sl) (words_6 : Sl) (k_7 : Int) (fine_8 : Bool) (m_9 : Int) (w : World) (Q : Exit → Env → World → Prop) (I : Bool → Int → World → Prop) (μ : Bool → Int → World → Nat) (h0 : I fine_8 m_9 w)
    (h : ∀ (fine_8 : Bool) (m_9 : Int) (w' : World), I fine_8 m_9 w' → B10 std n_1 counts_5 words_6 k_7 fine_8 m_9 w' (fun e2 w2 => ∃ fine_8_n m_9_n, e2 = emb10 n_1 counts_5 words_6 k_7 fine_8_n m_9_n ∧ I fine_8_n m_9_n w2 ∧ μ fine_8_n m_9_n w2 < μ fine_8 m_9 w') Q) :
    L10 std n_1 counts_5 words_6 k_7 fine_8 m_9 w Q := by
  unfold L10
  refine LoopE.intro (σ := Bool × Int) (step := S10 std Q) (fun s => emb10 n_1 counts_5 words_6 k_7 s.1 s.2) (fun s w => I s.1 s.2 w) (fun s w => μ s.1 s.2 w) (fine_8, m_9) rfl h0 ?_
  intro s w' hI
  have h1 := h s.1 s.2 w' hI
  unfold B10 at h1
  simp only [Prod.exists]
  exact h1
theorem A10_2_eq (pr : Prims) (n_1 : Int) (counts_5 : Sl) (words_6 : Sl) (k_7 : Int) (fine_8 : Bool) (w : World) (k : Env → World → Prop) (Q : Exit → Env → World → Prop) : (q12 pr k Q) (.exit 2) (x2 n_1 counts_5 words_6 k_7 fine_8) w = (
  bif fine_8 then (
  pr.idxK 1 words_6 k_7 fun (a27 : Addr) =>
  pr.load1 .str a27 w fun (ξ28 : ByteArray) =>
  Q .ret [(4, .string ξ28)] w)
  else (
  k (emb6 n_1 counts_5 words_6 (w64 (k_7 + 1))) w)) := by kernel_rfl
theorem A10_2_s (n_1 : Int) (counts_5 : Sl) (words_6 : Sl) (k_7 : Int) (fine_8 : Bool) (w : World) (k : Env → World → Prop) (Q : Exit → Env → World → Prop) : (q12 std k Q) (.exit 2) (x2 n_1 counts_5 words_6 k_7 fine_8) w = (
  bif fine_8 then (
  idxK 1 words_6 k_7 fun (a27 : Addr) =>
  load1 .str a27 w fun (ξ28 : ByteArray) =>
  Q .ret [(4, .string ξ28)] w)
  else (
  k (emb6 n_1 counts_5 words_6 (w64 (k_7 + 1))) w)) := A10_2_eq std n_1 counts_5 words_6 k_7 fine_8 w k Q
theorem B6_eq (pr : Prims) (n_1 : Int) (counts_5 : Sl) (words_6 : Sl) (k_7 : Int) (w : World) (k : Env → World → Prop) (Q : Exit → Env → World → Prop) : B6 pr n_1 counts_5 words_6 k_7 w k Q = (
  bif decide (k_7 < (words_6.n : Int)) then (
  L10 pr n_1 counts_5 words_6 k_7 true 0 w (q12 pr k Q))
  else (
  Q (.exit 0) (x0) w)) := by kernel_rfl
theorem B6_s (n_1 : Int) (counts_5 : Sl) (words_6 : Sl) (k_7 : Int) (w : World) (k : Env → World → Prop) (Q : Exit → Env → World → Prop) : B6 std n_1 counts_5 words_6 k_7 w k Q = (
  bif decide (k_7 < (words_6.n : Int)) then (
  L10 std n_1 counts_5 words_6 k_7 true 0 w (q12 std k Q))
  else (
  Q (.exit 0) (x0) w)) := B6_eq std n_1 counts_5 words_6 k_7 w k Q
theorem L6_rule (n_1 : Int) (counts_5 : Sl) (words_6 : Sl) (k_7 : Int) (w : World) (Q : Exit → Env → World → Prop) (I : Int → World → Prop) (μ : Int → World → Nat) (h0 : I k_7 w)
    (h : ∀ (k_7 : Int) (w' : World), I k_7 w' → B6 std n_1 counts_5 words_6 k_7 w' (fun e2 w2 => ∃ k_7_n, e2 = emb6 n_1 counts_5 words_6 k_7_n ∧ I k_7_n w2 ∧ μ k_7_n w2 < μ k_7 w') Q) :
    L6 std n_1 counts_5 words_6 k_7 w Q := by
  unfold L6
  refine LoopE.intro (σ := Int) (step := S6 std Q) (fun s => emb6 n_1 counts_5 words_6 s) (fun s w => I s w) (fun s w => μ s w) k_7 rfl h0 ?_
  intro s w' hI
  have h1 := h s w' hI
  unfold B6 at h1
  exact h1
theorem A6_0_eq (pr : Prims) (w : World) (R : Ending → World → Prop) : (q8 pr R) (.exit 0) (x0) w = (
  R (.returned (.string (⟨#[111, 116, 104, 101, 114]⟩ : ByteArray))) w) := by kernel_rfl
theorem A6_0_s (w : World) (R : Ending → World → Prop) : (q8 std R) (.exit 0) (x0) w = (
  R (.returned (.string (⟨#[111, 116, 104, 101, 114]⟩ : ByteArray))) w) := A6_0_eq std w R
theorem R6_eq (pr : Prims) (v4 : Value) (w : World) (R : Ending → World → Prop) : (q8 pr R) .ret [(4, v4)] w = (
  R (.returned (v4)) w) := by kernel_rfl
theorem R6_s (v4 : Value) (w : World) (R : Ending → World → Prop) : (q8 std R) .ret [(4, v4)] w = (
  R (.returned (v4)) w) := R6_eq std v4 w R
theorem E_eq (pr : Prims) (list_0 : Sl) (n_1 : Int) (w : World) (R : Ending → World → Prop) : E pr list_0 n_1 w R = (
  pr.call1 .bool PP F.spec_IsBasis #[Sl.v list_0] w fun (ρ0 : Bool) ω1 =>
  bif !ρ0 then (
  R (.returned (.string (⟨#[]⟩ : ByteArray))) ω1)
  else (
  pr.pcall1 .bool PP F.spec_l1In #[vI n_1, vI 4, vI 6] fun (ρ2 : Bool) =>
  bif !ρ2 then (
  R (.returned (.string (⟨#[]⟩ : ByteArray))) ω1)
  else (
  pr.call1 .sl PP F.spec_ClassCounts #[Sl.v list_0, vI n_1] ω1 fun (ρ3 : Sl) ω4 =>
  pr.sem1 .sl PP (Instr.buildSlice T_Sstring 5 #[(0, .string (⟨#[111, 110, 101]⟩ : ByteArray)), (1, .string (⟨#[112, 111, 119, 101, 114, 115]⟩ : ByteArray)), (2, .string (⟨#[102, 105, 98, 111, 110, 97, 99, 99, 105]⟩ : ByteArray)), (3, .string (⟨#[99, 97, 116, 97, 108, 97, 110]⟩ : ByteArray)), (4, .string (⟨#[115, 99, 104, 114, 111, 101, 100, 101, 114]⟩ : ByteArray))]) ω4 fun (ρ5 : Sl) ω6 =>
  L6 pr n_1 ρ3 ρ5 0 ω6 (q8 pr R)))) := by kernel_rfl
theorem E_s (list_0 : Sl) (n_1 : Int) (w : World) (R : Ending → World → Prop) : E std list_0 n_1 w R = (
  call1 .bool PP F.spec_IsBasis #[Sl.v list_0] w fun (ρ0 : Bool) ω1 =>
  bif !ρ0 then (
  R (.returned (.string (⟨#[]⟩ : ByteArray))) ω1)
  else (
  pcall1 .bool PP F.spec_l1In #[vI n_1, vI 4, vI 6] fun (ρ2 : Bool) =>
  bif !ρ2 then (
  R (.returned (.string (⟨#[]⟩ : ByteArray))) ω1)
  else (
  call1 .sl PP F.spec_ClassCounts #[Sl.v list_0, vI n_1] ω1 fun (ρ3 : Sl) ω4 =>
  sem1 .sl PP (Instr.buildSlice T_Sstring 5 #[(0, .string (⟨#[111, 110, 101]⟩ : ByteArray)), (1, .string (⟨#[112, 111, 119, 101, 114, 115]⟩ : ByteArray)), (2, .string (⟨#[102, 105, 98, 111, 110, 97, 99, 99, 105]⟩ : ByteArray)), (3, .string (⟨#[99, 97, 116, 97, 108, 97, 110]⟩ : ByteArray)), (4, .string (⟨#[115, 99, 104, 114, 111, 101, 100, 101, 114]⟩ : ByteArray))]) ω4 fun (ρ5 : Sl) ω6 =>
  L6 std n_1 ρ3 ρ5 0 ω6 (q8 std R)))) := E_eq std list_0 n_1 w R
theorem drawsOk : drawsOk PP cfg okD (codeOf Try.f49) = true := by kernel_rfl
theorem calls (list_0 : Sl) (n_1 : Int) {w : World} {R : Ending → World → Prop} (h : E std list_0 n_1 w R) : Calls PP F.spec_KnownCounts #[Sl.v list_0, vI n_1] w R :=
  calls_of noCount mixed drawOk Try.func49 rfl (c := cfg) (args := [Sl.v list_0, vI n_1]) rfl (Nat.le_of_ble_eq_true (by kernel_rfl)) drawsOk h
end spec_KnownCounts

namespace spec_l16Known
@[reducible] def cfg : Cfg := ⟨27, [], [(0, [])], [], [4], [], [93, 51, 18, 26, 23, 44, 60, 19, 57, 123, 109, 126, 53, 100], [61, 85, 110, 74, 127, 120]⟩
def E (pr : Prims) (word_0 : ByteArray) (m_1 : Int) (w : World) (R : Ending → World → Prop) : Prop :=
  wpC pr PP cfg (DD pr) (codeOf Try.f86) (retQ Try.f86.results.toList R) (argE 0 [.string word_0, vI m_1]) w
theorem E_eq (pr : Prims) (word_0 : ByteArray) (m_1 : Int) (w : World) (R : Ending → World → Prop) : E pr word_0 m_1 w R = (
  bif word_0.toList == (⟨#[112, 111, 119, 101, 114, 115]⟩ : ByteArray).toList then (
  pr.pcall1 (.int .i64) PP F.spec_l1Max #[vI 0, vI (w64 (m_1 - 1))] fun (ρ0 : Int) =>
  (0 : Int) ≤ (IntKind.u64.wrap (ρ0)) ∧
  R (.returned (vI (sShl .i64 1 (IntKind.u64.wrap (ρ0))))) w)
  else (
  bif word_0.toList == (⟨#[102, 105, 98, 111, 110, 97, 99, 99, 105]⟩ : ByteArray).toList then (
  pr.call1 (.int .i64) PP F.spec_FibonacciNumber #[vI m_1] w fun (ρ1 : Int) ω2 =>
  R (.returned (vI ρ1)) ω2)
  else (
  bif word_0.toList == (⟨#[99, 97, 116, 97, 108, 97, 110]⟩ : ByteArray).toList then (
  pr.call1 (.int .i64) PP F.spec_CatalanNumber #[vI m_1] w fun (ρ3 : Int) ω4 =>
  R (.returned (vI ρ3)) ω4)
  else (
  bif word_0.toList == (⟨#[115, 99, 104, 114, 111, 101, 100, 101, 114]⟩ : ByteArray).toList then (
  pr.pcall1 (.int .i64) PP F.spec_l1Max #[vI 0, vI (w64 (m_1 - 1))] fun (ρ5 : Int) =>
  pr.call1 (.int .i64) PP F.spec_SchroederNumber #[vI ρ5] w fun (ρ6 : Int) ω7 =>
  R (.returned (vI ρ6)) ω7)
  else (
  R (.returned (vI 1)) w))))) := by kernel_rfl
theorem E_s (word_0 : ByteArray) (m_1 : Int) (w : World) (R : Ending → World → Prop) : E std word_0 m_1 w R = (
  bif word_0.toList == (⟨#[112, 111, 119, 101, 114, 115]⟩ : ByteArray).toList then (
  pcall1 (.int .i64) PP F.spec_l1Max #[vI 0, vI (w64 (m_1 - 1))] fun (ρ0 : Int) =>
  (0 : Int) ≤ (IntKind.u64.wrap (ρ0)) ∧
  R (.returned (vI (sShl .i64 1 (IntKind.u64.wrap (ρ0))))) w)
  else (
  bif word_0.toList == (⟨#[102, 105, 98, 111, 110, 97, 99, 99, 105]⟩ : ByteArray).toList then (
  call1 (.int .i64) PP F.spec_FibonacciNumber #[vI m_1] w fun (ρ1 : Int) ω2 =>
  R (.returned (vI ρ1)) ω2)
  else (
  bif word_0.toList == (⟨#[99, 97, 116, 97, 108, 97, 110]⟩ : ByteArray).toList then (
  call1 (.int .i64) PP F.spec_CatalanNumber #[vI m_1] w fun (ρ3 : Int) ω4 =>
  R (.returned (vI ρ3)) ω4)
  else (
  bif word_0.toList == (⟨#[115, 99, 104, 114, 111, 101, 100, 101, 114]⟩ : ByteArray).toList then (
  pcall1 (.int .i64) PP F.spec_l1Max #[vI 0, vI (w64 (m_1 - 1))] fun (ρ5 : Int) =>
  call1 (.int .i64) PP F.spec_SchroederNumber #[vI ρ5] w fun (ρ6 : Int) ω7 =>
  R (.returned (vI ρ6)) ω7)
  else (
  R (.returned (vI 1)) w))))) := E_eq std word_0 m_1 w R
theorem drawsOk : drawsOk PP cfg okD (codeOf Try.f86) = true := by kernel_rfl
theorem calls (word_0 : ByteArray) (m_1 : Int) {w : World} {R : Ending → World → Prop} (h : E std word_0 m_1 w R) : Calls PP F.spec_l16Known #[.string word_0, vI m_1] w R :=
  calls_of noCount mixed drawOk Try.func86 rfl (c := cfg) (args := [.string word_0, vI m_1]) rfl (Nat.le_of_ble_eq_true (by kernel_rfl)) drawsOk h
end spec_l16Known

namespace impl_KnownCounts
@[reducible] def cfg : Cfg := ⟨59, [(10, [5, 8, 9, 32, 33, 34, 38, 39, 40]), (6, [5, 32, 33, 34])], [(3, [5, 8, 9, 32, 33, 34, 38, 39, 40]), (2, [5, 8, 9, 32, 33, 34]), (1, [5, 32, 33, 34]), (0, [])], [], [4], [], [93, 51, 18, 26, 23, 44, 60, 19, 57, 123, 109, 126, 53, 100], [61, 85, 110, 74, 127, 120]⟩
def q11 (pr : Prims) (R : Ending → World → Prop) : Exit → Env → World → Prop := fun ex e w => normQ ex (fun e w => contE pr cfg (sub (codeOf Try.f50) [1, 1, 1, 1, 1]) (fun e w => wpC pr PP cfg (DD pr) (sub (codeOf Try.f50) [1, 1, 1, 1, 1]) (retQ Try.f50.results.toList R) e w) e w) (retQ Try.f50.results.toList R) e w
def q12 (pr : Prims) (R : Ending → World → Prop) : Exit → Env → World → Prop := fun ex e w => blockQ ex 0 (q11 pr R) e w
def q13 (pr : Prims) (k : Env → World → Prop) (Q : Exit → Env → World → Prop) : Exit → Env → World → Prop := fun ex e w => normQ ex (fun e w => contE pr cfg (sub (codeOf Try.f50) [1, 1, 1, 1, 0, 1, 0, 0, 1, 1, 1]) (fun e w => wpC pr PP cfg (DD pr) (sub (codeOf Try.f50) [1, 1, 1, 1, 0, 1, 0, 0, 1, 1, 1]) (fun ex e w => normQ ex (fun e' w' => k (Env.restr e' (lookN cfg.loops (keyOf (sub (codeOf Try.f50) [1, 1, 1, 1, 0, 1, 0, 0])))) w') Q e w) e w) e w) (fun ex e w => normQ ex (fun e' w' => k (Env.restr e' (lookN cfg.loops (keyOf (sub (codeOf Try.f50) [1, 1, 1, 1, 0, 1, 0, 0])))) w') Q e w) e w
def q14 (pr : Prims) (k : Env → World → Prop) (Q : Exit → Env → World → Prop) : Exit → Env → World → Prop := fun ex e w => blockQ ex 1 (q13 pr k Q) e w
def q20 (pr : Prims) (k : Env → World → Prop) (Q : Exit → Env → World → Prop) : Exit → Env → World → Prop := fun ex e w => normQ ex (fun e w => contE pr cfg (sub (codeOf Try.f50) [1, 1, 1, 1, 0, 1, 0, 0, 1, 1, 0, 0, 1, 1, 1]) (fun e w => wpC pr PP cfg (DD pr) (sub (codeOf Try.f50) [1, 1, 1, 1, 0, 1, 0, 0, 1, 1, 0, 0, 1, 1, 1]) (q14 pr k Q) e w) e w) (q14 pr k Q) e w
def q21 (pr : Prims) (k : Env → World → Prop) (Q : Exit → Env → World → Prop) : Exit → Env → World → Prop := fun ex e w => blockQ ex 2 (q20 pr k Q) e w
def emb6 (counts_5 : Sl) (t32 : Sl) (t33 : Int) (t34 : Int) : Env := [(5, Sl.v counts_5), (32, Sl.v t32), (33, vI t33), (34, vI t34)]
def emb10 (counts_5 : Sl) (k_8 : Addr) (same_9 : Bool) (t32 : Sl) (t33 : Int) (t34 : Int) (t38 : Sl) (t39 : Int) (t40 : Int) : Env := [(5, Sl.v counts_5), (8, .pointer (some k_8)), (9, .bool same_9), (32, Sl.v t32), (33, vI t33), (34, vI t34), (38, Sl.v t38), (39, vI t39), (40, vI t40)]
def x2 (counts_5 : Sl) (k_8 : Addr) (same_9 : Bool) (t32 : Sl) (t33 : Int) (t34 : Int) : Env := [(5, Sl.v counts_5), (8, .pointer (some k_8)), (9, .bool same_9), (32, Sl.v t32), (33, vI t33), (34, vI t34)]
def x0 : Env := []
def S10 (pr : Prims) (Q : Exit → Env → World → Prop) : (Env → World → Prop) → Env → World → Prop := fun k e w => wpC pr PP cfg (DD pr) (sub (codeOf Try.f50) [1, 1, 1, 1, 0, 1, 0, 0, 1, 1, 0, 0, 1, 1, 0, 1, 0, 0]) (fun ex e w => normQ ex (fun e' w' => k (Env.restr e' (lookN cfg.loops (keyOf (sub (codeOf Try.f50) [1, 1, 1, 1, 0, 1, 0, 0, 1, 1, 0, 0, 1, 1, 0, 1, 0, 0])))) w') Q e w) e w
def S6 (pr : Prims) (Q : Exit → Env → World → Prop) : (Env → World → Prop) → Env → World → Prop := fun k e w => wpC pr PP cfg (DD pr) (sub (codeOf Try.f50) [1, 1, 1, 1, 0, 1, 0, 0]) (fun ex e w => normQ ex (fun e' w' => k (Env.restr e' (lookN cfg.loops (keyOf (sub (codeOf Try.f50) [1, 1, 1, 1, 0, 1, 0, 0])))) w') Q e w) e w
def B10 (pr : Prims) (counts_5 : Sl) (k_8 : Addr) (same_9 : Bool) (t32 : Sl) (t33 : Int) (t34 : Int) (t38 : Sl) (t39 : Int) (t40 : Int) (w : World) (k : Env → World → Prop) (Q : Exit → Env → World → Prop) : Prop :=
  S10 pr Q k (emb10 counts_5 k_8 same_9 t32 t33 t34 t38 t39 t40) w
def L10 (pr : Prims) (counts_5 : Sl) (k_8 : Addr) (same_9 : Bool) (t32 : Sl) (t33 : Int) (t34 : Int) (t38 : Sl) (t39 : Int) (t40 : Int) (w : World) (Q : Exit → Env → World → Prop) : Prop :=
  pr.loop (S10 pr Q) (emb10 counts_5 k_8 same_9 t32 t33 t34 t38 t39 t40) w
def B6 (pr : Prims) (counts_5 : Sl) (t32 : Sl) (t33 : Int) (t34 : Int) (w : World) (k : Env → World → Prop) (Q : Exit → Env → World → Prop) : Prop :=
  S6 pr Q k (emb6 counts_5 t32 t33 t34) w
def L6 (pr : Prims) (counts_5 : Sl) (t32 : Sl) (t33 : Int) (t34 : Int) (w : World) (Q : Exit → Env → World → Prop) : Prop :=
  pr.loop (S6 pr Q) (emb6 counts_5 t32 t33 t34) w
def E (pr : Prims) (list_0 : Sl) (n_1 : Int) (w : World) (R : Ending → World → Prop) : Prop :=
  wpC pr PP cfg (DD pr) (codeOf Try.f50) (retQ Try.f50.results.toList R) (argE 0 [Sl.v list_0, vI n_1]) w
theorem B10_eq (pr : Prims) (counts_5 : Sl) (k_8 : Addr) (same_9 : Bool) (t32 : Sl) (t33 : Int) (t34 : Int) (t38 : Sl) (t39 : Int) (t40 : Int) (w : World) (k : Env → World → Prop) (Q : Exit → Env → World → Prop) : B10 pr counts_5 k_8 same_9 t32 t33 t34 t38 t39 t40 w k Q = (
  bif decide (t40 < t39) then (
  pr.idxK 1 t38 t40 fun (a22 : Addr) =>
  pr.load1 (.int .i64) a22 w fun (ξ23 : Int) =>
  bif same_9 then (
  pr.load1 .any (k_8.add 1) w fun (ξ24 : Value) =>
  pr.callV1 (.int .i64) PP (ξ24) [vI t40] w fun (ρ25 : Int) ω26 =>
  k (emb10 counts_5 k_8 (ξ23 == ρ25) t32 t33 t34 t38 t39 (w64 (t40 + 1))) ω26)
  else (
  k (emb10 counts_5 k_8 false t32 t33 t34 t38 t39 (w64 (t40 + 1))) w))
  else (
  Q (.exit 2) (x2 counts_5 k_8 same_9 t32 t33 t34) w)) := by kernel_rfl
theorem B10_s (counts_5 : Sl) (k_8 : Addr) (same_9 : Bool) (t32 : Sl) (t33 : Int) (t34 : Int) (t38 : Sl) (t39 : Int) (t40 : Int) (w : World) (k : Env → World → Prop) (Q : Exit → Env → World → Prop) : B10 std counts_5 k_8 same_9 t32 t33 t34 t38 t39 t40 w k Q = (
  bif decide (t40 < t39) then (
  idxK 1 t38 t40 fun (a22 : Addr) =>
  load1 (.int .i64) a22 w fun (ξ23 : Int) =>
  bif same_9 then (
  load1 .any (k_8.add 1) w fun (ξ24 : Value) =>
  callV1 (.int .i64) PP (ξ24) [vI t40] w fun (ρ25 : Int) ω26 =>
  k (emb10 counts_5 k_8 (ξ23 == ρ25) t32 t33 t34 t38 t39 (w64 (t40 + 1))) ω26)
  else (
  k (emb10 counts_5 k_8 false t32 t33 t34 t38 t39 (w64 (t40 + 1))) w))
  else (
  Q (.exit 2) (x2 counts_5 k_8 same_9 t32 t33 t34) w)) := B10_eq std counts_5 k_8 same_9 t32 t33 t34 t38 t39 t40 w k Q
theorem L10_rule (counts_5 : Sl) (k_8 : Addr) (same_9 : Bool) (t32 : Sl) (t33 : Int) (t34 : Int) (t38 : Sl) (t39 : Int) (t40 : Int) (w : World) (Q : Exit → Env → World → Prop) (I : Bool → Int → World → Prop) (μ : Bool → Int → World → Nat) (h0 : I same_9 t40 w)
    (h : ∀ (same_9 : Bool) (t40 : Int) (w' : World), I same_9 t40 w' → B10 std counts_5 k_8 same_9 t32 t33 t34 t38 t39 t40 w' (fun e2 w2 => ∃ same_9_n t40_n, e2 = emb10 counts_5 k_8 same_9_n t32 t33 t34 t38 t39 t40_n ∧ I same_9_n t40_n w2 ∧ μ same_9_n t40_n w2 < μ same_9 t40 w') Q) :
    L10 std counts_5 k_8 same_9 t32 t33 t34 t38 t39 t40 w Q := by
  unfold L10
  refine LoopE.intro (σ := Bool × Int) (step := S10 std Q) (fun s => emb10 counts_5 k_8 s.1 t32 t33 t34 t38 t39 s.2) (fun s w => I s.1 s.2 w) (fun s w => μ s.1 s.2 w) (same_9, t40) rfl h0 ?_
  intro s w' hI
  have h1 := h s.1 s.2 w' hI
  unfold B10 at h1
  simp only [Prod.exists]
  exact h1
theorem A10_2_eq (pr : Prims) (counts_5 : Sl) (k_8 : Addr) (same_9 : Bool) (t32 : Sl) (t33 : Int) (t34 : Int) (w : World) (k : Env → World → Prop) (Q : Exit → Env → World → Prop) : (q21 pr k Q) (.exit 2) (x2 counts_5 k_8 same_9 t32 t33 t34) w = (
  bif same_9 then (
  pr.load1 .str (k_8.add 0) w fun (ξ27 : ByteArray) =>
  Q .ret [(4, .string ξ27)] w)
  else (
  k (emb6 counts_5 t32 t33 (w64 (t34 + 1))) w)) := by kernel_rfl
theorem A10_2_s (counts_5 : Sl) (k_8 : Addr) (same_9 : Bool) (t32 : Sl) (t33 : Int) (t34 : Int) (w : World) (k : Env → World → Prop) (Q : Exit → Env → World → Prop) : (q21 std k Q) (.exit 2) (x2 counts_5 k_8 same_9 t32 t33 t34) w = (
  bif same_9 then (
  load1 .str (k_8.add 0) w fun (ξ27 : ByteArray) =>
  Q .ret [(4, .string ξ27)] w)
  else (
  k (emb6 counts_5 t32 t33 (w64 (t34 + 1))) w)) := A10_2_eq std counts_5 k_8 same_9 t32 t33 t34 w k Q
theorem B6_eq (pr : Prims) (counts_5 : Sl) (t32 : Sl) (t33 : Int) (t34 : Int) (w : World) (k : Env → World → Prop) (Q : Exit → Env → World → Prop) : B6 pr counts_5 t32 t33 t34 w k Q = (
  bif decide (t34 < t33) then (
  pr.idxK 2 t32 t34 fun (a15 : Addr) =>
  pr.loadA PP T_struct___name_string__count_func_int__int__ a15 w fun (ξ16 : Value) =>
  pr.newK T_struct___name_string__count_func_int__int__ #[.string (⟨#[]⟩ : ByteArray), .nilFunc] w fun (a17 : Addr) ω18 =>
  pr.sem0 PP (storeVar T_struct___name_string__count_func_int__int__ a17 ξ16) ω18 fun ω19 =>
  L10 pr counts_5 a17 true t32 t33 t34 counts_5 (counts_5.n : Int) 0 ω19 (q21 pr k Q))
  else (
  Q (.exit 0) (x0) w)) := by kernel_rfl
theorem B6_s (counts_5 : Sl) (t32 : Sl) (t33 : Int) (t34 : Int) (w : World) (k : Env → World → Prop) (Q : Exit → Env → World → Prop) : B6 std counts_5 t32 t33 t34 w k Q = (
  bif decide (t34 < t33) then (
  idxK 2 t32 t34 fun (a15 : Addr) =>
  loadA PP T_struct___name_string__count_func_int__int__ a15 w fun (ξ16 : Value) =>
  newK T_struct___name_string__count_func_int__int__ #[.string (⟨#[]⟩ : ByteArray), .nilFunc] w fun (a17 : Addr) ω18 =>
  sem0 PP (storeVar T_struct___name_string__count_func_int__int__ a17 ξ16) ω18 fun ω19 =>
  L10 std counts_5 a17 true t32 t33 t34 counts_5 (counts_5.n : Int) 0 ω19 (q21 std k Q))
  else (
  Q (.exit 0) (x0) w)) := B6_eq std counts_5 t32 t33 t34 w k Q
theorem L6_rule (counts_5 : Sl) (t32 : Sl) (t33 : Int) (t34 : Int) (w : World) (Q : Exit → Env → World → Prop) (I : Int → World → Prop) (μ : Int → World → Nat) (h0 : I t34 w)
    (h : ∀ (t34 : Int) (w' : World), I t34 w' → B6 std counts_5 t32 t33 t34 w' (fun e2 w2 => ∃ t34_n, e2 = emb6 counts_5 t32 t33 t34_n ∧ I t34_n w2 ∧ μ t34_n w2 < μ t34 w') Q) :
    L6 std counts_5 t32 t33 t34 w Q := by
  unfold L6
  refine LoopE.intro (σ := Int) (step := S6 std Q) (fun s => emb6 counts_5 t32 t33 s) (fun s w => I s w) (fun s w => μ s w) t34 rfl h0 ?_
  intro s w' hI
  have h1 := h s w' hI
  unfold B6 at h1
  exact h1
theorem A6_0_eq (pr : Prims) (w : World) (R : Ending → World → Prop) : (q12 pr R) (.exit 0) (x0) w = (
  R (.returned (.string (⟨#[111, 116, 104, 101, 114]⟩ : ByteArray))) w) := by kernel_rfl
theorem A6_0_s (w : World) (R : Ending → World → Prop) : (q12 std R) (.exit 0) (x0) w = (
  R (.returned (.string (⟨#[111, 116, 104, 101, 114]⟩ : ByteArray))) w) := A6_0_eq std w R
theorem R6_eq (pr : Prims) (v4 : Value) (w : World) (R : Ending → World → Prop) : (q12 pr R) .ret [(4, v4)] w = (
  R (.returned (v4)) w) := by kernel_rfl
theorem R6_s (v4 : Value) (w : World) (R : Ending → World → Prop) : (q12 std R) .ret [(4, v4)] w = (
  R (.returned (v4)) w) := R6_eq std v4 w R
theorem E_eq (pr : Prims) (list_0 : Sl) (n_1 : Int) (w : World) (R : Ending → World → Prop) : E pr list_0 n_1 w R = (
  pr.call1 .bool PP F.impl_IsBasis #[Sl.v list_0] w fun (ρ0 : Bool) ω1 =>
  bif !ρ0 then (
  R (.returned (.string (⟨#[]⟩ : ByteArray))) ω1)
  else (
  bif decide (n_1 < 4) then (
  R (.returned (.string (⟨#[]⟩ : ByteArray))) ω1)
  else (
  bif decide (n_1 > 6) then (
  R (.returned (.string (⟨#[]⟩ : ByteArray))) ω1)
  else (
  pr.call1 .sl PP F.impl_ClassCounts #[Sl.v list_0, vI n_1] ω1 fun (ρ2 : Sl) ω3 =>
  pr.buildK PP T_struct___name_string__count_func_int__int__ [(0, .string (⟨#[111, 110, 101]⟩ : ByteArray)), (1, .func (.func F.impl_KnownCountsL1) #[] #[])] fun (v4 : Value) =>
  pr.buildK PP T_struct___name_string__count_func_int__int__ [(0, .string (⟨#[112, 111, 119, 101, 114, 115]⟩ : ByteArray)), (1, .func (.func F.impl_KnownCountsL2) #[] #[])] fun (v5 : Value) =>
  pr.buildK PP T_struct___name_string__count_func_int__int__ [(0, .string (⟨#[102, 105, 98, 111, 110, 97, 99, 99, 105]⟩ : ByteArray)), (1, .func (.func F.impl_FibonacciNumber) #[] #[])] fun (v6 : Value) =>
  pr.buildK PP T_struct___name_string__count_func_int__int__ [(0, .string (⟨#[99, 97, 116, 97, 108, 97, 110]⟩ : ByteArray)), (1, .func (.func F.impl_CatalanNumber) #[] #[])] fun (v7 : Value) =>
  pr.buildK PP T_struct___name_string__count_func_int__int__ [(0, .string (⟨#[115, 99, 104, 114, 111, 101, 100, 101, 114]⟩ : ByteArray)), (1, .func (.func F.impl_KnownCountsL3) #[] #[])] fun (v8 : Value) =>
  pr.sem1 .sl PP (Instr.buildSlice T_Sstruct___name_string__count_func_int__int__ 5 #[(0, v4), (1, v5), (2, v6), (3, v7), (4, v8)]) ω3 fun (ρ9 : Sl) ω10 =>
  L6 pr ρ2 ρ9 (ρ9.n : Int) 0 ω10 (q12 pr R))))) := by kernel_rfl
theorem E_s (list_0 : Sl) (n_1 : Int) (w : World) (R : Ending → World → Prop) : E std list_0 n_1 w R = (
  call1 .bool PP F.impl_IsBasis #[Sl.v list_0] w fun (ρ0 : Bool) ω1 =>
  bif !ρ0 then (
  R (.returned (.string (⟨#[]⟩ : ByteArray))) ω1)
  else (
  bif decide (n_1 < 4) then (
  R (.returned (.string (⟨#[]⟩ : ByteArray))) ω1)
  else (
  bif decide (n_1 > 6) then (
  R (.returned (.string (⟨#[]⟩ : ByteArray))) ω1)
  else (
  call1 .sl PP F.impl_ClassCounts #[Sl.v list_0, vI n_1] ω1 fun (ρ2 : Sl) ω3 =>
  buildK PP T_struct___name_string__count_func_int__int__ [(0, .string (⟨#[111, 110, 101]⟩ : ByteArray)), (1, .func (.func F.impl_KnownCountsL1) #[] #[])] fun (v4 : Value) =>
  buildK PP T_struct___name_string__count_func_int__int__ [(0, .string (⟨#[112, 111, 119, 101, 114, 115]⟩ : ByteArray)), (1, .func (.func F.impl_KnownCountsL2) #[] #[])] fun (v5 : Value) =>
  buildK PP T_struct___name_string__count_func_int__int__ [(0, .string (⟨#[102, 105, 98, 111, 110, 97, 99, 99, 105]⟩ : ByteArray)), (1, .func (.func F.impl_FibonacciNumber) #[] #[])] fun (v6 : Value) =>
  buildK PP T_struct___name_string__count_func_int__int__ [(0, .string (⟨#[99, 97, 116, 97, 108, 97, 110]⟩ : ByteArray)), (1, .func (.func F.impl_CatalanNumber) #[] #[])] fun (v7 : Value) =>
  buildK PP T_struct___name_string__count_func_int__int__ [(0, .string (⟨#[115, 99, 104, 114, 111, 101, 100, 101, 114]⟩ : ByteArray)), (1, .func (.func F.impl_KnownCountsL3) #[] #[])] fun (v8 : Value) =>
  sem1 .sl PP (Instr.buildSlice T_Sstruct___name_string__count_func_int__int__ 5 #[(0, v4), (1, v5), (2, v6), (3, v7), (4, v8)]) ω3 fun (ρ9 : Sl) ω10 =>
  L6 std ρ2 ρ9 (ρ9.n : Int) 0 ω10 (q12 std R))))) := E_eq std list_0 n_1 w R
theorem drawsOk : drawsOk PP cfg okD (codeOf Try.f50) = true := by kernel_rfl
theorem calls (list_0 : Sl) (n_1 : Int) {w : World} {R : Ending → World → Prop} (h : E std list_0 n_1 w R) : Calls PP F.impl_KnownCounts #[Sl.v list_0, vI n_1] w R :=
  calls_of noCount mixed drawOk Try.func50 rfl (c := cfg) (args := [Sl.v list_0, vI n_1]) rfl (Nat.le_of_ble_eq_true (by kernel_rfl)) drawsOk h
end impl_KnownCounts

namespace impl_KnownCountsL1
@[reducible] def cfg : Cfg := ⟨3, [], [], [], [2], [], [93, 51, 18, 26, 23, 44, 60, 19, 57, 123, 109, 126, 53, 100], [61, 85, 110, 74, 127, 120]⟩
def E (pr : Prims) (m_0 : Int) (w : World) (R : Ending → World → Prop) : Prop :=
  wpC pr PP cfg (DD pr) (codeOf Try.f87) (retQ Try.f87.results.toList R) (argE 0 [vI m_0]) w
theorem E_eq (pr : Prims) (m_0 : Int) (w : World) (R : Ending → World → Prop) : E pr m_0 w R = (
  R (.returned (vI 1)) w) := by kernel_rfl
theorem E_s (m_0 : Int) (w : World) (R : Ending → World → Prop) : E std m_0 w R = (
  R (.returned (vI 1)) w) := E_eq std m_0 w R
theorem drawsOk : drawsOk PP cfg okD (codeOf Try.f87) = true := by kernel_rfl
theorem calls (m_0 : Int) {w : World} {R : Ending → World → Prop} (h : E std m_0 w R) : Calls PP F.impl_KnownCountsL1 #[vI m_0] w R :=
  calls_of noCount mixed drawOk Try.func87 rfl (c := cfg) (args := [vI m_0]) rfl (Nat.le_of_ble_eq_true (by kernel_rfl)) drawsOk h
end impl_KnownCountsL1

namespace impl_KnownCountsL2
@[reducible] def cfg : Cfg := ⟨7, [], [], [], [2], [], [93, 51, 18, 26, 23, 44, 60, 19, 57, 123, 109, 126, 53, 100], [61, 85, 110, 74, 127, 120]⟩
def E (pr : Prims) (m_0 : Int) (w : World) (R : Ending → World → Prop) : Prop :=
  wpC pr PP cfg (DD pr) (codeOf Try.f88) (retQ Try.f88.results.toList R) (argE 0 [vI m_0]) w
theorem E_eq (pr : Prims) (m_0 : Int) (w : World) (R : Ending → World → Prop) : E pr m_0 w R = (
  (0 : Int) ≤ (if 0 > (w64 (m_0 - 1)) then 0 else w64 (m_0 - 1)) ∧
  R (.returned (vI (sShl .i64 1 (if 0 > (w64 (m_0 - 1)) then 0 else w64 (m_0 - 1))))) w) := by kernel_rfl
theorem E_s (m_0 : Int) (w : World) (R : Ending → World → Prop) : E std m_0 w R = (
  (0 : Int) ≤ (if 0 > (w64 (m_0 - 1)) then 0 else w64 (m_0 - 1)) ∧
  R (.returned (vI (sShl .i64 1 (if 0 > (w64 (m_0 - 1)) then 0 else w64 (m_0 - 1))))) w) := E_eq std m_0 w R
theorem drawsOk : drawsOk PP cfg okD (codeOf Try.f88) = true := by kernel_rfl
theorem calls (m_0 : Int) {w : World} {R : Ending → World → Prop} (h : E std m_0 w R) : Calls PP F.impl_KnownCountsL2 #[vI m_0] w R :=
  calls_of noCount mixed drawOk Try.func88 rfl (c := cfg) (args := [vI m_0]) rfl (Nat.le_of_ble_eq_true (by kernel_rfl)) drawsOk h
end impl_KnownCountsL2

namespace impl_KnownCountsL3
@[reducible] def cfg : Cfg := ⟨7, [], [], [], [2], [], [93, 51, 18, 26, 23, 44, 60, 19, 57, 123, 109, 126, 53, 100], [61, 85, 110, 74, 127, 120]⟩
def E (pr : Prims) (m_0 : Int) (w : World) (R : Ending → World → Prop) : Prop :=
  wpC pr PP cfg (DD pr) (codeOf Try.f91) (retQ Try.f91.results.toList R) (argE 0 [vI m_0]) w
theorem E_eq (pr : Prims) (m_0 : Int) (w : World) (R : Ending → World → Prop) : E pr m_0 w R = (
  pr.call1 (.int .i64) PP F.impl_SchroederNumber #[vI (if 0 > (w64 (m_0 - 1)) then 0 else w64 (m_0 - 1))] w fun (ρ0 : Int) ω1 =>
  R (.returned (vI ρ0)) ω1) := by kernel_rfl
theorem E_s (m_0 : Int) (w : World) (R : Ending → World → Prop) : E std m_0 w R = (
  call1 (.int .i64) PP F.impl_SchroederNumber #[vI (if 0 > (w64 (m_0 - 1)) then 0 else w64 (m_0 - 1))] w fun (ρ0 : Int) ω1 =>
  R (.returned (vI ρ0)) ω1) := E_eq std m_0 w R
theorem drawsOk : drawsOk PP cfg okD (codeOf Try.f91) = true := by kernel_rfl
theorem calls (m_0 : Int) {w : World} {R : Ending → World → Prop} (h : E std m_0 w R) : Calls PP F.impl_KnownCountsL3 #[vI m_0] w R :=
  calls_of noCount mixed drawOk Try.func91 rfl (c := cfg) (args := [vI m_0]) rfl (Nat.le_of_ble_eq_true (by kernel_rfl)) drawsOk h
end impl_KnownCountsL3

namespace spec_FibonacciNumber
@[reducible] def cfg : Cfg := ⟨21, [(6, [0, 3, 4, 5])], [(1, [0, 3, 4, 5]), (0, [4])], [], [2], [], [93, 51, 18, 26, 23, 44, 60, 19, 57, 123, 109, 126, 53, 100], [61, 85, 110, 74, 127, 120]⟩
def q1 (pr : Prims) (R : Ending → World → Prop) : Exit → Env → World → Prop := fun ex e w => normQ ex (fun e w => contE pr cfg (sub (codeOf Try.f111) [1, 1, 1, 1, 1]) (fun e w => wpC pr PP cfg (DD pr) (sub (codeOf Try.f111) [1, 1, 1, 1, 1]) (retQ Try.f111.results.toList R) e w) e w) (retQ Try.f111.results.toList R) e w
def q2 (pr : Prims) (R : Ending → World → Prop) : Exit → Env → World → Prop := fun ex e w => blockQ ex 0 (q1 pr R) e w
def emb6 (n_0 : Int) (a_3 : Int) (b_4 : Int) (k_5 : Int) : Env := [(0, vI n_0), (3, vI a_3), (4, vI b_4), (5, vI k_5)]
def x0 (b_4 : Int) : Env := [(4, vI b_4)]
def S6 (pr : Prims) (Q : Exit → Env → World → Prop) : (Env → World → Prop) → Env → World → Prop := fun k e w => wpC pr PP cfg (DD pr) (sub (codeOf Try.f111) [1, 1, 1, 1, 0, 1, 0, 0]) (fun ex e w => normQ ex (fun e' w' => k (Env.restr e' (lookN cfg.loops (keyOf (sub (codeOf Try.f111) [1, 1, 1, 1, 0, 1, 0, 0])))) w') Q e w) e w
def B6 (pr : Prims) (n_0 : Int) (a_3 : Int) (b_4 : Int) (k_5 : Int) (w : World) (k : Env → World → Prop) (Q : Exit → Env → World → Prop) : Prop :=
  S6 pr Q k (emb6 n_0 a_3 b_4 k_5) w
def L6 (pr : Prims) (n_0 : Int) (a_3 : Int) (b_4 : Int) (k_5 : Int) (w : World) (Q : Exit → Env → World → Prop) : Prop :=
  pr.loop (S6 pr Q) (emb6 n_0 a_3 b_4 k_5) w
def E (pr : Prims) (n_0 : Int) (w : World) (R : Ending → World → Prop) : Prop :=
  wpC pr PP cfg (DD pr) (codeOf Try.f111) (retQ Try.f111.results.toList R) (argE 0 [vI n_0]) w
theorem B6_eq (pr : Prims) (n_0 : Int) (a_3 : Int) (b_4 : Int) (k_5 : Int) (w : World) (k : Env → World → Prop) (Q : Exit → Env → World → Prop) : B6 pr n_0 a_3 b_4 k_5 w k Q = (
  bif decide (k_5 < n_0) then (
  k (emb6 n_0 b_4 (w64 (a_3 + b_4)) (w64 (k_5 + 1))) w)
  else (
  Q (.exit 0) (x0 b_4) w)) := by kernel_rfl
theorem B6_s (n_0 : Int) (a_3 : Int) (b_4 : Int) (k_5 : Int) (w : World) (k : Env → World → Prop) (Q : Exit → Env → World → Prop) : B6 std n_0 a_3 b_4 k_5 w k Q = (
  bif decide (k_5 < n_0) then (
  k (emb6 n_0 b_4 (w64 (a_3 + b_4)) (w64 (k_5 + 1))) w)
  else (
  Q (.exit 0) (x0 b_4) w)) := B6_eq std n_0 a_3 b_4 k_5 w k Q
theorem L6_rule (n_0 : Int) (a_3 : Int) (b_4 : Int) (k_5 : Int) (w : World) (Q : Exit → Env → World → Prop) (I : Int → Int → Int → World → Prop) (μ : Int → Int → Int → World → Nat) (h0 : I a_3 b_4 k_5 w)
    (h : ∀ (a_3 : Int) (b_4 : Int) (k_5 : Int) (w' : World), I a_3 b_4 k_5 w' → B6 std n_0 a_3 b_4 k_5 w' (fun e2 w2 => ∃ a_3_n b_4_n k_5_n, e2 = emb6 n_0 a_3_n b_4_n k_5_n ∧ I a_3_n b_4_n k_5_n w2 ∧ μ a_3_n b_4_n k_5_n w2 < μ a_3 b_4 k_5 w') Q) :
    L6 std n_0 a_3 b_4 k_5 w Q := by
  unfold L6
  refine LoopE.intro (σ := Int × Int × Int) (step := S6 std Q) (fun s => emb6 n_0 s.1 s.2.1 s.2.2) (fun s w => I s.1 s.2.1 s.2.2 w) (fun s w => μ s.1 s.2.1 s.2.2 w) (a_3, b_4, k_5) rfl h0 ?_
  intro s w' hI
  have h1 := h s.1 s.2.1 s.2.2 w' hI
  unfold B6 at h1
  simp only [Prod.exists]
  exact h1
theorem A6_0_eq (pr : Prims) (b_4 : Int) (w : World) (R : Ending → World → Prop) : (q2 pr R) (.exit 0) (x0 b_4) w = (
  R (.returned (vI b_4)) w) := by kernel_rfl
theorem A6_0_s (b_4 : Int) (w : World) (R : Ending → World → Prop) : (q2 std R) (.exit 0) (x0 b_4) w = (
  R (.returned (vI b_4)) w) := A6_0_eq std b_4 w R
theorem E_eq (pr : Prims) (n_0 : Int) (w : World) (R : Ending → World → Prop) : E pr n_0 w R = (
  pr.pcall1 .bool PP F.spec_l1In #[vI n_0, vI 0, vI 40] fun (ρ0 : Bool) =>
  bif !ρ0 then (
  R (.returned (vI (-1))) w)
  else (
  L6 pr n_0 1 1 1 w (q2 pr R))) := by kernel_rfl
theorem E_s (n_0 : Int) (w : World) (R : Ending → World → Prop) : E std n_0 w R = (
  pcall1 .bool PP F.spec_l1In #[vI n_0, vI 0, vI 40] fun (ρ0 : Bool) =>
  bif !ρ0 then (
  R (.returned (vI (-1))) w)
  else (
  L6 std n_0 1 1 1 w (q2 std R))) := E_eq std n_0 w R
theorem drawsOk : drawsOk PP cfg okD (codeOf Try.f111) = true := by kernel_rfl
theorem calls (n_0 : Int) {w : World} {R : Ending → World → Prop} (h : E std n_0 w R) : Calls PP F.spec_FibonacciNumber #[vI n_0] w R :=
  calls_of noCount mixed drawOk Try.func111 rfl (c := cfg) (args := [vI n_0]) rfl (Nat.le_of_ble_eq_true (by kernel_rfl)) drawsOk h
end spec_FibonacciNumber

namespace impl_FibonacciNumber
@[reducible] def cfg : Cfg := ⟨20, [(5, [3, 4, 11, 12])], [(1, [3, 4, 11, 12]), (0, [3])], [], [2], [], [93, 51, 18, 26, 23, 44, 60, 19, 57, 123, 109, 126, 53, 100], [61, 85, 110, 74, 127, 120]⟩
def q0 (pr : Prims) (R : Ending → World → Prop) : Exit → Env → World → Prop := fun ex e w => normQ ex (fun e w => contE pr cfg (sub (codeOf Try.f89) [1, 1, 1, 1]) (fun e w => wpC pr PP cfg (DD pr) (sub (codeOf Try.f89) [1, 1, 1, 1]) (retQ Try.f89.results.toList R) e w) e w) (retQ Try.f89.results.toList R) e w
def q1 (pr : Prims) (R : Ending → World → Prop) : Exit → Env → World → Prop := fun ex e w => blockQ ex 0 (q0 pr R) e w
def emb5 (a_3 : Int) (b_4 : Int) (t11 : Int) (t12 : Int) : Env := [(3, vI a_3), (4, vI b_4), (11, vI t11), (12, vI t12)]
def x0 (a_3 : Int) : Env := [(3, vI a_3)]
def S5 (pr : Prims) (Q : Exit → Env → World → Prop) : (Env → World → Prop) → Env → World → Prop := fun k e w => wpC pr PP cfg (DD pr) (sub (codeOf Try.f89) [1, 1, 1, 0, 1, 0, 0]) (fun ex e w => normQ ex (fun e' w' => k (Env.restr e' (lookN cfg.loops (keyOf (sub (codeOf Try.f89) [1, 1, 1, 0, 1, 0, 0])))) w') Q e w) e w
def B5 (pr : Prims) (a_3 : Int) (b_4 : Int) (t11 : Int) (t12 : Int) (w : World) (k : Env → World → Prop) (Q : Exit → Env → World → Prop) : Prop :=
  S5 pr Q k (emb5 a_3 b_4 t11 t12) w
def L5 (pr : Prims) (a_3 : Int) (b_4 : Int) (t11 : Int) (t12 : Int) (w : World) (Q : Exit → Env → World → Prop) : Prop :=
  pr.loop (S5 pr Q) (emb5 a_3 b_4 t11 t12) w
def E (pr : Prims) (n_0 : Int) (w : World) (R : Ending → World → Prop) : Prop :=
  wpC pr PP cfg (DD pr) (codeOf Try.f89) (retQ Try.f89.results.toList R) (argE 0 [vI n_0]) w
theorem B5_eq (pr : Prims) (a_3 : Int) (b_4 : Int) (t11 : Int) (t12 : Int) (w : World) (k : Env → World → Prop) (Q : Exit → Env → World → Prop) : B5 pr a_3 b_4 t11 t12 w k Q = (
  bif decide (t12 < t11) then (
  k (emb5 b_4 (w64 (a_3 + b_4)) t11 (w64 (t12 + 1))) w)
  else (
  Q (.exit 0) (x0 a_3) w)) := by kernel_rfl
theorem B5_s (a_3 : Int) (b_4 : Int) (t11 : Int) (t12 : Int) (w : World) (k : Env → World → Prop) (Q : Exit → Env → World → Prop) : B5 std a_3 b_4 t11 t12 w k Q = (
  bif decide (t12 < t11) then (
  k (emb5 b_4 (w64 (a_3 + b_4)) t11 (w64 (t12 + 1))) w)
  else (
  Q (.exit 0) (x0 a_3) w)) := B5_eq std a_3 b_4 t11 t12 w k Q
theorem L5_rule (a_3 : Int) (b_4 : Int) (t11 : Int) (t12 : Int) (w : World) (Q : Exit → Env → World → Prop) (I : Int → Int → Int → World → Prop) (μ : Int → Int → Int → World → Nat) (h0 : I a_3 b_4 t12 w)
    (h : ∀ (a_3 : Int) (b_4 : Int) (t12 : Int) (w' : World), I a_3 b_4 t12 w' → B5 std a_3 b_4 t11 t12 w' (fun e2 w2 => ∃ a_3_n b_4_n t12_n, e2 = emb5 a_3_n b_4_n t11 t12_n ∧ I a_3_n b_4_n t12_n w2 ∧ μ a_3_n b_4_n t12_n w2 < μ a_3 b_4 t12 w') Q) :
    L5 std a_3 b_4 t11 t12 w Q := by
  unfold L5
  refine LoopE.intro (σ := Int × Int × Int) (step := S5 std Q) (fun s => emb5 s.1 s.2.1 t11 s.2.2) (fun s w => I s.1 s.2.1 s.2.2 w) (fun s w => μ s.1 s.2.1 s.2.2 w) (a_3, b_4, t12) rfl h0 ?_
  intro s w' hI
  have h1 := h s.1 s.2.1 s.2.2 w' hI
  unfold B5 at h1
  simp only [Prod.exists]
  exact h1
theorem A5_0_eq (pr : Prims) (a_3 : Int) (w : World) (R : Ending → World → Prop) : (q1 pr R) (.exit 0) (x0 a_3) w = (
  R (.returned (vI a_3)) w) := by kernel_rfl
theorem A5_0_s (a_3 : Int) (w : World) (R : Ending → World → Prop) : (q1 std R) (.exit 0) (x0 a_3) w = (
  R (.returned (vI a_3)) w) := A5_0_eq std a_3 w R
theorem E_eq (pr : Prims) (n_0 : Int) (w : World) (R : Ending → World → Prop) : E pr n_0 w R = (
  bif decide (n_0 < 0) then (
  R (.returned (vI (-1))) w)
  else (
  bif decide (n_0 > 40) then (
  R (.returned (vI (-1))) w)
  else (
  L5 pr 1 1 n_0 0 w (q1 pr R)))) := by kernel_rfl
theorem E_s (n_0 : Int) (w : World) (R : Ending → World → Prop) : E std n_0 w R = (
  bif decide (n_0 < 0) then (
  R (.returned (vI (-1))) w)
  else (
  bif decide (n_0 > 40) then (
  R (.returned (vI (-1))) w)
  else (
  L5 std 1 1 n_0 0 w (q1 std R)))) := E_eq std n_0 w R
theorem drawsOk : drawsOk PP cfg okD (codeOf Try.f89) = true := by kernel_rfl
theorem calls (n_0 : Int) {w : World} {R : Ending → World → Prop} (h : E std n_0 w R) : Calls PP F.impl_FibonacciNumber #[vI n_0] w R :=
  calls_of noCount mixed drawOk Try.func89 rfl (c := cfg) (args := [vI n_0]) rfl (Nat.le_of_ble_eq_true (by kernel_rfl)) drawsOk h
end impl_FibonacciNumber

namespace spec_CatalanNumber
@[reducible] def cfg : Cfg := ⟨13, [], [], [], [2], [], [93, 51, 18, 26, 23, 44, 60, 19, 57, 123, 109, 126, 53, 100], [61, 85, 110, 74, 127, 120]⟩
def E (pr : Prims) (n_0 : Int) (w : World) (R : Ending → World → Prop) : Prop :=
  wpC pr PP cfg (DD pr) (codeOf Try.f112) (retQ Try.f112.results.toList R) (argE 0 [vI n_0]) w
theorem E_eq (pr : Prims) (n_0 : Int) (w : World) (R : Ending → World → Prop) : E pr n_0 w R = (
  pr.pcall1 .bool PP F.spec_l1In #[vI n_0, vI 0, vI 20] fun (ρ0 : Bool) =>
  bif !ρ0 then (
  R (.returned (vI (-1))) w)
  else (
  pr.call1 (.int .i64) PP F.spec_Choose #[vI (w64 (2 * n_0)), vI n_0] w fun (ρ1 : Int) ω2 =>
  (w64 (n_0 + 1)) ≠ (0 : Int) ∧
  R (.returned (vI (w64 (ρ1.tdiv (w64 (n_0 + 1)))))) ω2)) := by kernel_rfl
theorem E_s (n_0 : Int) (w : World) (R : Ending → World → Prop) : E std n_0 w R = (
  pcall1 .bool PP F.spec_l1In #[vI n_0, vI 0, vI 20] fun (ρ0 : Bool) =>
  bif !ρ0 then (
  R (.returned (vI (-1))) w)
  else (
  call1 (.int .i64) PP F.spec_Choose #[vI (w64 (2 * n_0)), vI n_0] w fun (ρ1 : Int) ω2 =>
  (w64 (n_0 + 1)) ≠ (0 : Int) ∧
  R (.returned (vI (w64 (ρ1.tdiv (w64 (n_0 + 1)))))) ω2)) := E_eq std n_0 w R
theorem drawsOk : drawsOk PP cfg okD (codeOf Try.f112) = true := by kernel_rfl
theorem calls (n_0 : Int) {w : World} {R : Ending → World → Prop} (h : E std n_0 w R) : Calls PP F.spec_CatalanNumber #[vI n_0] w R :=
  calls_of noCount mixed drawOk Try.func112 rfl (c := cfg) (args := [vI n_0]) rfl (Nat.le_of_ble_eq_true (by kernel_rfl)) drawsOk h
end spec_CatalanNumber

namespace impl_CatalanNumber
@[reducible] def cfg : Cfg := ⟨16, [], [], [], [2], [], [93, 51, 18, 26, 23, 44, 60, 19, 57, 123, 109, 126, 53, 100], [61, 85, 110, 74, 127, 120]⟩
def E (pr : Prims) (n_0 : Int) (w : World) (R : Ending → World → Prop) : Prop :=
  wpC pr PP cfg (DD pr) (codeOf Try.f90) (retQ Try.f90.results.toList R) (argE 0 [vI n_0]) w
theorem E_eq (pr : Prims) (n_0 : Int) (w : World) (R : Ending → World → Prop) : E pr n_0 w R = (
  bif decide (n_0 < 0) then (
  R (.returned (vI (-1))) w)
  else (
  bif decide (n_0 > 20) then (
  R (.returned (vI (-1))) w)
  else (
  pr.call1 (.int .i64) PP F.impl_Choose #[vI (w64 (2 * n_0)), vI n_0] w fun (ρ0 : Int) ω1 =>
  (w64 (n_0 + 1)) ≠ (0 : Int) ∧
  R (.returned (vI (w64 (ρ0.tdiv (w64 (n_0 + 1)))))) ω1))) := by kernel_rfl
theorem E_s (n_0 : Int) (w : World) (R : Ending → World → Prop) : E std n_0 w R = (
  bif decide (n_0 < 0) then (
  R (.returned (vI (-1))) w)
  else (
  bif decide (n_0 > 20) then (
  R (.returned (vI (-1))) w)
  else (
  call1 (.int .i64) PP F.impl_Choose #[vI (w64 (2 * n_0)), vI n_0] w fun (ρ0 : Int) ω1 =>
  (w64 (n_0 + 1)) ≠ (0 : Int) ∧
  R (.returned (vI (w64 (ρ0.tdiv (w64 (n_0 + 1)))))) ω1))) := E_eq std n_0 w R
theorem drawsOk : drawsOk PP cfg okD (codeOf Try.f90) = true := by kernel_rfl
theorem calls (n_0 : Int) {w : World} {R : Ending → World → Prop} (h : E std n_0 w R) : Calls PP F.impl_CatalanNumber #[vI n_0] w R :=
  calls_of noCount mixed drawOk Try.func90 rfl (c := cfg) (args := [vI n_0]) rfl (Nat.le_of_ble_eq_true (by kernel_rfl)) drawsOk h
end impl_CatalanNumber

namespace spec_SchroederNumber
@[reducible] def cfg : Cfg := ⟨48, [(9, [0, 3, 4, 5, 6]), (5, [0, 3, 4])], [(3, [0, 3, 4, 5, 6]), (2, [0, 3, 4, 5]), (1, [0, 3, 4]), (0, [0, 3])], [], [2], [11], [93, 51, 18, 26, 23, 44, 60, 19, 57, 123, 109, 126, 53, 100], [61, 85, 110, 74, 127, 120]⟩
def q3 (pr : Prims) (R : Ending → World → Prop) : Exit → Env → World → Prop := fun ex e w => normQ ex (fun e w => contE pr cfg (sub (codeOf Try.f113) [1, 1, 1, 1]) (fun e w => wpC pr PP cfg (DD pr) (sub (codeOf Try.f113) [1, 1, 1, 1]) (retQ Try.f113.results.toList R) e w) e w) (retQ Try.f113.results.toList R) e w
def q4 (pr : Prims) (R : Ending → World → Prop) : Exit → Env → World → Prop := fun ex e w => blockQ ex 0 (q3 pr R) e w
def q5 (pr : Prims) (k : Env → World → Prop) (Q : Exit → Env → World → Prop) : Exit → Env → World → Prop := fun ex e w => normQ ex (fun e w => contE pr cfg (sub (codeOf Try.f113) [1, 1, 1, 0, 1, 0, 0, 1, 1]) (fun e w => wpC pr PP cfg (DD pr) (sub (codeOf Try.f113) [1, 1, 1, 0, 1, 0, 0, 1, 1]) (fun ex e w => normQ ex (fun e' w' => k (Env.restr e' (lookN cfg.loops (keyOf (sub (codeOf Try.f113) [1, 1, 1, 0, 1, 0, 0])))) w') Q e w) e w) e w) (fun ex e w => normQ ex (fun e' w' => k (Env.restr e' (lookN cfg.loops (keyOf (sub (codeOf Try.f113) [1, 1, 1, 0, 1, 0, 0])))) w') Q e w) e w
def q6 (pr : Prims) (k : Env → World → Prop) (Q : Exit → Env → World → Prop) : Exit → Env → World → Prop := fun ex e w => blockQ ex 1 (q5 pr k Q) e w
def q9 (pr : Prims) (k : Env → World → Prop) (Q : Exit → Env → World → Prop) : Exit → Env → World → Prop := fun ex e w => normQ ex (fun e w => contE pr cfg (sub (codeOf Try.f113) [1, 1, 1, 0, 1, 0, 0, 1, 0, 0, 1, 1]) (fun e w => wpC pr PP cfg (DD pr) (sub (codeOf Try.f113) [1, 1, 1, 0, 1, 0, 0, 1, 0, 0, 1, 1]) (q6 pr k Q) e w) e w) (q6 pr k Q) e w
def q10 (pr : Prims) (k : Env → World → Prop) (Q : Exit → Env → World → Prop) : Exit → Env → World → Prop := fun ex e w => blockQ ex 2 (q9 pr k Q) e w
def emb5 (n_0 : Int) (s_3 : Sl) (m_4 : Int) : Env := [(0, vI n_0), (3, Sl.v s_3), (4, vI m_4)]
def emb9 (n_0 : Int) (s_3 : Sl) (m_4 : Int) (sum_5 : Int) (k_6 : Int) : Env := [(0, vI n_0), (3, Sl.v s_3), (4, vI m_4), (5, vI sum_5), (6, vI k_6)]
def x2 (n_0 : Int) (s_3 : Sl) (m_4 : Int) (sum_5 : Int) : Env := [(0, vI n_0), (3, Sl.v s_3), (4, vI m_4), (5, vI sum_5)]
def x0 (n_0 : Int) (s_3 : Sl) : Env := [(0, vI n_0), (3, Sl.v s_3)]
def S9 (pr : Prims) (Q : Exit → Env → World → Prop) : (Env → World → Prop) → Env → World → Prop := fun k e w => wpC pr PP cfg (DD pr) (sub (codeOf Try.f113) [1, 1, 1, 0, 1, 0, 0, 1, 0, 0, 1, 0, 1, 0, 0]) (fun ex e w => normQ ex (fun e' w' => k (Env.restr e' (lookN cfg.loops (keyOf (sub (codeOf Try.f113) [1, 1, 1, 0, 1, 0, 0, 1, 0, 0, 1, 0, 1, 0, 0])))) w') Q e w) e w
def S5 (pr : Prims) (Q : Exit → Env → World → Prop) : (Env → World → Prop) → Env → World → Prop := fun k e w => wpC pr PP cfg (DD pr) (sub (codeOf Try.f113) [1, 1, 1, 0, 1, 0, 0]) (fun ex e w => normQ ex (fun e' w' => k (Env.restr e' (lookN cfg.loops (keyOf (sub (codeOf Try.f113) [1, 1, 1, 0, 1, 0, 0])))) w') Q e w) e w
def B9 (pr : Prims) (n_0 : Int) (s_3 : Sl) (m_4 : Int) (sum_5 : Int) (k_6 : Int) (w : World) (k : Env → World → Prop) (Q : Exit → Env → World → Prop) : Prop :=
  S9 pr Q k (emb9 n_0 s_3 m_4 sum_5 k_6) w
def L9 (pr : Prims) (n_0 : Int) (s_3 : Sl) (m_4 : Int) (sum_5 : Int) (k_6 : Int) (w : World) (Q : Exit → Env → World → Prop) : Prop :=
  pr.loop (S9 pr Q) (emb9 n_0 s_3 m_4 sum_5 k_6) w
def B5 (pr : Prims) (n_0 : Int) (s_3 : Sl) (m_4 : Int) (w : World) (k : Env → World → Prop) (Q : Exit → Env → World → Prop) : Prop :=
  S5 pr Q k (emb5 n_0 s_3 m_4) w
def L5 (pr : Prims) (n_0 : Int) (s_3 : Sl) (m_4 : Int) (w : World) (Q : Exit → Env → World → Prop) : Prop :=
  pr.loop (S5 pr Q) (emb5 n_0 s_3 m_4) w
def E (pr : Prims) (n_0 : Int) (w : World) (R : Ending → World → Prop) : Prop :=
  wpC pr PP cfg (DD pr) (codeOf Try.f113) (retQ Try.f113.results.toList R) (argE 0 [vI n_0]) w
theorem B9_eq (pr : Prims) (n_0 : Int) (s_3 : Sl) (m_4 : Int) (sum_5 : Int) (k_6 : Int) (w : World) (k : Env → World → Prop) (Q : Exit → Env → World → Prop) : B9 pr n_0 s_3 m_4 sum_5 k_6 w k Q = (
  bif decide (k_6 < m_4) then (
  pr.idxK 1 s_3 k_6 fun (a11 : Addr) =>
  pr.load1 (.int .i64) a11 w fun (ξ12 : Int) =>
  pr.idxK 1 s_3 (w64 ((w64 (m_4 - 1)) - k_6)) fun (a13 : Addr) =>
  pr.load1 (.int .i64) a13 w fun (ξ14 : Int) =>
  pr.drewAll w fun ω15 =>
  k (emb9 n_0 s_3 m_4 (w64 (sum_5 + (w64 (ξ12 * ξ14)))) (w64 (k_6 + 1))) ω15)
  else (
  Q (.exit 2) (x2 n_0 s_3 m_4 sum_5) w)) := by kernel_rfl
theorem B9_s (n_0 : Int) (s_3 : Sl) (m_4 : Int) (sum_5 : Int) (k_6 : Int) (w : World) (k : Env → World → Prop) (Q : Exit → Env → World → Prop) : B9 std n_0 s_3 m_4 sum_5 k_6 w k Q = (
  bif decide (k_6 < m_4) then (
  idxK 1 s_3 k_6 fun (a11 : Addr) =>
  load1 (.int .i64) a11 w fun (ξ12 : Int) =>
  idxK 1 s_3 (w64 ((w64 (m_4 - 1)) - k_6)) fun (a13 : Addr) =>
  load1 (.int .i64) a13 w fun (ξ14 : Int) =>
  drewAll w fun ω15 =>
  k (emb9 n_0 s_3 m_4 (w64 (sum_5 + (w64 (ξ12 * ξ14)))) (w64 (k_6 + 1))) ω15)
  else (
  Q (.exit 2) (x2 n_0 s_3 m_4 sum_5) w)) := B9_eq std n_0 s_3 m_4 sum_5 k_6 w k Q
theorem L9_rule (n_0 : Int) (s_3 : Sl) (m_4 : Int) (sum_5 : Int) (k_6 : Int) (w : World) (Q : Exit → Env → World → Prop) (I : Int → Int → World → Prop) (μ : Int → Int → World → Nat) (h0 : I sum_5 k_6 w)
    (h : ∀ (sum_5 : Int) (k_6 : Int) (w' : World), I sum_5 k_6 w' → B9 std n_0 s_3 m_4 sum_5 k_6 w' (fun e2 w2 => ∃ sum_5_n k_6_n, e2 = emb9 n_0 s_3 m_4 sum_5_n k_6_n ∧ I sum_5_n k_6_n w2 ∧ μ sum_5_n k_6_n w2 < μ sum_5 k_6 w') Q) :
    L9 std n_0 s_3 m_4 sum_5 k_6 w Q := by
  unfold L9
  refine LoopE.intro (σ := Int × Int) (step := S9 std Q) (fun s => emb9 n_0 s_3 m_4 s.1 s.2) (fun s w => I s.1 s.2 w) (fun s w => μ s.1 s.2 w) (sum_5, k_6) rfl h0 ?_
  intro s w' hI
  have h1 := h s.1 s.2 w' hI
  unfold B9 at h1
  simp only [Prod.exists]
  exact h1
theorem A9_2_eq (pr : Prims) (n_0 : Int) (s_3 : Sl) (m_4 : Int) (sum_5 : Int) (w : World) (k : Env → World → Prop) (Q : Exit → Env → World → Prop) : (q10 pr k Q) (.exit 2) (x2 n_0 s_3 m_4 sum_5) w = (
  pr.sem1 .sl PP (Instr.buildSlice T_Sint 1 #[(0, vI sum_5)]) w fun (ρ16 : Sl) ω17 =>
  pr.sem1 .sl PP (Builtin.append_ #[T_Sint, T_Sint] T_Sint #[Sl.v s_3, Sl.v ρ16]) ω17 fun (ρ18 : Sl) ω19 =>
  k (emb5 n_0 ρ18 (w64 (m_4 + 1))) ω19) := by kernel_rfl
theorem A9_2_s (n_0 : Int) (s_3 : Sl) (m_4 : Int) (sum_5 : Int) (w : World) (k : Env → World → Prop) (Q : Exit → Env → World → Prop) : (q10 std k Q) (.exit 2) (x2 n_0 s_3 m_4 sum_5) w = (
  sem1 .sl PP (Instr.buildSlice T_Sint 1 #[(0, vI sum_5)]) w fun (ρ16 : Sl) ω17 =>
  sem1 .sl PP (Builtin.append_ #[T_Sint, T_Sint] T_Sint #[Sl.v s_3, Sl.v ρ16]) ω17 fun (ρ18 : Sl) ω19 =>
  k (emb5 n_0 ρ18 (w64 (m_4 + 1))) ω19) := A9_2_eq std n_0 s_3 m_4 sum_5 w k Q
theorem B5_eq (pr : Prims) (n_0 : Int) (s_3 : Sl) (m_4 : Int) (w : World) (k : Env → World → Prop) (Q : Exit → Env → World → Prop) : B5 pr n_0 s_3 m_4 w k Q = (
  bif decide (m_4 ≤ n_0) then (
  pr.idxK 1 s_3 (w64 (m_4 - 1)) fun (a7 : Addr) =>
  pr.load1 (.int .i64) a7 w fun (ξ8 : Int) =>
  L9 pr n_0 s_3 m_4 ξ8 0 w (q10 pr k Q))
  else (
  Q (.exit 0) (x0 n_0 s_3) w)) := by kernel_rfl
theorem B5_s (n_0 : Int) (s_3 : Sl) (m_4 : Int) (w : World) (k : Env → World → Prop) (Q : Exit → Env → World → Prop) : B5 std n_0 s_3 m_4 w k Q = (
  bif decide (m_4 ≤ n_0) then (
  idxK 1 s_3 (w64 (m_4 - 1)) fun (a7 : Addr) =>
  load1 (.int .i64) a7 w fun (ξ8 : Int) =>
  L9 std n_0 s_3 m_4 ξ8 0 w (q10 std k Q))
  else (
  Q (.exit 0) (x0 n_0 s_3) w)) := B5_eq std n_0 s_3 m_4 w k Q
theorem L5_rule (n_0 : Int) (s_3 : Sl) (m_4 : Int) (w : World) (Q : Exit → Env → World → Prop) (I : Sl → Int → World → Prop) (μ : Sl → Int → World → Nat) (h0 : I s_3 m_4 w)
    (h : ∀ (s_3 : Sl) (m_4 : Int) (w' : World), I s_3 m_4 w' → B5 std n_0 s_3 m_4 w' (fun e2 w2 => ∃ s_3_n m_4_n, e2 = emb5 n_0 s_3_n m_4_n ∧ I s_3_n m_4_n w2 ∧ μ s_3_n m_4_n w2 < μ s_3 m_4 w') Q) :
    L5 std n_0 s_3 m_4 w Q := by
  unfold L5
  refine LoopE.intro (σ := Sl × Int) (step := S5 std Q) (fun s => emb5 n_0 s.1 s.2) (fun s w => I s.1 s.2 w) (fun s w => μ s.1 s.2 w) (s_3, m_4) rfl h0 ?_
  intro s w' hI
  have h1 := h s.1 s.2 w' hI
  unfold B5 at h1
  simp only [Prod.exists]
  exact h1
theorem A5_0_eq (pr : Prims) (n_0 : Int) (s_3 : Sl) (w : World) (R : Ending → World → Prop) : (q4 pr R) (.exit 0) (x0 n_0 s_3) w = (
  pr.idxK 1 s_3 n_0 fun (a20 : Addr) =>
  pr.load1 (.int .i64) a20 w fun (ξ21 : Int) =>
  R (.returned (vI ξ21)) w) := by kernel_rfl
theorem A5_0_s (n_0 : Int) (s_3 : Sl) (w : World) (R : Ending → World → Prop) : (q4 std R) (.exit 0) (x0 n_0 s_3) w = (
  idxK 1 s_3 n_0 fun (a20 : Addr) =>
  load1 (.int .i64) a20 w fun (ξ21 : Int) =>
  R (.returned (vI ξ21)) w) := A5_0_eq std n_0 s_3 w R
theorem E_eq (pr : Prims) (n_0 : Int) (w : World) (R : Ending → World → Prop) : E pr n_0 w R = (
  pr.pcall1 .bool PP F.spec_l1In #[vI n_0, vI 0, vI 15] fun (ρ0 : Bool) =>
  bif !ρ0 then (
  R (.returned (vI (-1))) w)
  else (
  pr.sem1 .sl PP (Instr.buildSlice T_Sint 1 #[(0, vI 1)]) w fun (ρ1 : Sl) ω2 =>
  L5 pr n_0 ρ1 1 ω2 (q4 pr R))) := by kernel_rfl
theorem E_s (n_0 : Int) (w : World) (R : Ending → World → Prop) : E std n_0 w R = (
  pcall1 .bool PP F.spec_l1In #[vI n_0, vI 0, vI 15] fun (ρ0 : Bool) =>
  bif !ρ0 then (
  R (.returned (vI (-1))) w)
  else (
  sem1 .sl PP (Instr.buildSlice T_Sint 1 #[(0, vI 1)]) w fun (ρ1 : Sl) ω2 =>
  L5 std n_0 ρ1 1 ω2 (q4 std R))) := E_eq std n_0 w R
theorem drawsOk : drawsOk PP cfg okD (codeOf Try.f113) = true := by kernel_rfl
theorem calls (n_0 : Int) {w : World} {R : Ending → World → Prop} (h : E std n_0 w R) : Calls PP F.spec_SchroederNumber #[vI n_0] w R :=
  calls_of noCount mixed drawOk Try.func113 rfl (c := cfg) (args := [vI n_0]) rfl (Nat.le_of_ble_eq_true (by kernel_rfl)) drawsOk h
end spec_SchroederNumber

namespace impl_SchroederNumber
@[reducible] def cfg : Cfg := ⟨51, [(9, [0, 3, 4, 5, 24, 25]), (5, [0, 3, 4])], [(3, [0, 3, 4, 5, 24, 25]), (2, [0, 3, 4, 5]), (1, [0, 3, 4]), (0, [0, 3])], [], [2], [11], [93, 51, 18, 26, 23, 44, 60, 19, 57, 123, 109, 126, 53, 100], [61, 85, 110, 74, 127, 120]⟩
def q2 (pr : Prims) (R : Ending → World → Prop) : Exit → Env → World → Prop := fun ex e w => normQ ex (fun e w => contE pr cfg (sub (codeOf Try.f92) [1, 1, 1, 1]) (fun e w => wpC pr PP cfg (DD pr) (sub (codeOf Try.f92) [1, 1, 1, 1]) (retQ Try.f92.results.toList R) e w) e w) (retQ Try.f92.results.toList R) e w
def q3 (pr : Prims) (R : Ending → World → Prop) : Exit → Env → World → Prop := fun ex e w => blockQ ex 0 (q2 pr R) e w
def q4 (pr : Prims) (k : Env → World → Prop) (Q : Exit → Env → World → Prop) : Exit → Env → World → Prop := fun ex e w => normQ ex (fun e w => contE pr cfg (sub (codeOf Try.f92) [1, 1, 1, 0, 1, 0, 0, 1, 1]) (fun e w => wpC pr PP cfg (DD pr) (sub (codeOf Try.f92) [1, 1, 1, 0, 1, 0, 0, 1, 1]) (fun ex e w => normQ ex (fun e' w' => k (Env.restr e' (lookN cfg.loops (keyOf (sub (codeOf Try.f92) [1, 1, 1, 0, 1, 0, 0])))) w') Q e w) e w) e w) (fun ex e w => normQ ex (fun e' w' => k (Env.restr e' (lookN cfg.loops (keyOf (sub (codeOf Try.f92) [1, 1, 1, 0, 1, 0, 0])))) w') Q e w) e w
def q5 (pr : Prims) (k : Env → World → Prop) (Q : Exit → Env → World → Prop) : Exit → Env → World → Prop := fun ex e w => blockQ ex 1 (q4 pr k Q) e w
def q8 (pr : Prims) (k : Env → World → Prop) (Q : Exit → Env → World → Prop) : Exit → Env → World → Prop := fun ex e w => normQ ex (fun e w => contE pr cfg (sub (codeOf Try.f92) [1, 1, 1, 0, 1, 0, 0, 1, 0, 0, 1, 1]) (fun e w => wpC pr PP cfg (DD pr) (sub (codeOf Try.f92) [1, 1, 1, 0, 1, 0, 0, 1, 0, 0, 1, 1]) (q5 pr k Q) e w) e w) (q5 pr k Q) e w
def q9 (pr : Prims) (k : Env → World → Prop) (Q : Exit → Env → World → Prop) : Exit → Env → World → Prop := fun ex e w => blockQ ex 2 (q8 pr k Q) e w
def emb5 (n_0 : Int) (s_3 : Sl) (m_4 : Int) : Env := [(0, vI n_0), (3, Sl.v s_3), (4, vI m_4)]
def emb9 (n_0 : Int) (s_3 : Sl) (m_4 : Int) (x_5 : Int) (t24 : Int) (t25 : Int) : Env := [(0, vI n_0), (3, Sl.v s_3), (4, vI m_4), (5, vI x_5), (24, vI t24), (25, vI t25)]
def x2 (n_0 : Int) (s_3 : Sl) (m_4 : Int) (x_5 : Int) : Env := [(0, vI n_0), (3, Sl.v s_3), (4, vI m_4), (5, vI x_5)]
def x0 (n_0 : Int) (s_3 : Sl) : Env := [(0, vI n_0), (3, Sl.v s_3)]
def S9 (pr : Prims) (Q : Exit → Env → World → Prop) : (Env → World → Prop) → Env → World → Prop := fun k e w => wpC pr PP cfg (DD pr) (sub (codeOf Try.f92) [1, 1, 1, 0, 1, 0, 0, 1, 0, 0, 1, 0, 1, 0, 0]) (fun ex e w => normQ ex (fun e' w' => k (Env.restr e' (lookN cfg.loops (keyOf (sub (codeOf Try.f92) [1, 1, 1, 0, 1, 0, 0, 1, 0, 0, 1, 0, 1, 0, 0])))) w') Q e w) e w
def S5 (pr : Prims) (Q : Exit → Env → World → Prop) : (Env → World → Prop) → Env → World → Prop := fun k e w => wpC pr PP cfg (DD pr) (sub (codeOf Try.f92) [1, 1, 1, 0, 1, 0, 0]) (fun ex e w => normQ ex (fun e' w' => k (Env.restr e' (lookN cfg.loops (keyOf (sub (codeOf Try.f92) [1, 1, 1, 0, 1, 0, 0])))) w') Q e w) e w
def B9 (pr : Prims) (n_0 : Int) (s_3 : Sl) (m_4 : Int) (x_5 : Int) (t24 : Int) (t25 : Int) (w : World) (k : Env → World → Prop) (Q : Exit → Env → World → Prop) : Prop :=
  S9 pr Q k (emb9 n_0 s_3 m_4 x_5 t24 t25) w
def L9 (pr : Prims) (n_0 : Int) (s_3 : Sl) (m_4 : Int) (x_5 : Int) (t24 : Int) (t25 : Int) (w : World) (Q : Exit → Env → World → Prop) : Prop :=
  pr.loop (S9 pr Q) (emb9 n_0 s_3 m_4 x_5 t24 t25) w
def B5 (pr : Prims) (n_0 : Int) (s_3 : Sl) (m_4 : Int) (w : World) (k : Env → World → Prop) (Q : Exit → Env → World → Prop) : Prop :=
  S5 pr Q k (emb5 n_0 s_3 m_4) w
def L5 (pr : Prims) (n_0 : Int) (s_3 : Sl) (m_4 : Int) (w : World) (Q : Exit → Env → World → Prop) : Prop :=
  pr.loop (S5 pr Q) (emb5 n_0 s_3 m_4) w
def E (pr : Prims) (n_0 : Int) (w : World) (R : Ending → World → Prop) : Prop :=
  wpC pr PP cfg (DD pr) (codeOf Try.f92) (retQ Try.f92.results.toList R) (argE 0 [vI n_0]) w
theorem B9_eq (pr : Prims) (n_0 : Int) (s_3 : Sl) (m_4 : Int) (x_5 : Int) (t24 : Int) (t25 : Int) (w : World) (k : Env → World → Prop) (Q : Exit → Env → World → Prop) : B9 pr n_0 s_3 m_4 x_5 t24 t25 w k Q = (
  bif decide (t25 < t24) then (
  pr.idxK 1 s_3 t25 fun (a10 : Addr) =>
  pr.load1 (.int .i64) a10 w fun (ξ11 : Int) =>
  pr.idxK 1 s_3 (w64 ((w64 (m_4 - 1)) - t25)) fun (a12 : Addr) =>
  pr.load1 (.int .i64) a12 w fun (ξ13 : Int) =>
  pr.drewAll w fun ω14 =>
  k (emb9 n_0 s_3 m_4 (w64 (x_5 + (w64 (ξ11 * ξ13)))) t24 (w64 (t25 + 1))) ω14)
  else (
  Q (.exit 2) (x2 n_0 s_3 m_4 x_5) w)) := by kernel_rfl
theorem B9_s (n_0 : Int) (s_3 : Sl) (m_4 : Int) (x_5 : Int) (t24 : Int) (t25 : Int) (w : World) (k : Env → World → Prop) (Q : Exit → Env → World → Prop) : B9 std n_0 s_3 m_4 x_5 t24 t25 w k Q = (
  bif decide (t25 < t24) then (
  idxK 1 s_3 t25 fun (a10 : Addr) =>
  load1 (.int .i64) a10 w fun (ξ11 : Int) =>
  idxK 1 s_3 (w64 ((w64 (m_4 - 1)) - t25)) fun (a12 : Addr) =>
  load1 (.int .i64) a12 w fun (ξ13 : Int) =>
  drewAll w fun ω14 =>
  k (emb9 n_0 s_3 m_4 (w64 (x_5 + (w64 (ξ11 * ξ13)))) t24 (w64 (t25 + 1))) ω14)
  else (
  Q (.exit 2) (x2 n_0 s_3 m_4 x_5) w)) := B9_eq std n_0 s_3 m_4 x_5 t24 t25 w k Q
theorem L9_rule (n_0 : Int) (s_3 : Sl) (m_4 : Int) (x_5 : Int) (t24 : Int) (t25 : Int) (w : World) (Q : Exit → Env → World → Prop) (I : Int → Int → World → Prop) (μ : Int → Int → World → Nat) (h0 : I x_5 t25 w)
    (h : ∀ (x_5 : Int) (t25 : Int) (w' : World), I x_5 t25 w' → B9 std n_0 s_3 m_4 x_5 t24 t25 w' (fun e2 w2 => ∃ x_5_n t25_n, e2 = emb9 n_0 s_3 m_4 x_5_n t24 t25_n ∧ I x_5_n t25_n w2 ∧ μ x_5_n t25_n w2 < μ x_5 t25 w') Q) :
    L9 std n_0 s_3 m_4 x_5 t24 t25 w Q := by
  unfold L9
  refine LoopE.intro (σ := Int × Int) (step := S9 std Q) (fun s => emb9 n_0 s_3 m_4 s.1 t24 s.2) (fun s w => I s.1 s.2 w) (fun s w => μ s.1 s.2 w) (x_5, t25) rfl h0 ?_
  intro s w' hI
  have h1 := h s.1 s.2 w' hI
  unfold B9 at h1
  simp only [Prod.exists]
  exact h1
theorem A9_2_eq (pr : Prims) (n_0 : Int) (s_3 : Sl) (m_4 : Int) (x_5 : Int) (w : World) (k : Env → World → Prop) (Q : Exit → Env → World → Prop) : (q9 pr k Q) (.exit 2) (x2 n_0 s_3 m_4 x_5) w = (
  pr.sem1 .sl PP (Instr.buildSlice T_Sint 1 #[(0, vI x_5)]) w fun (ρ15 : Sl) ω16 =>
  pr.sem1 .sl PP (Builtin.append_ #[T_Sint, T_Sint] T_Sint #[Sl.v s_3, Sl.v ρ15]) ω16 fun (ρ17 : Sl) ω18 =>
  k (emb5 n_0 ρ17 (w64 (m_4 + 1))) ω18) := by kernel_rfl
theorem A9_2_s (n_0 : Int) (s_3 : Sl) (m_4 : Int) (x_5 : Int) (w : World) (k : Env → World → Prop) (Q : Exit → Env → World → Prop) : (q9 std k Q) (.exit 2) (x2 n_0 s_3 m_4 x_5) w = (
  sem1 .sl PP (Instr.buildSlice T_Sint 1 #[(0, vI x_5)]) w fun (ρ15 : Sl) ω16 =>
  sem1 .sl PP (Builtin.append_ #[T_Sint, T_Sint] T_Sint #[Sl.v s_3, Sl.v ρ15]) ω16 fun (ρ17 : Sl) ω18 =>
  k (emb5 n_0 ρ17 (w64 (m_4 + 1))) ω18) := A9_2_eq std n_0 s_3 m_4 x_5 w k Q
theorem B5_eq (pr : Prims) (n_0 : Int) (s_3 : Sl) (m_4 : Int) (w : World) (k : Env → World → Prop) (Q : Exit → Env → World → Prop) : B5 pr n_0 s_3 m_4 w k Q = (
  bif decide (m_4 ≤ n_0) then (
  pr.idxK 1 s_3 (w64 (m_4 - 1)) fun (a6 : Addr) =>
  pr.load1 (.int .i64) a6 w fun (ξ7 : Int) =>
  L9 pr n_0 s_3 m_4 ξ7 m_4 0 w (q9 pr k Q))
  else (
  Q (.exit 0) (x0 n_0 s_3) w)) := by kernel_rfl
theorem B5_s (n_0 : Int) (s_3 : Sl) (m_4 : Int) (w : World) (k : Env → World → Prop) (Q : Exit → Env → World → Prop) : B5 std n_0 s_3 m_4 w k Q = (
  bif decide (m_4 ≤ n_0) then (
  idxK 1 s_3 (w64 (m_4 - 1)) fun (a6 : Addr) =>
  load1 (.int .i64) a6 w fun (ξ7 : Int) =>
  L9 std n_0 s_3 m_4 ξ7 m_4 0 w (q9 std k Q))
  else (
  Q (.exit 0) (x0 n_0 s_3) w)) := B5_eq std n_0 s_3 m_4 w k Q
theorem L5_rule (n_0 : Int) (s_3 : Sl) (m_4 : Int) (w : World) (Q : Exit → Env → World → Prop) (I : Sl → Int → World → Prop) (μ : Sl → Int → World → Nat) (h0 : I s_3 m_4 w)
    (h : ∀ (s_3 : Sl) (m_4 : Int) (w' : World), I s_3 m_4 w' → B5 std n_0 s_3 m_4 w' (fun e2 w2 => ∃ s_3_n m_4_n, e2 = emb5 n_0 s_3_n m_4_n ∧ I s_3_n m_4_n w2 ∧ μ s_3_n m_4_n w2 < μ s_3 m_4 w') Q) :
    L5 std n_0 s_3 m_4 w Q := by
  unfold L5
  refine LoopE.intro (σ := Sl × Int) (step := S5 std Q) (fun s => emb5 n_0 s.1 s.2) (fun s w => I s.1 s.2 w) (fun s w => μ s.1 s.2 w) (s_3, m_4) rfl h0 ?_
  intro s w' hI
  have h1 := h s.1 s.2 w' hI
  unfold B5 at h1
  simp only [Prod.exists]
  exact h1
theorem A5_0_eq (pr : Prims) (n_0 : Int) (s_3 : Sl) (w : World) (R : Ending → World → Prop) : (q3 pr R) (.exit 0) (x0 n_0 s_3) w = (
  pr.idxK 1 s_3 n_0 fun (a19 : Addr) =>
  pr.load1 (.int .i64) a19 w fun (ξ20 : Int) =>
  R (.returned (vI ξ20)) w) := by kernel_rfl
theorem A5_0_s (n_0 : Int) (s_3 : Sl) (w : World) (R : Ending → World → Prop) : (q3 std R) (.exit 0) (x0 n_0 s_3) w = (
  idxK 1 s_3 n_0 fun (a19 : Addr) =>
  load1 (.int .i64) a19 w fun (ξ20 : Int) =>
  R (.returned (vI ξ20)) w) := A5_0_eq std n_0 s_3 w R
theorem E_eq (pr : Prims) (n_0 : Int) (w : World) (R : Ending → World → Prop) : E pr n_0 w R = (
  bif decide (n_0 < 0) then (
  R (.returned (vI (-1))) w)
  else (
  bif decide (n_0 > 15) then (
  R (.returned (vI (-1))) w)
  else (
  pr.sem1 .sl PP (Instr.buildSlice T_Sint 1 #[(0, vI 1)]) w fun (ρ0 : Sl) ω1 =>
  L5 pr n_0 ρ0 1 ω1 (q3 pr R)))) := by kernel_rfl
theorem E_s (n_0 : Int) (w : World) (R : Ending → World → Prop) : E std n_0 w R = (
  bif decide (n_0 < 0) then (
  R (.returned (vI (-1))) w)
  else (
  bif decide (n_0 > 15) then (
  R (.returned (vI (-1))) w)
  else (
  sem1 .sl PP (Instr.buildSlice T_Sint 1 #[(0, vI 1)]) w fun (ρ0 : Sl) ω1 =>
  L5 std n_0 ρ0 1 ω1 (q3 std R)))) := E_eq std n_0 w R
theorem drawsOk : drawsOk PP cfg okD (codeOf Try.f92) = true := by kernel_rfl
theorem calls (n_0 : Int) {w : World} {R : Ending → World → Prop} (h : E std n_0 w R) : Calls PP F.impl_SchroederNumber #[vI n_0] w R :=
  calls_of noCount mixed drawOk Try.func92 rfl (c := cfg) (args := [vI n_0]) rfl (Nat.le_of_ble_eq_true (by kernel_rfl)) drawsOk h
end impl_SchroederNumber

namespace spec_Choose
@[reducible] def cfg : Cfg := ⟨30, [(5, [0, 1, 5, 6])], [(1, [0, 1, 5, 6]), (0, [5])], [], [4], [], [93, 51, 18, 26, 23, 44, 60, 19, 57, 123, 109, 126, 53, 100], [61, 85, 110, 74, 127, 120]⟩
def q2 (pr : Prims) (R : Ending → World → Prop) : Exit → Env → World → Prop := fun ex e w => normQ ex (fun e w => contE pr cfg (sub (codeOf Try.f124) [1, 1, 1, 1]) (fun e w => wpC pr PP cfg (DD pr) (sub (codeOf Try.f124) [1, 1, 1, 1]) (retQ Try.f124.results.toList R) e w) e w) (retQ Try.f124.results.toList R) e w
def q3 (pr : Prims) (R : Ending → World → Prop) : Exit → Env → World → Prop := fun ex e w => blockQ ex 0 (q2 pr R) e w
def emb5 (n_0 : Int) (k_1 : Int) (out_5 : Int) (i_6 : Int) : Env := [(0, vI n_0), (1, vI k_1), (5, vI out_5), (6, vI i_6)]
def x0 (out_5 : Int) : Env := [(5, vI out_5)]
def S5 (pr : Prims) (Q : Exit → Env → World → Prop) : (Env → World → Prop) → Env → World → Prop := fun k e w => wpC pr PP cfg (DD pr) (sub (codeOf Try.f124) [1, 1, 1, 0, 1, 0, 0]) (fun ex e w => normQ ex (fun e' w' => k (Env.restr e' (lookN cfg.loops (keyOf (sub (codeOf Try.f124) [1, 1, 1, 0, 1, 0, 0])))) w') Q e w) e w
def B5 (pr : Prims) (n_0 : Int) (k_1 : Int) (out_5 : Int) (i_6 : Int) (w : World) (k : Env → World → Prop) (Q : Exit → Env → World → Prop) : Prop :=
  S5 pr Q k (emb5 n_0 k_1 out_5 i_6) w
def L5 (pr : Prims) (n_0 : Int) (k_1 : Int) (out_5 : Int) (i_6 : Int) (w : World) (Q : Exit → Env → World → Prop) : Prop :=
  pr.loop (S5 pr Q) (emb5 n_0 k_1 out_5 i_6) w
def E (pr : Prims) (n_0 : Int) (k_1 : Int) (w : World) (R : Ending → World → Prop) : Prop :=
  wpC pr PP cfg (DD pr) (codeOf Try.f124) (retQ Try.f124.results.toList R) (argE 0 [vI n_0, vI k_1]) w
theorem B5_eq (pr : Prims) (n_0 : Int) (k_1 : Int) (out_5 : Int) (i_6 : Int) (w : World) (k : Env → World → Prop) (Q : Exit → Env → World → Prop) : B5 pr n_0 k_1 out_5 i_6 w k Q = (
  bif decide (i_6 < k_1) then (
  (w64 (i_6 + 1)) ≠ (0 : Int) ∧
  k (emb5 n_0 k_1 (w64 ((w64 (out_5 * (w64 (n_0 - i_6)))).tdiv (w64 (i_6 + 1)))) (w64 (i_6 + 1))) w)
  else (
  Q (.exit 0) (x0 out_5) w)) := by kernel_rfl
theorem B5_s (n_0 : Int) (k_1 : Int) (out_5 : Int) (i_6 : Int) (w : World) (k : Env → World → Prop) (Q : Exit → Env → World → Prop) : B5 std n_0 k_1 out_5 i_6 w k Q = (
  bif decide (i_6 < k_1) then (
  (w64 (i_6 + 1)) ≠ (0 : Int) ∧
  k (emb5 n_0 k_1 (w64 ((w64 (out_5 * (w64 (n_0 - i_6)))).tdiv (w64 (i_6 + 1)))) (w64 (i_6 + 1))) w)
  else (
  Q (.exit 0) (x0 out_5) w)) := B5_eq std n_0 k_1 out_5 i_6 w k Q
theorem L5_rule (n_0 : Int) (k_1 : Int) (out_5 : Int) (i_6 : Int) (w : World) (Q : Exit → Env → World → Prop) (I : Int → Int → World → Prop) (μ : Int → Int → World → Nat) (h0 : I out_5 i_6 w)
    (h : ∀ (out_5 : Int) (i_6 : Int) (w' : World), I out_5 i_6 w' → B5 std n_0 k_1 out_5 i_6 w' (fun e2 w2 => ∃ out_5_n i_6_n, e2 = emb5 n_0 k_1 out_5_n i_6_n ∧ I out_5_n i_6_n w2 ∧ μ out_5_n i_6_n w2 < μ out_5 i_6 w') Q) :
    L5 std n_0 k_1 out_5 i_6 w Q := by
  unfold L5
  refine LoopE.intro (σ := Int × Int) (step := S5 std Q) (fun s => emb5 n_0 k_1 s.1 s.2) (fun s w => I s.1 s.2 w) (fun s w => μ s.1 s.2 w) (out_5, i_6) rfl h0 ?_
  intro s w' hI
  have h1 := h s.1 s.2 w' hI
  unfold B5 at h1
  simp only [Prod.exists]
  exact h1
theorem A5_0_eq (pr : Prims) (out_5 : Int) (w : World) (R : Ending → World → Prop) : (q3 pr R) (.exit 0) (x0 out_5) w = (
  R (.returned (vI out_5)) w) := by kernel_rfl
theorem A5_0_s (out_5 : Int) (w : World) (R : Ending → World → Prop) : (q3 std R) (.exit 0) (x0 out_5) w = (
  R (.returned (vI out_5)) w) := A5_0_eq std out_5 w R
theorem E_eq (pr : Prims) (n_0 : Int) (k_1 : Int) (w : World) (R : Ending → World → Prop) : E pr n_0 k_1 w R = (
  pr.pcall1 .bool PP F.spec_l1In #[vI n_0, vI 0, vI 40] fun (ρ0 : Bool) =>
  bif !ρ0 then (
  R (.returned (vI 0)) w)
  else (
  pr.pcall1 .bool PP F.spec_l1In #[vI k_1, vI 0, vI n_0] fun (ρ1 : Bool) =>
  bif !ρ1 then (
  R (.returned (vI 0)) w)
  else (
  L5 pr n_0 k_1 1 0 w (q3 pr R)))) := by kernel_rfl
theorem E_s (n_0 : Int) (k_1 : Int) (w : World) (R : Ending → World → Prop) : E std n_0 k_1 w R = (
  pcall1 .bool PP F.spec_l1In #[vI n_0, vI 0, vI 40] fun (ρ0 : Bool) =>
  bif !ρ0 then (
  R (.returned (vI 0)) w)
  else (
  pcall1 .bool PP F.spec_l1In #[vI k_1, vI 0, vI n_0] fun (ρ1 : Bool) =>
  bif !ρ1 then (
  R (.returned (vI 0)) w)
  else (
  L5 std n_0 k_1 1 0 w (q3 std R)))) := E_eq std n_0 k_1 w R
theorem drawsOk : drawsOk PP cfg okD (codeOf Try.f124) = true := by kernel_rfl
theorem calls (n_0 : Int) (k_1 : Int) {w : World} {R : Ending → World → Prop} (h : E std n_0 k_1 w R) : Calls PP F.spec_Choose #[vI n_0, vI k_1] w R :=
  calls_of noCount mixed drawOk Try.func124 rfl (c := cfg) (args := [vI n_0, vI k_1]) rfl (Nat.le_of_ble_eq_true (by kernel_rfl)) drawsOk h
end spec_Choose

namespace impl_Choose
@[reducible] def cfg : Cfg := ⟨36, [(5, [0, 5, 22, 23])], [(1, [0, 5, 22, 23]), (0, [5])], [], [4], [], [93, 51, 18, 26, 23, 44, 60, 19, 57, 123, 109, 126, 53, 100], [61, 85, 110, 74, 127, 120]⟩
def q0 (pr : Prims) (R : Ending → World → Prop) : Exit → Env → World → Prop := fun ex e w => normQ ex (fun e w => contE pr cfg (sub (codeOf Try.f114) [1, 1, 1, 1]) (fun e w => wpC pr PP cfg (DD pr) (sub (codeOf Try.f114) [1, 1, 1, 1]) (retQ Try.f114.results.toList R) e w) e w) (retQ Try.f114.results.toList R) e w
def q1 (pr : Prims) (R : Ending → World → Prop) : Exit → Env → World → Prop := fun ex e w => blockQ ex 0 (q0 pr R) e w
def emb5 (n_0 : Int) (out_5 : Int) (t22 : Int) (t23 : Int) : Env := [(0, vI n_0), (5, vI out_5), (22, vI t22), (23, vI t23)]
def x0 (out_5 : Int) : Env := [(5, vI out_5)]
def S5 (pr : Prims) (Q : Exit → Env → World → Prop) : (Env → World → Prop) → Env → World → Prop := fun k e w => wpC pr PP cfg (DD pr) (sub (codeOf Try.f114) [1, 1, 1, 0, 1, 0, 0]) (fun ex e w => normQ ex (fun e' w' => k (Env.restr e' (lookN cfg.loops (keyOf (sub (codeOf Try.f114) [1, 1, 1, 0, 1, 0, 0])))) w') Q e w) e w
def B5 (pr : Prims) (n_0 : Int) (out_5 : Int) (t22 : Int) (t23 : Int) (w : World) (k : Env → World → Prop) (Q : Exit → Env → World → Prop) : Prop :=
  S5 pr Q k (emb5 n_0 out_5 t22 t23) w
def L5 (pr : Prims) (n_0 : Int) (out_5 : Int) (t22 : Int) (t23 : Int) (w : World) (Q : Exit → Env → World → Prop) : Prop :=
  pr.loop (S5 pr Q) (emb5 n_0 out_5 t22 t23) w
def E (pr : Prims) (n_0 : Int) (k_1 : Int) (w : World) (R : Ending → World → Prop) : Prop :=
  wpC pr PP cfg (DD pr) (codeOf Try.f114) (retQ Try.f114.results.toList R) (argE 0 [vI n_0, vI k_1]) w
theorem B5_eq (pr : Prims) (n_0 : Int) (out_5 : Int) (t22 : Int) (t23 : Int) (w : World) (k : Env → World → Prop) (Q : Exit → Env → World → Prop) : B5 pr n_0 out_5 t22 t23 w k Q = (
  bif decide (t23 < t22) then (
  (w64 (t23 + 1)) ≠ (0 : Int) ∧
  k (emb5 n_0 (w64 ((w64 (out_5 * (w64 (n_0 - t23)))).tdiv (w64 (t23 + 1)))) t22 (w64 (t23 + 1))) w)
  else (
  Q (.exit 0) (x0 out_5) w)) := by kernel_rfl
theorem B5_s (n_0 : Int) (out_5 : Int) (t22 : Int) (t23 : Int) (w : World) (k : Env → World → Prop) (Q : Exit → Env → World → Prop) : B5 std n_0 out_5 t22 t23 w k Q = (
  bif decide (t23 < t22) then (
  (w64 (t23 + 1)) ≠ (0 : Int) ∧
  k (emb5 n_0 (w64 ((w64 (out_5 * (w64 (n_0 - t23)))).tdiv (w64 (t23 + 1)))) t22 (w64 (t23 + 1))) w)
  else (
  Q (.exit 0) (x0 out_5) w)) := B5_eq std n_0 out_5 t22 t23 w k Q
theorem L5_rule (n_0 : Int) (out_5 : Int) (t22 : Int) (t23 : Int) (w : World) (Q : Exit → Env → World → Prop) (I : Int → Int → World → Prop) (μ : Int → Int → World → Nat) (h0 : I out_5 t23 w)
    (h : ∀ (out_5 : Int) (t23 : Int) (w' : World), I out_5 t23 w' → B5 std n_0 out_5 t22 t23 w' (fun e2 w2 => ∃ out_5_n t23_n, e2 = emb5 n_0 out_5_n t22 t23_n ∧ I out_5_n t23_n w2 ∧ μ out_5_n t23_n w2 < μ out_5 t23 w') Q) :
    L5 std n_0 out_5 t22 t23 w Q := by
  unfold L5
  refine LoopE.intro (σ := Int × Int) (step := S5 std Q) (fun s => emb5 n_0 s.1 t22 s.2) (fun s w => I s.1 s.2 w) (fun s w => μ s.1 s.2 w) (out_5, t23) rfl h0 ?_
  intro s w' hI
  have h1 := h s.1 s.2 w' hI
  unfold B5 at h1
  simp only [Prod.exists]
  exact h1
theorem A5_0_eq (pr : Prims) (out_5 : Int) (w : World) (R : Ending → World → Prop) : (q1 pr R) (.exit 0) (x0 out_5) w = (
  R (.returned (vI out_5)) w) := by kernel_rfl
theorem A5_0_s (out_5 : Int) (w : World) (R : Ending → World → Prop) : (q1 std R) (.exit 0) (x0 out_5) w = (
  R (.returned (vI out_5)) w) := A5_0_eq std out_5 w R
theorem E_eq (pr : Prims) (n_0 : Int) (k_1 : Int) (w : World) (R : Ending → World → Prop) : E pr n_0 k_1 w R = (
  bif decide (n_0 < 0) then (
  R (.returned (vI 0)) w)
  else (
  bif decide (n_0 > 40) then (
  R (.returned (vI 0)) w)
  else (
  bif decide (k_1 < 0) then (
  R (.returned (vI 0)) w)
  else (
  bif decide (k_1 > n_0) then (
  R (.returned (vI 0)) w)
  else (
  L5 pr n_0 1 k_1 0 w (q1 pr R)))))) := by kernel_rfl
theorem E_s (n_0 : Int) (k_1 : Int) (w : World) (R : Ending → World → Prop) : E std n_0 k_1 w R = (
  bif decide (n_0 < 0) then (
  R (.returned (vI 0)) w)
  else (
  bif decide (n_0 > 40) then (
  R (.returned (vI 0)) w)
  else (
  bif decide (k_1 < 0) then (
  R (.returned (vI 0)) w)
  else (
  bif decide (k_1 > n_0) then (
  R (.returned (vI 0)) w)
  else (
  L5 std n_0 1 k_1 0 w (q1 std R)))))) := E_eq std n_0 k_1 w R
theorem drawsOk : drawsOk PP cfg okD (codeOf Try.f114) = true := by kernel_rfl
theorem calls (n_0 : Int) (k_1 : Int) {w : World} {R : Ending → World → Prop} (h : E std n_0 k_1 w R) : Calls PP F.impl_Choose #[vI n_0, vI k_1] w R :=
  calls_of noCount mixed drawOk Try.func114 rfl (c := cfg) (args := [vI n_0, vI k_1]) rfl (Nat.le_of_ble_eq_true (by kernel_rfl)) drawsOk h
end impl_Choose

namespace laws_FnExactKnownCounts
@[reducible] def cfg : Cfg := ⟨31, [], [], [], [4], [], [93, 51, 18, 26, 23, 44, 60, 19, 57, 123, 109, 126, 53, 100], [61, 85, 110, 74, 127, 120]⟩
def E (pr : Prims) (aList_0 : Sl) (aN_1 : Int) (w : World) (R : Ending → World → Prop) : Prop :=
  wpC pr PP cfg (DD pr) (codeOf Try.f14) (retQ Try.f14.results.toList R) (argE 0 [Sl.v aList_0, vI aN_1]) w
theorem E_eq (pr : Prims) (aList_0 : Sl) (aN_1 : Int) (w : World) (R : Ending → World → Prop) : E pr aList_0 aN_1 w R = (
  pr.call1 (.int .i64) PP F.laws_szIntSS #[Sl.v aList_0, vI 1048576] w fun (ρ0 : Int) ω1 =>
  bif decide (ρ0 < 0) then (
  R (.returned (.bool true)) ω1)
  else (
  pr.call1 .sl PP F.laws_toIntSS #[Sl.v aList_0] ω1 fun (ρ2 : Sl) ω3 =>
  pr.call1 .str PP F.spec_KnownCounts #[Sl.v ρ2, vI aN_1] ω3 fun (ρ4 : ByteArray) ω5 =>
  pr.call1 .sl PP F.laws_toIntSS #[Sl.v aList_0] ω5 fun (ρ6 : Sl) ω7 =>
  pr.call1 .str PP F.impl_KnownCounts #[Sl.v ρ6, vI aN_1] ω7 fun (ρ8 : ByteArray) ω9 =>
  bif !(ρ8.toList == ρ4.toList) then (
  R (.returned (.bool false)) ω9)
  else (
  pr.call1 .sl PP F.laws_toIntSS #[Sl.v aList_0] ω9 fun (ρ10 : Sl) ω11 =>
  pr.call1 .bool PP F.laws_eqIntSS #[Sl.v ρ6, Sl.v ρ10] ω11 fun (ρ12 : Bool) ω13 =>
  bif !ρ12 then (
  R (.returned (.bool false)) ω13)
  else (
  R (.returned (.bool true)) ω13)))) := by kernel_rfl
theorem E_s (aList_0 : Sl) (aN_1 : Int) (w : World) (R : Ending → World → Prop) : E std aList_0 aN_1 w R = (
  call1 (.int .i64) PP F.laws_szIntSS #[Sl.v aList_0, vI 1048576] w fun (ρ0 : Int) ω1 =>
  bif decide (ρ0 < 0) then (
  R (.returned (.bool true)) ω1)
  else (
  call1 .sl PP F.laws_toIntSS #[Sl.v aList_0] ω1 fun (ρ2 : Sl) ω3 =>
  call1 .str PP F.spec_KnownCounts #[Sl.v ρ2, vI aN_1] ω3 fun (ρ4 : ByteArray) ω5 =>
  call1 .sl PP F.laws_toIntSS #[Sl.v aList_0] ω5 fun (ρ6 : Sl) ω7 =>
  call1 .str PP F.impl_KnownCounts #[Sl.v ρ6, vI aN_1] ω7 fun (ρ8 : ByteArray) ω9 =>
  bif !(ρ8.toList == ρ4.toList) then (
  R (.returned (.bool false)) ω9)
  else (
  call1 .sl PP F.laws_toIntSS #[Sl.v aList_0] ω9 fun (ρ10 : Sl) ω11 =>
  call1 .bool PP F.laws_eqIntSS #[Sl.v ρ6, Sl.v ρ10] ω11 fun (ρ12 : Bool) ω13 =>
  bif !ρ12 then (
  R (.returned (.bool false)) ω13)
  else (
  R (.returned (.bool true)) ω13)))) := E_eq std aList_0 aN_1 w R
theorem drawsOk : drawsOk PP cfg okD (codeOf Try.f14) = true := by kernel_rfl
theorem calls (aList_0 : Sl) (aN_1 : Int) {w : World} {R : Ending → World → Prop} (h : E std aList_0 aN_1 w R) : Calls PP F.laws_FnExactKnownCounts #[Sl.v aList_0, vI aN_1] w R :=
  calls_of noCount mixed drawOk Try.func14 rfl (c := cfg) (args := [Sl.v aList_0, vI aN_1]) rfl (Nat.le_of_ble_eq_true (by kernel_rfl)) drawsOk h
end laws_FnExactKnownCounts

end Go.Proofs.Ythbjkgpbnfibkaa
