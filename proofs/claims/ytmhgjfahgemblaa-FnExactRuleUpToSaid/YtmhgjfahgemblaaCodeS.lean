/- What each function does, step by step, written by a program (Gen.lean); each equation is checked by the kernel. -/
import Derived.Test.YtmhgjfahgemblaaHead
namespace Go.Proofs.Ytmhgjfahgemblaa
open Go
set_option linter.unusedVariables false
set_option maxRecDepth 100000
namespace laws_szIntS
@[reducible] def cfg : Cfg := ⟨12, [], [], [], [4], [], [62, 10, 22, 58, 24, 44, 18, 70, 43, 85, 25, 71, 59, 37, 63], [82, 113, 102, 38, 103, 26, 60]⟩
def E (pr : Prims) (a_0 : Sl) (left_1 : Int) (w : World) (R : Ending → World → Prop) : Prop :=
  wpC pr PP cfg (DD pr) (codeOf Try.f44) (retQ Try.f44.results.toList R) (argE 0 [Sl.v a_0, vI left_1]) w
theorem E_eq (pr : Prims) (a_0 : Sl) (left_1 : Int) (w : World) (R : Ending → World → Prop) : E pr a_0 left_1 w R = (
  bif decide ((w64 (left_1 - (a_0.n : Int))) < 0) then (
  R (.returned (vI (-1))) w)
  else (
  R (.returned (vI (w64 (left_1 - (a_0.n : Int))))) w)) := by kernel_rfl
theorem E_s (a_0 : Sl) (left_1 : Int) (w : World) (R : Ending → World → Prop) : E std a_0 left_1 w R = (
  bif decide ((w64 (left_1 - (a_0.n : Int))) < 0) then (
  R (.returned (vI (-1))) w)
  else (
  R (.returned (vI (w64 (left_1 - (a_0.n : Int))))) w)) := E_eq std a_0 left_1 w R
theorem drawsOk : drawsOk PP cfg okD (codeOf Try.f44) = true := by kernel_rfl
theorem calls (a_0 : Sl) (left_1 : Int) {w : World} {R : Ending → World → Prop} (h : E std a_0 left_1 w R) : Calls PP F.laws_szIntS #[Sl.v a_0, vI left_1] w R :=
  calls_of noCount mixed drawOk Try.func44 rfl (c := cfg) (args := [Sl.v a_0, vI left_1]) rfl (Nat.le_of_ble_eq_true (by kernel_rfl)) drawsOk h
end laws_szIntS

namespace laws_szIntSS
@[reducible] def cfg : Cfg := ⟨27, [(5, [0, 1, 5])], [(1, [0, 1, 5]), (0, [1])], [], [4], [], [62, 10, 22, 58, 24, 44, 18, 70, 43, 85, 25, 71, 59, 37, 63], [82, 113, 102, 38, 103, 26, 60]⟩
def q0 (pr : Prims) (R : Ending → World → Prop) : Exit → Env → World → Prop := fun ex e w => normQ ex (fun e w => contE pr cfg (sub (codeOf Try.f18) [1, 1, 1, 1]) (fun e w => wpC pr PP cfg (DD pr) (sub (codeOf Try.f18) [1, 1, 1, 1]) (retQ Try.f18.results.toList R) e w) e w) (retQ Try.f18.results.toList R) e w
def q1 (pr : Prims) (R : Ending → World → Prop) : Exit → Env → World → Prop := fun ex e w => blockQ ex 0 (q0 pr R) e w
def emb5 (a_0 : Sl) (left_1 : Int) (i_5 : Int) : Env := [(0, Sl.v a_0), (1, vI left_1), (5, vI i_5)]
def x0 (left_1 : Int) : Env := [(1, vI left_1)]
def S5 (pr : Prims) (Q : Exit → Env → World → Prop) : (Env → World → Prop) → Env → World → Prop := fun k e w => wpC pr PP cfg (DD pr) (sub (codeOf Try.f18) [1, 1, 1, 0, 1, 0, 0]) (fun ex e w => normQ ex (fun e' w' => k (Env.restr e' (lookN cfg.loops (keyOf (sub (codeOf Try.f18) [1, 1, 1, 0, 1, 0, 0])))) w') Q e w) e w
def B5 (pr : Prims) (a_0 : Sl) (left_1 : Int) (i_5 : Int) (w : World) (k : Env → World → Prop) (Q : Exit → Env → World → Prop) : Prop :=
  S5 pr Q k (emb5 a_0 left_1 i_5) w
def L5 (pr : Prims) (a_0 : Sl) (left_1 : Int) (i_5 : Int) (w : World) (Q : Exit → Env → World → Prop) : Prop :=
  pr.loop (S5 pr Q) (emb5 a_0 left_1 i_5) w
def E (pr : Prims) (a_0 : Sl) (left_1 : Int) (w : World) (R : Ending → World → Prop) : Prop :=
  wpC pr PP cfg (DD pr) (codeOf Try.f18) (retQ Try.f18.results.toList R) (argE 0 [Sl.v a_0, vI left_1]) w
theorem B5_eq (pr : Prims) (a_0 : Sl) (left_1 : Int) (i_5 : Int) (w : World) (k : Env → World → Prop) (Q : Exit → Env → World → Prop) : B5 pr a_0 left_1 i_5 w k Q = (
  bif decide (i_5 < (a_0.n : Int)) then (
  pr.idxK 1 a_0 i_5 fun (a2 : Addr) =>
  pr.load1 .sl a2 w fun (ξ3 : Sl) =>
  pr.call1 (.int .i64) PP F.laws_szIntS #[Sl.v ξ3, vI left_1] w fun (ρ4 : Int) ω5 =>
  bif decide (ρ4 < 0) then (
  Q .ret [(4, vI (-1))] ω5)
  else (
  k (emb5 a_0 ρ4 (w64 (i_5 + 1))) ω5))
  else (
  Q (.exit 0) (x0 left_1) w)) := by kernel_rfl
theorem B5_s (a_0 : Sl) (left_1 : Int) (i_5 : Int) (w : World) (k : Env → World → Prop) (Q : Exit → Env → World → Prop) : B5 std a_0 left_1 i_5 w k Q = (
  bif decide (i_5 < (a_0.n : Int)) then (
  idxK 1 a_0 i_5 fun (a2 : Addr) =>
  load1 .sl a2 w fun (ξ3 : Sl) =>
  call1 (.int .i64) PP F.laws_szIntS #[Sl.v ξ3, vI left_1] w fun (ρ4 : Int) ω5 =>
  bif decide (ρ4 < 0) then (
  Q .ret [(4, vI (-1))] ω5)
  else (
  k (emb5 a_0 ρ4 (w64 (i_5 + 1))) ω5))
  else (
  Q (.exit 0) (x0 left_1) w)) := B5_eq std a_0 left_1 i_5 w k Q
theorem L5_rule (a_0 : Sl) (left_1 : Int) (i_5 : Int) (w : World) (Q : Exit → Env → World → Prop) (I : Int → Int → World → Prop) (μ : Int → Int → World → Nat) (h0 : I left_1 i_5 w)
    (h : ∀ (left_1 : Int) (i_5 : Int) (w' : World), I left_1 i_5 w' → B5 std a_0 left_1 i_5 w' (fun e2 w2 => ∃ left_1_n i_5_n, e2 = emb5 a_0 left_1_n i_5_n ∧ I left_1_n i_5_n w2 ∧ μ left_1_n i_5_n w2 < μ left_1 i_5 w') Q) :
    L5 std a_0 left_1 i_5 w Q := by
  unfold L5
  refine LoopE.intro (σ := Int × Int) (step := S5 std Q) (fun s => emb5 a_0 s.1 s.2) (fun s w => I s.1 s.2 w) (fun s w => μ s.1 s.2 w) (left_1, i_5) rfl h0 ?_
  intro s w' hI
  have h1 := h s.1 s.2 w' hI
  unfold B5 at h1
  simp only [Prod.exists]
  exact h1
theorem A5_0_eq (pr : Prims) (left_1 : Int) (w : World) (R : Ending → World → Prop) : (q1 pr R) (.exit 0) (x0 left_1) w = (
  R (.returned (vI left_1)) w) := by kernel_rfl
theorem A5_0_s (left_1 : Int) (w : World) (R : Ending → World → Prop) : (q1 std R) (.exit 0) (x0 left_1) w = (
  R (.returned (vI left_1)) w) := A5_0_eq std left_1 w R
theorem R5_eq (pr : Prims) (v4 : Value) (w : World) (R : Ending → World → Prop) : (q1 pr R) .ret [(4, v4)] w = (
  R (.returned (v4)) w) := by kernel_rfl
theorem R5_s (v4 : Value) (w : World) (R : Ending → World → Prop) : (q1 std R) .ret [(4, v4)] w = (
  R (.returned (v4)) w) := R5_eq std v4 w R
theorem E_eq (pr : Prims) (a_0 : Sl) (left_1 : Int) (w : World) (R : Ending → World → Prop) : E pr a_0 left_1 w R = (
  bif decide ((w64 (left_1 - (a_0.n : Int))) < 0) then (
  R (.returned (vI (-1))) w)
  else (
  L5 pr a_0 (w64 (left_1 - (a_0.n : Int))) 0 w (q1 pr R))) := by kernel_rfl
theorem E_s (a_0 : Sl) (left_1 : Int) (w : World) (R : Ending → World → Prop) : E std a_0 left_1 w R = (
  bif decide ((w64 (left_1 - (a_0.n : Int))) < 0) then (
  R (.returned (vI (-1))) w)
  else (
  L5 std a_0 (w64 (left_1 - (a_0.n : Int))) 0 w (q1 std R))) := E_eq std a_0 left_1 w R
theorem drawsOk : drawsOk PP cfg okD (codeOf Try.f18) = true := by kernel_rfl
theorem calls (a_0 : Sl) (left_1 : Int) {w : World} {R : Ending → World → Prop} (h : E std a_0 left_1 w R) : Calls PP F.laws_szIntSS #[Sl.v a_0, vI left_1] w R :=
  calls_of noCount mixed drawOk Try.func18 rfl (c := cfg) (args := [Sl.v a_0, vI left_1]) rfl (Nat.le_of_ble_eq_true (by kernel_rfl)) drawsOk h
end laws_szIntSS

namespace laws_toIntSS
@[reducible] def cfg : Cfg := ⟨23, [(3, [0, 3, 4])], [(1, [0, 3, 4]), (0, [3])], [], [2], [], [62, 10, 22, 58, 24, 44, 18, 70, 43, 85, 25, 71, 59, 37, 63], [82, 113, 102, 38, 103, 26, 60]⟩
def q2 (pr : Prims) (R : Ending → World → Prop) : Exit → Env → World → Prop := fun ex e w => normQ ex (fun e w => contE pr cfg (sub (codeOf Try.f20) [1, 1, 1]) (fun e w => wpC pr PP cfg (DD pr) (sub (codeOf Try.f20) [1, 1, 1]) (retQ Try.f20.results.toList R) e w) e w) (retQ Try.f20.results.toList R) e w
def q3 (pr : Prims) (R : Ending → World → Prop) : Exit → Env → World → Prop := fun ex e w => blockQ ex 0 (q2 pr R) e w
def emb3 (a_0 : Sl) (out_3 : Sl) (i_4 : Int) : Env := [(0, Sl.v a_0), (3, Sl.v out_3), (4, vI i_4)]
def x0 (out_3 : Sl) : Env := [(3, Sl.v out_3)]
def S3 (pr : Prims) (Q : Exit → Env → World → Prop) : (Env → World → Prop) → Env → World → Prop := fun k e w => wpC pr PP cfg (DD pr) (sub (codeOf Try.f20) [1, 1, 0, 1, 0, 0]) (fun ex e w => normQ ex (fun e' w' => k (Env.restr e' (lookN cfg.loops (keyOf (sub (codeOf Try.f20) [1, 1, 0, 1, 0, 0])))) w') Q e w) e w
def B3 (pr : Prims) (a_0 : Sl) (out_3 : Sl) (i_4 : Int) (w : World) (k : Env → World → Prop) (Q : Exit → Env → World → Prop) : Prop :=
  S3 pr Q k (emb3 a_0 out_3 i_4) w
def L3 (pr : Prims) (a_0 : Sl) (out_3 : Sl) (i_4 : Int) (w : World) (Q : Exit → Env → World → Prop) : Prop :=
  pr.loop (S3 pr Q) (emb3 a_0 out_3 i_4) w
def E (pr : Prims) (a_0 : Sl) (w : World) (R : Ending → World → Prop) : Prop :=
  wpC pr PP cfg (DD pr) (codeOf Try.f20) (retQ Try.f20.results.toList R) (argE 0 [Sl.v a_0]) w
theorem B3_eq (pr : Prims) (a_0 : Sl) (out_3 : Sl) (i_4 : Int) (w : World) (k : Env → World → Prop) (Q : Exit → Env → World → Prop) : B3 pr a_0 out_3 i_4 w k Q = (
  bif decide (i_4 < (a_0.n : Int)) then (
  pr.idxK 1 a_0 i_4 fun (a4 : Addr) =>
  pr.load1 .sl a4 w fun (ξ5 : Sl) =>
  pr.call1 .sl PP F.laws_toIntS #[Sl.v ξ5] w fun (ρ6 : Sl) ω7 =>
  pr.idxK 1 out_3 i_4 fun (a8 : Addr) =>
  pr.storeC a8 (Sl.v ρ6) ω7 fun ω9 =>
  k (emb3 a_0 out_3 (w64 (i_4 + 1))) ω9)
  else (
  Q (.exit 0) (x0 out_3) w)) := by kernel_rfl
theorem B3_s (a_0 : Sl) (out_3 : Sl) (i_4 : Int) (w : World) (k : Env → World → Prop) (Q : Exit → Env → World → Prop) : B3 std a_0 out_3 i_4 w k Q = (
  bif decide (i_4 < (a_0.n : Int)) then (
  idxK 1 a_0 i_4 fun (a4 : Addr) =>
  load1 .sl a4 w fun (ξ5 : Sl) =>
  call1 .sl PP F.laws_toIntS #[Sl.v ξ5] w fun (ρ6 : Sl) ω7 =>
  idxK 1 out_3 i_4 fun (a8 : Addr) =>
  storeC a8 (Sl.v ρ6) ω7 fun ω9 =>
  k (emb3 a_0 out_3 (w64 (i_4 + 1))) ω9)
  else (
  Q (.exit 0) (x0 out_3) w)) := B3_eq std a_0 out_3 i_4 w k Q
theorem L3_rule (a_0 : Sl) (out_3 : Sl) (i_4 : Int) (w : World) (Q : Exit → Env → World → Prop) (I : Int → World → Prop) (μ : Int → World → Nat) (h0 : I i_4 w)
    (h : ∀ (i_4 : Int) (w' : World), I i_4 w' → B3 std a_0 out_3 i_4 w' (fun e2 w2 => ∃ i_4_n, e2 = emb3 a_0 out_3 i_4_n ∧ I i_4_n w2 ∧ μ i_4_n w2 < μ i_4 w') Q) :
    L3 std a_0 out_3 i_4 w Q := by
  unfold L3
  refine LoopE.intro (σ := Int) (step := S3 std Q) (fun s => emb3 a_0 out_3 s) (fun s w => I s w) (fun s w => μ s w) i_4 rfl h0 ?_
  intro s w' hI
  have h1 := h s w' hI
  unfold B3 at h1
  exact h1
theorem A3_0_eq (pr : Prims) (out_3 : Sl) (w : World) (R : Ending → World → Prop) : (q3 pr R) (.exit 0) (x0 out_3) w = (
  R (.returned (Sl.v out_3)) w) := by kernel_rfl
theorem A3_0_s (out_3 : Sl) (w : World) (R : Ending → World → Prop) : (q3 std R) (.exit 0) (x0 out_3) w = (
  R (.returned (Sl.v out_3)) w) := A3_0_eq std out_3 w R
theorem E_eq (pr : Prims) (a_0 : Sl) (w : World) (R : Ending → World → Prop) : E pr a_0 w R = (
  pr.sem1 .sl PP (Instr.makeSlice T_SSint (vI (a_0.n : Int)) (vI (a_0.n : Int))) w fun (ρ0 : Sl) ω1 =>
  L3 pr a_0 ρ0 0 ω1 (q3 pr R)) := by kernel_rfl
theorem E_s (a_0 : Sl) (w : World) (R : Ending → World → Prop) : E std a_0 w R = (
  sem1 .sl PP (Instr.makeSlice T_SSint (vI (a_0.n : Int)) (vI (a_0.n : Int))) w fun (ρ0 : Sl) ω1 =>
  L3 std a_0 ρ0 0 ω1 (q3 std R)) := E_eq std a_0 w R
theorem drawsOk : drawsOk PP cfg okD (codeOf Try.f20) = true := by kernel_rfl
theorem calls (a_0 : Sl) {w : World} {R : Ending → World → Prop} (h : E std a_0 w R) : Calls PP F.laws_toIntSS #[Sl.v a_0] w R :=
  calls_of noCount mixed drawOk Try.func20 rfl (c := cfg) (args := [Sl.v a_0]) rfl (Nat.le_of_ble_eq_true (by kernel_rfl)) drawsOk h
end laws_toIntSS

end Go.Proofs.Ytmhgjfahgemblaa
