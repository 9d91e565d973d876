/- What each function does, step by step, written by a program (Gen.lean); each equation is checked by the kernel. -/
import Derived.Test.YtfainpmcdfckkaaHead
namespace Go.Proofs.Ytfainpmcdfckkaa
open Go
set_option linter.unusedVariables false
set_option maxRecDepth 100000
namespace laws_eqStringS
@[reducible] def cfg : Cfg := ⟨26, [(4, [0, 1, 5])], [(1, [0, 1, 5]), (0, [])], [], [4], [6], [91, 60, 17, 21, 24, 26, 65, 27, 82, 64, 85, 108, 78, 53, 51], [86, 52, 88]⟩
def q0 (pr : Prims) (R : Ending → World → Prop) : Exit → Env → World → Prop := fun ex e w => normQ ex (fun e w => contE pr cfg (sub (codeOf Try.f48) [1, 1, 1]) (fun e w => wpC pr PP cfg (DD pr) (sub (codeOf Try.f48) [1, 1, 1]) (retQ Try.f48.results.toList R) e w) e w) (retQ Try.f48.results.toList R) e w
def q1 (pr : Prims) (R : Ending → World → Prop) : Exit → Env → World → Prop := fun ex e w => blockQ ex 0 (q0 pr R) e w
def emb4 (a_0 : Sl) (b_1 : Sl) (i_5 : Int) : Env := [(0, Sl.v a_0), (1, Sl.v b_1), (5, vI i_5)]
def x0 : Env := []
def S4 (pr : Prims) (Q : Exit → Env → World → Prop) : (Env → World → Prop) → Env → World → Prop := fun k e w => wpC pr PP cfg (DD pr) (sub (codeOf Try.f48) [1, 1, 0, 1, 0, 0]) (fun ex e w => normQ ex (fun e' w' => k (Env.restr e' (lookN cfg.loops (keyOf (sub (codeOf Try.f48) [1, 1, 0, 1, 0, 0])))) w') Q e w) e w
def B4 (pr : Prims) (a_0 : Sl) (b_1 : Sl) (i_5 : Int) (w : World) (k : Env → World → Prop) (Q : Exit → Env → World → Prop) : Prop :=
  S4 pr Q k (emb4 a_0 b_1 i_5) w
def L4 (pr : Prims) (a_0 : Sl) (b_1 : Sl) (i_5 : Int) (w : World) (Q : Exit → Env → World → Prop) : Prop :=
  pr.loop (S4 pr Q) (emb4 a_0 b_1 i_5) w
def E (pr : Prims) (a_0 : Sl) (b_1 : Sl) (w : World) (R : Ending → World → Prop) : Prop :=
  wpC pr PP cfg (DD pr) (codeOf Try.f48) (retQ Try.f48.results.toList R) (argE 0 [Sl.v a_0, Sl.v b_1]) w
theorem B4_eq (pr : Prims) (a_0 : Sl) (b_1 : Sl) (i_5 : Int) (w : World) (k : Env → World → Prop) (Q : Exit → Env → World → Prop) : B4 pr a_0 b_1 i_5 w k Q = (
  bif decide (i_5 < (a_0.n : Int)) then (
  pr.idxK 1 a_0 i_5 fun (a2 : Addr) =>
  pr.load1 .str a2 w fun (ξ3 : ByteArray) =>
  pr.idxK 1 b_1 i_5 fun (a4 : Addr) =>
  pr.load1 .str a4 w fun (ξ5 : ByteArray) =>
  pr.drewAll w fun ω6 =>
  bif !(ξ3.toList == ξ5.toList) then (
  Q .ret [(4, .bool false)] ω6)
  else (
  k (emb4 a_0 b_1 (w64 (i_5 + 1))) ω6))
  else (
  Q (.exit 0) (x0) w)) := by kernel_rfl
theorem B4_s (a_0 : Sl) (b_1 : Sl) (i_5 : Int) (w : World) (k : Env → World → Prop) (Q : Exit → Env → World → Prop) : B4 std a_0 b_1 i_5 w k Q = (
  bif decide (i_5 < (a_0.n : Int)) then (
  idxK 1 a_0 i_5 fun (a2 : Addr) =>
  load1 .str a2 w fun (ξ3 : ByteArray) =>
  idxK 1 b_1 i_5 fun (a4 : Addr) =>
  load1 .str a4 w fun (ξ5 : ByteArray) =>
  drewAll w fun ω6 =>
  bif !(ξ3.toList == ξ5.toList) then (
  Q .ret [(4, .bool false)] ω6)
  else (
  k (emb4 a_0 b_1 (w64 (i_5 + 1))) ω6))
  else (
  Q (.exit 0) (x0) w)) := B4_eq std a_0 b_1 i_5 w k Q
theorem L4_rule (a_0 : Sl) (b_1 : Sl) (i_5 : Int) (w : World) (Q : Exit → Env → World → Prop) (I : Int → World → Prop) (μ : Int → World → Nat) (h0 : I i_5 w)
    (h : ∀ (i_5 : Int) (w' : World), I i_5 w' → B4 std a_0 b_1 i_5 w' (fun e2 w2 => ∃ i_5_n, e2 = emb4 a_0 b_1 i_5_n ∧ I i_5_n w2 ∧ μ i_5_n w2 < μ i_5 w') Q) :
    L4 std a_0 b_1 i_5 w Q := by
  unfold L4
  refine LoopE.intro (σ := Int) (step := S4 std Q) (fun s => emb4 a_0 b_1 s) (fun s w => I s w) (fun s w => μ s w) i_5 rfl h0 ?_
  intro s w' hI
  have h1 := h s w' hI
  unfold B4 at h1
  exact h1
theorem A4_0_eq (pr : Prims) (w : World) (R : Ending → World → Prop) : (q1 pr R) (.exit 0) (x0) w = (
  R (.returned (.bool true)) w) := by kernel_rfl
theorem A4_0_s (w : World) (R : Ending → World → Prop) : (q1 std R) (.exit 0) (x0) w = (
  R (.returned (.bool true)) w) := A4_0_eq std w R
theorem R4_eq (pr : Prims) (v4 : Value) (w : World) (R : Ending → World → Prop) : (q1 pr R) .ret [(4, v4)] w = (
  R (.returned (v4)) w) := by kernel_rfl
theorem R4_s (v4 : Value) (w : World) (R : Ending → World → Prop) : (q1 std R) .ret [(4, v4)] w = (
  R (.returned (v4)) w) := R4_eq std v4 w R
theorem E_eq (pr : Prims) (a_0 : Sl) (b_1 : Sl) (w : World) (R : Ending → World → Prop) : E pr a_0 b_1 w R = (
  bif (a_0.n : Int) != (b_1.n : Int) then (
  R (.returned (.bool false)) w)
  else (
  L4 pr a_0 b_1 0 w (q1 pr R))) := by kernel_rfl
theorem E_s (a_0 : Sl) (b_1 : Sl) (w : World) (R : Ending → World → Prop) : E std a_0 b_1 w R = (
  bif (a_0.n : Int) != (b_1.n : Int) then (
  R (.returned (.bool false)) w)
  else (
  L4 std a_0 b_1 0 w (q1 std R))) := E_eq std a_0 b_1 w R
theorem drawsOk : drawsOk PP cfg okD (codeOf Try.f48) = true := by kernel_rfl
theorem calls (a_0 : Sl) (b_1 : Sl) {w : World} {R : Ending → World → Prop} (h : E std a_0 b_1 w R) : Calls PP F.laws_eqStringS #[Sl.v a_0, Sl.v b_1] w R :=
  calls_of noCount mixed drawOk Try.func48 rfl (c := cfg) (args := [Sl.v a_0, Sl.v b_1]) rfl (Nat.le_of_ble_eq_true (by kernel_rfl)) drawsOk h
end laws_eqStringS

namespace laws_markStringS
@[reducible] def cfg : Cfg := ⟨20, [(2, [0, 1, 5])], [(1, [0, 1, 5]), (0, [1])], [], [4], [], [91, 60, 17, 21, 24, 26, 65, 27, 82, 64, 85, 108, 78, 53, 51], [86, 52, 88]⟩
def q0 (pr : Prims) (R : Ending → World → Prop) : Exit → Env → World → Prop := fun ex e w => normQ ex (fun e w => contE pr cfg (sub (codeOf Try.f49) [1, 1]) (fun e w => wpC pr PP cfg (DD pr) (sub (codeOf Try.f49) [1, 1]) (retQ Try.f49.results.toList R) e w) e w) (retQ Try.f49.results.toList R) e w
def q1 (pr : Prims) (R : Ending → World → Prop) : Exit → Env → World → Prop := fun ex e w => blockQ ex 0 (q0 pr R) e w
def emb2 (a_0 : Sl) (k_1 : Int) (i_5 : Int) : Env := [(0, Sl.v a_0), (1, vI k_1), (5, vI i_5)]
def x0 (k_1 : Int) : Env := [(1, vI k_1)]
def S2 (pr : Prims) (Q : Exit → Env → World → Prop) : (Env → World → Prop) → Env → World → Prop := fun k e w => wpC pr PP cfg (DD pr) (sub (codeOf Try.f49) [1, 0, 1, 0, 0]) (fun ex e w => normQ ex (fun e' w' => k (Env.restr e' (lookN cfg.loops (keyOf (sub (codeOf Try.f49) [1, 0, 1, 0, 0])))) w') Q e w) e w
def B2 (pr : Prims) (a_0 : Sl) (k_1 : Int) (i_5 : Int) (w : World) (k : Env → World → Prop) (Q : Exit → Env → World → Prop) : Prop :=
  S2 pr Q k (emb2 a_0 k_1 i_5) w
def L2 (pr : Prims) (a_0 : Sl) (k_1 : Int) (i_5 : Int) (w : World) (Q : Exit → Env → World → Prop) : Prop :=
  pr.loop (S2 pr Q) (emb2 a_0 k_1 i_5) w
def E (pr : Prims) (a_0 : Sl) (k_1 : Int) (w : World) (R : Ending → World → Prop) : Prop :=
  wpC pr PP cfg (DD pr) (codeOf Try.f49) (retQ Try.f49.results.toList R) (argE 0 [Sl.v a_0, vI k_1]) w
theorem B2_eq (pr : Prims) (a_0 : Sl) (k_1 : Int) (i_5 : Int) (w : World) (k : Env → World → Prop) (Q : Exit → Env → World → Prop) : B2 pr a_0 k_1 i_5 w k Q = (
  bif decide (i_5 < (a_0.n : Int)) then (
  pr.call1 .str PP F.laws_markText #[vI k_1] w fun (ρ2 : ByteArray) ω3 =>
  pr.idxK 1 a_0 i_5 fun (a4 : Addr) =>
  pr.storeC a4 (.string ρ2) ω3 fun ω5 =>
  k (emb2 a_0 (w64 (k_1 + 1)) (w64 (i_5 + 1))) ω5)
  else (
  Q (.exit 0) (x0 k_1) w)) := by kernel_rfl
theorem B2_s (a_0 : Sl) (k_1 : Int) (i_5 : Int) (w : World) (k : Env → World → Prop) (Q : Exit → Env → World → Prop) : B2 std a_0 k_1 i_5 w k Q = (
  bif decide (i_5 < (a_0.n : Int)) then (
  call1 .str PP F.laws_markText #[vI k_1] w fun (ρ2 : ByteArray) ω3 =>
  idxK 1 a_0 i_5 fun (a4 : Addr) =>
  storeC a4 (.string ρ2) ω3 fun ω5 =>
  k (emb2 a_0 (w64 (k_1 + 1)) (w64 (i_5 + 1))) ω5)
  else (
  Q (.exit 0) (x0 k_1) w)) := B2_eq std a_0 k_1 i_5 w k Q
theorem L2_rule (a_0 : Sl) (k_1 : Int) (i_5 : Int) (w : World) (Q : Exit → Env → World → Prop) (I : Int → Int → World → Prop) (μ : Int → Int → World → Nat) (h0 : I k_1 i_5 w)
    (h : ∀ (k_1 : Int) (i_5 : Int) (w' : World), I k_1 i_5 w' → B2 std a_0 k_1 i_5 w' (fun e2 w2 => ∃ k_1_n i_5_n, e2 = emb2 a_0 k_1_n i_5_n ∧ I k_1_n i_5_n w2 ∧ μ k_1_n i_5_n w2 < μ k_1 i_5 w') Q) :
    L2 std a_0 k_1 i_5 w Q := by
  unfold L2
  refine LoopE.intro (σ := Int × Int) (step := S2 std Q) (fun s => emb2 a_0 s.1 s.2) (fun s w => I s.1 s.2 w) (fun s w => μ s.1 s.2 w) (k_1, i_5) rfl h0 ?_
  intro s w' hI
  have h1 := h s.1 s.2 w' hI
  unfold B2 at h1
  simp only [Prod.exists]
  exact h1
theorem A2_0_eq (pr : Prims) (k_1 : Int) (w : World) (R : Ending → World → Prop) : (q1 pr R) (.exit 0) (x0 k_1) w = (
  R (.returned (vI k_1)) w) := by kernel_rfl
theorem A2_0_s (k_1 : Int) (w : World) (R : Ending → World → Prop) : (q1 std R) (.exit 0) (x0 k_1) w = (
  R (.returned (vI k_1)) w) := A2_0_eq std k_1 w R
theorem E_eq (pr : Prims) (a_0 : Sl) (k_1 : Int) (w : World) (R : Ending → World → Prop) : E pr a_0 k_1 w R = (
  L2 pr a_0 k_1 0 w (q1 pr R)) := by kernel_rfl
theorem E_s (a_0 : Sl) (k_1 : Int) (w : World) (R : Ending → World → Prop) : E std a_0 k_1 w R = (
  L2 std a_0 k_1 0 w (q1 std R)) := E_eq std a_0 k_1 w R
theorem drawsOk : drawsOk PP cfg okD (codeOf Try.f49) = true := by kernel_rfl
theorem calls (a_0 : Sl) (k_1 : Int) {w : World} {R : Ending → World → Prop} (h : E std a_0 k_1 w R) : Calls PP F.laws_markStringS #[Sl.v a_0, vI k_1] w R :=
  calls_of noCount mixed drawOk Try.func49 rfl (c := cfg) (args := [Sl.v a_0, vI k_1]) rfl (Nat.le_of_ble_eq_true (by kernel_rfl)) drawsOk h
end laws_markStringS

namespace laws_heldStringS
@[reducible] def cfg : Cfg := ⟨22, [(2, [0, 1, 5])], [(1, [0, 1, 5]), (0, [1])], [(5, [0, 1, 5, 18]), (6, [0, 1, 5])], [4], [], [91, 60, 17, 21, 24, 26, 65, 27, 82, 64, 85, 108, 78, 53, 51], [86, 52, 88]⟩
def q0 (pr : Prims) (R : Ending → World → Prop) : Exit → Env → World → Prop := fun ex e w => normQ ex (fun e w => contE pr cfg (sub (codeOf Try.f50) [1, 1]) (fun e w => wpC pr PP cfg (DD pr) (sub (codeOf Try.f50) [1, 1]) (retQ Try.f50.results.toList R) e w) e w) (retQ Try.f50.results.toList R) e w
def q1 (pr : Prims) (R : Ending → World → Prop) : Exit → Env → World → Prop := fun ex e w => blockQ ex 0 (q0 pr R) e w
def q2 (pr : Prims) (k : Env → World → Prop) (Q : Exit → Env → World → Prop) : Exit → Env → World → Prop := fun ex e w => normQ ex (fun e w => contE pr cfg (sub (codeOf Try.f50) [1, 0, 1, 0, 0, 1, 1]) (fun e w => wpC pr PP cfg (DD pr) (sub (codeOf Try.f50) [1, 0, 1, 0, 0, 1, 1]) (fun ex e w => normQ ex (fun e' w' => k (Env.restr e' (lookN cfg.loops (keyOf (sub (codeOf Try.f50) [1, 0, 1, 0, 0])))) w') Q e w) e w) e w) (fun ex e w => normQ ex (fun e' w' => k (Env.restr e' (lookN cfg.loops (keyOf (sub (codeOf Try.f50) [1, 0, 1, 0, 0])))) w') Q e w) e w
def q3 (pr : Prims) (k : Env → World → Prop) (Q : Exit → Env → World → Prop) : Exit → Env → World → Prop := fun ex e w => blockQ ex 1 (q2 pr k Q) e w
def q4 (pr : Prims) (k : Env → World → Prop) (Q : Exit → Env → World → Prop) : Exit → Env → World → Prop := fun ex e w => normQ ex (fun e w => contE pr cfg (sub (codeOf Try.f50) [1, 0, 1, 0, 0, 1, 0, 0, 1]) (fun e w => wpC pr PP cfg (DD pr) (sub (codeOf Try.f50) [1, 0, 1, 0, 0, 1, 0, 0, 1]) (q3 pr k Q) e w) e w) (q3 pr k Q) e w
def q5 (pr : Prims) (k : Env → World → Prop) (Q : Exit → Env → World → Prop) : Exit → Env → World → Prop := fun ex e w => normQ ex (fun e w => contE pr cfg (sub (codeOf Try.f50) [1, 0, 1, 0, 0, 1, 0, 0, 0, 1]) (fun e w => wpC pr PP cfg (DD pr) (sub (codeOf Try.f50) [1, 0, 1, 0, 0, 1, 0, 0, 0, 1]) (q4 pr k Q) e w) e w) (q4 pr k Q) e w
def emb2 (a_0 : Sl) (k_1 : Int) (i_5 : Int) : Env := [(0, Sl.v a_0), (1, vI k_1), (5, vI i_5)]
def j5 (a_0 : Sl) (k_1 : Int) (i_5 : Int) (t18 : Bool) : Env := [(0, Sl.v a_0), (1, vI k_1), (5, vI i_5), (18, .bool t18)]
def j6 (a_0 : Sl) (k_1 : Int) (i_5 : Int) : Env := [(0, Sl.v a_0), (1, vI k_1), (5, vI i_5)]
def x0 (k_1 : Int) : Env := [(1, vI k_1)]
def S2 (pr : Prims) (Q : Exit → Env → World → Prop) : (Env → World → Prop) → Env → World → Prop := fun k e w => wpC pr PP cfg (DD pr) (sub (codeOf Try.f50) [1, 0, 1, 0, 0]) (fun ex e w => normQ ex (fun e' w' => k (Env.restr e' (lookN cfg.loops (keyOf (sub (codeOf Try.f50) [1, 0, 1, 0, 0])))) w') Q e w) e w
def J6 (pr : Prims) (a_0 : Sl) (k_1 : Int) (i_5 : Int) (w : World) (k : Env → World → Prop) (Q : Exit → Env → World → Prop) : Prop :=
  pr.seg (fun e w => wpC pr PP cfg (DD pr) (sub (codeOf Try.f50) [1, 0, 1, 0, 0, 1, 0, 0, 1]) (q3 pr k Q) e w) (j6 a_0 k_1 i_5) w
def J5 (pr : Prims) (a_0 : Sl) (k_1 : Int) (i_5 : Int) (t18 : Bool) (w : World) (k : Env → World → Prop) (Q : Exit → Env → World → Prop) : Prop :=
  pr.seg (fun e w => wpC pr PP cfg (DD pr) (sub (codeOf Try.f50) [1, 0, 1, 0, 0, 1, 0, 0, 0, 1]) (q4 pr k Q) e w) (j5 a_0 k_1 i_5 t18) w
def B2 (pr : Prims) (a_0 : Sl) (k_1 : Int) (i_5 : Int) (w : World) (k : Env → World → Prop) (Q : Exit → Env → World → Prop) : Prop :=
  S2 pr Q k (emb2 a_0 k_1 i_5) w
def L2 (pr : Prims) (a_0 : Sl) (k_1 : Int) (i_5 : Int) (w : World) (Q : Exit → Env → World → Prop) : Prop :=
  pr.loop (S2 pr Q) (emb2 a_0 k_1 i_5) w
def E (pr : Prims) (a_0 : Sl) (k_1 : Int) (w : World) (R : Ending → World → Prop) : Prop :=
  wpC pr PP cfg (DD pr) (codeOf Try.f50) (retQ Try.f50.results.toList R) (argE 0 [Sl.v a_0, vI k_1]) w
theorem J6_gen (pr : Prims) (a_0 : Sl) (k_1 : Int) (i_5 : Int) (w : World) (k : Env → World → Prop) (Q : Exit → Env → World → Prop) : wpC pr PP cfg (DD pr) (sub (codeOf Try.f50) [1, 0, 1, 0, 0, 1, 0, 0, 1]) (q3 pr k Q) (j6 a_0 k_1 i_5) w = (
  k (emb2 a_0 (w64 (k_1 + 1)) (w64 (i_5 + 1))) w) := by kernel_rfl
theorem J6_s (a_0 : Sl) (k_1 : Int) (i_5 : Int) (w : World) (k : Env → World → Prop) (Q : Exit → Env → World → Prop) : J6 std a_0 k_1 i_5 w k Q = (
  k (emb2 a_0 (w64 (k_1 + 1)) (w64 (i_5 + 1))) w) := J6_gen std a_0 k_1 i_5 w k Q
theorem J5_gen (pr : Prims) (a_0 : Sl) (k_1 : Int) (i_5 : Int) (t18 : Bool) (w : World) (k : Env → World → Prop) (Q : Exit → Env → World → Prop) : wpC pr PP cfg (DD pr) (sub (codeOf Try.f50) [1, 0, 1, 0, 0, 1, 0, 0, 0, 1]) (q4 pr k Q) (j5 a_0 k_1 i_5 t18) w = (
  bif t18 then (
  Q .ret [(4, vI (-1))] w)
  else (
  J6 pr a_0 k_1 i_5 w k Q)) := by kernel_rfl
theorem J5_s (a_0 : Sl) (k_1 : Int) (i_5 : Int) (t18 : Bool) (w : World) (k : Env → World → Prop) (Q : Exit → Env → World → Prop) : J5 std a_0 k_1 i_5 t18 w k Q = (
  bif t18 then (
  Q .ret [(4, vI (-1))] w)
  else (
  J6 std a_0 k_1 i_5 w k Q)) := J5_gen std a_0 k_1 i_5 t18 w k Q
theorem B2_eq (pr : Prims) (a_0 : Sl) (k_1 : Int) (i_5 : Int) (w : World) (k : Env → World → Prop) (Q : Exit → Env → World → Prop) : B2 pr a_0 k_1 i_5 w k Q = (
  bif decide (i_5 < (a_0.n : Int)) then (
  pr.drewAll w fun ω6 =>
  pr.idxK 1 a_0 i_5 fun (a7 : Addr) =>
  (pr.load1 .str a7 ω6 fun (ξ8 : ByteArray) =>
  pr.call1 .str PP F.laws_markText #[vI k_1] ω6 fun (ρ9 : ByteArray) ω10 =>
  J5 pr a_0 k_1 i_5 (!(ξ8.toList == ρ9.toList)) ω10 k Q) ∧
  (pr.call1 .str PP F.laws_markText #[vI k_1] ω6 fun (ρ11 : ByteArray) ω12 =>
  pr.load1 .str a7 ω12 fun (ξ13 : ByteArray) =>
  J5 pr a_0 k_1 i_5 (!(ξ13.toList == ρ11.toList)) ω12 k Q))
  else (
  Q (.exit 0) (x0 k_1) w)) := by kernel_rfl
theorem B2_s (a_0 : Sl) (k_1 : Int) (i_5 : Int) (w : World) (k : Env → World → Prop) (Q : Exit → Env → World → Prop) : B2 std a_0 k_1 i_5 w k Q = (
  bif decide (i_5 < (a_0.n : Int)) then (
  drewAll w fun ω6 =>
  idxK 1 a_0 i_5 fun (a7 : Addr) =>
  (load1 .str a7 ω6 fun (ξ8 : ByteArray) =>
  call1 .str PP F.laws_markText #[vI k_1] ω6 fun (ρ9 : ByteArray) ω10 =>
  J5 std a_0 k_1 i_5 (!(ξ8.toList == ρ9.toList)) ω10 k Q) ∧
  (call1 .str PP F.laws_markText #[vI k_1] ω6 fun (ρ11 : ByteArray) ω12 =>
  load1 .str a7 ω12 fun (ξ13 : ByteArray) =>
  J5 std a_0 k_1 i_5 (!(ξ13.toList == ρ11.toList)) ω12 k Q))
  else (
  Q (.exit 0) (x0 k_1) w)) := B2_eq std a_0 k_1 i_5 w k Q
theorem L2_rule (a_0 : Sl) (k_1 : Int) (i_5 : Int) (w : World) (Q : Exit → Env → World → Prop) (I : Int → Int → World → Prop) (μ : Int → Int → World → Nat) (h0 : I k_1 i_5 w)
    (h : ∀ (k_1 : Int) (i_5 : Int) (w' : World), I k_1 i_5 w' → B2 std a_0 k_1 i_5 w' (fun e2 w2 => ∃ k_1_n i_5_n, e2 = emb2 a_0 k_1_n i_5_n ∧ I k_1_n i_5_n w2 ∧ μ k_1_n i_5_n w2 < μ k_1 i_5 w') Q) :
    L2 std a_0 k_1 i_5 w Q := by
  unfold L2
  refine LoopE.intro (σ := Int × Int) (step := S2 std Q) (fun s => emb2 a_0 s.1 s.2) (fun s w => I s.1 s.2 w) (fun s w => μ s.1 s.2 w) (k_1, i_5) rfl h0 ?_
  intro s w' hI
  have h1 := h s.1 s.2 w' hI
  unfold B2 at h1
  simp only [Prod.exists]
  exact h1
theorem A2_0_eq (pr : Prims) (k_1 : Int) (w : World) (R : Ending → World → Prop) : (q1 pr R) (.exit 0) (x0 k_1) w = (
  R (.returned (vI k_1)) w) := by kernel_rfl
theorem A2_0_s (k_1 : Int) (w : World) (R : Ending → World → Prop) : (q1 std R) (.exit 0) (x0 k_1) w = (
  R (.returned (vI k_1)) w) := A2_0_eq std k_1 w R
theorem R2_eq (pr : Prims) (v4 : Value) (w : World) (R : Ending → World → Prop) : (q1 pr R) .ret [(4, v4)] w = (
  R (.returned (v4)) w) := by kernel_rfl
theorem R2_s (v4 : Value) (w : World) (R : Ending → World → Prop) : (q1 std R) .ret [(4, v4)] w = (
  R (.returned (v4)) w) := R2_eq std v4 w R
theorem E_eq (pr : Prims) (a_0 : Sl) (k_1 : Int) (w : World) (R : Ending → World → Prop) : E pr a_0 k_1 w R = (
  L2 pr a_0 k_1 0 w (q1 pr R)) := by kernel_rfl
theorem E_s (a_0 : Sl) (k_1 : Int) (w : World) (R : Ending → World → Prop) : E std a_0 k_1 w R = (
  L2 std a_0 k_1 0 w (q1 std R)) := E_eq std a_0 k_1 w R
theorem drawsOk : drawsOk PP cfg okD (codeOf Try.f50) = true := by kernel_rfl
theorem calls (a_0 : Sl) (k_1 : Int) {w : World} {R : Ending → World → Prop} (h : E std a_0 k_1 w R) : Calls PP F.laws_heldStringS #[Sl.v a_0, vI k_1] w R :=
  calls_of noCount mixed drawOk Try.func50 rfl (c := cfg) (args := [Sl.v a_0, vI k_1]) rfl (Nat.le_of_ble_eq_true (by kernel_rfl)) drawsOk h
end laws_heldStringS

namespace laws_markText
@[reducible] def cfg : Cfg := ⟨20, [(4, [0, 3])], [(1, [0, 3]), (0, [3])], [], [2], [], [91, 60, 17, 21, 24, 26, 65, 27, 82, 64, 85, 108, 78, 53, 51], [86, 52, 88]⟩
def q0 (pr : Prims) (R : Ending → World → Prop) : Exit → Env → World → Prop := fun ex e w => normQ ex (fun e w => contE pr cfg (sub (codeOf Try.f90) [1, 1, 1, 1]) (fun e w => wpC pr PP cfg (DD pr) (sub (codeOf Try.f90) [1, 1, 1, 1]) (retQ Try.f90.results.toList R) e w) e w) (retQ Try.f90.results.toList R) e w
def q1 (pr : Prims) (R : Ending → World → Prop) : Exit → Env → World → Prop := fun ex e w => blockQ ex 0 (q0 pr R) e w
def emb4 (k_0 : Int) (out_3 : ByteArray) : Env := [(0, vI k_0), (3, .string out_3)]
def x0 (out_3 : ByteArray) : Env := [(3, .string out_3)]
def S4 (pr : Prims) (Q : Exit → Env → World → Prop) : (Env → World → Prop) → Env → World → Prop := fun k e w => wpC pr PP cfg (DD pr) (sub (codeOf Try.f90) [1, 1, 1, 0, 0, 0]) (fun ex e w => normQ ex (fun e' w' => k (Env.restr e' (lookN cfg.loops (keyOf (sub (codeOf Try.f90) [1, 1, 1, 0, 0, 0])))) w') Q e w) e w
def B4 (pr : Prims) (k_0 : Int) (out_3 : ByteArray) (w : World) (k : Env → World → Prop) (Q : Exit → Env → World → Prop) : Prop :=
  S4 pr Q k (emb4 k_0 out_3) w
def L4 (pr : Prims) (k_0 : Int) (out_3 : ByteArray) (w : World) (Q : Exit → Env → World → Prop) : Prop :=
  pr.loop (S4 pr Q) (emb4 k_0 out_3) w
def E (pr : Prims) (k_0 : Int) (w : World) (R : Ending → World → Prop) : Prop :=
  wpC pr PP cfg (DD pr) (codeOf Try.f90) (retQ Try.f90.results.toList R) (argE 0 [vI k_0]) w
theorem B4_eq (pr : Prims) (k_0 : Int) (out_3 : ByteArray) (w : World) (k : Env → World → Prop) (Q : Exit → Env → World → Prop) : B4 pr k_0 out_3 w k Q = (
  bif decide (k_0 > 0) then (
  10 ≠ (0 : Int) ∧
  pr.sem1 .sl PP (Instr.buildSlice T_Suint8 1 #[(0, .int .u8 (IntKind.u8.wrap (w64 (48 + (k_0.tmod 10)))))]) w fun (ρ2 : Sl) ω3 =>
  pr.sem1 .str PP (convert T_Suint8 T_string (Sl.v ρ2)) ω3 fun (ρ4 : ByteArray) ω5 =>
  ((ρ4.size + out_3.size : Nat) : Int) ≤ IntKind.i64.max ∧
  10 ≠ (0 : Int) ∧
  k (emb4 (w64 (k_0.tdiv 10)) (ρ4 ++ out_3)) ω5)
  else (
  Q (.exit 0) (x0 out_3) w)) := by kernel_rfl
theorem B4_s (k_0 : Int) (out_3 : ByteArray) (w : World) (k : Env → World → Prop) (Q : Exit → Env → World → Prop) : B4 std k_0 out_3 w k Q = (
  bif decide (k_0 > 0) then (
  10 ≠ (0 : Int) ∧
  sem1 .sl PP (Instr.buildSlice T_Suint8 1 #[(0, .int .u8 (IntKind.u8.wrap (w64 (48 + (k_0.tmod 10)))))]) w fun (ρ2 : Sl) ω3 =>
  sem1 .str PP (convert T_Suint8 T_string (Sl.v ρ2)) ω3 fun (ρ4 : ByteArray) ω5 =>
  ((ρ4.size + out_3.size : Nat) : Int) ≤ IntKind.i64.max ∧
  10 ≠ (0 : Int) ∧
  k (emb4 (w64 (k_0.tdiv 10)) (ρ4 ++ out_3)) ω5)
  else (
  Q (.exit 0) (x0 out_3) w)) := B4_eq std k_0 out_3 w k Q
theorem L4_rule (k_0 : Int) (out_3 : ByteArray) (w : World) (Q : Exit → Env → World → Prop) (I : Int → ByteArray → World → Prop) (μ : Int → ByteArray → World → Nat) (h0 : I k_0 out_3 w)
    (h : ∀ (k_0 : Int) (out_3 : ByteArray) (w' : World), I k_0 out_3 w' → B4 std k_0 out_3 w' (fun e2 w2 => ∃ k_0_n out_3_n, e2 = emb4 k_0_n out_3_n ∧ I k_0_n out_3_n w2 ∧ μ k_0_n out_3_n w2 < μ k_0 out_3 w') Q) :
    L4 std k_0 out_3 w Q := by
  unfold L4
  refine LoopE.intro (σ := Int × ByteArray) (step := S4 std Q) (fun s => emb4 s.1 s.2) (fun s w => I s.1 s.2 w) (fun s w => μ s.1 s.2 w) (k_0, out_3) rfl h0 ?_
  intro s w' hI
  have h1 := h s.1 s.2 w' hI
  unfold B4 at h1
  simp only [Prod.exists]
  exact h1
theorem A4_0_eq (pr : Prims) (out_3 : ByteArray) (w : World) (R : Ending → World → Prop) : (q1 pr R) (.exit 0) (x0 out_3) w = (
  (((⟨#[109]⟩ : ByteArray).size + out_3.size : Nat) : Int) ≤ IntKind.i64.max ∧
  R (.returned (.string ((⟨#[109]⟩ : ByteArray) ++ out_3))) w) := by kernel_rfl
theorem A4_0_s (out_3 : ByteArray) (w : World) (R : Ending → World → Prop) : (q1 std R) (.exit 0) (x0 out_3) w = (
  (((⟨#[109]⟩ : ByteArray).size + out_3.size : Nat) : Int) ≤ IntKind.i64.max ∧
  R (.returned (.string ((⟨#[109]⟩ : ByteArray) ++ out_3))) w) := A4_0_eq std out_3 w R
theorem E_eq (pr : Prims) (k_0 : Int) (w : World) (R : Ending → World → Prop) : E pr k_0 w R = (
  bif decide (k_0 ≤ 0) then (
  R (.returned (.string (⟨#[109, 48]⟩ : ByteArray))) w)
  else (
  L4 pr k_0 (⟨#[]⟩ : ByteArray) w (q1 pr R))) := by kernel_rfl
theorem E_s (k_0 : Int) (w : World) (R : Ending → World → Prop) : E std k_0 w R = (
  bif decide (k_0 ≤ 0) then (
  R (.returned (.string (⟨#[109, 48]⟩ : ByteArray))) w)
  else (
  L4 std k_0 (⟨#[]⟩ : ByteArray) w (q1 std R))) := E_eq std k_0 w R
theorem drawsOk : drawsOk PP cfg okD (codeOf Try.f90) = true := by kernel_rfl
theorem calls (k_0 : Int) {w : World} {R : Ending → World → Prop} (h : E std k_0 w R) : Calls PP F.laws_markText #[vI k_0] w R :=
  calls_of noCount mixed drawOk Try.func90 rfl (c := cfg) (args := [vI k_0]) rfl (Nat.le_of_ble_eq_true (by kernel_rfl)) drawsOk h
end laws_markText

end Go.Proofs.Ytfainpmcdfckkaa
