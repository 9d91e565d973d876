/- What each function does, step by step, written by a program (Gen.lean); each equation is checked by the kernel. -/
import Derived.Test.YtjnikeemcbhmkaaHead
namespace Go.Proofs.Ytjnikeemcbhmkaa
open Go
set_option linter.unusedVariables false
namespace spec_l1In
@[reducible] def cfg : Cfg := ⟨15, [], [], [], [6], [], [], [21, 26, 27]⟩
def E (pr : Prims) (x_0 : Int) (lo_1 : Int) (hi_2 : Int) (w : World) (R : Ending → World → Prop) : Prop :=
  wpC pr PP cfg (DD pr) (codeOf Try.f21) (retQ Try.f21.results.toList R) (argE 0 [vI x_0, vI lo_1, vI hi_2]) w
theorem E_eq (pr : Prims) (x_0 : Int) (lo_1 : Int) (hi_2 : Int) (w : World) (R : Ending → World → Prop) : E pr x_0 lo_1 hi_2 w R = (
  bif decide (x_0 ≥ lo_1) then (
  R (.returned (.bool (decide (x_0 ≤ hi_2)))) w)
  else (
  R (.returned (.bool false)) w)) := by kernel_rfl
theorem E_s (x_0 : Int) (lo_1 : Int) (hi_2 : Int) (w : World) (R : Ending → World → Prop) : E std x_0 lo_1 hi_2 w R = (
  bif decide (x_0 ≥ lo_1) then (
  R (.returned (.bool (decide (x_0 ≤ hi_2)))) w)
  else (
  R (.returned (.bool false)) w)) := E_eq std x_0 lo_1 hi_2 w R
theorem drawsOk : drawsOk PP cfg okD (codeOf Try.f21) = true := by kernel_rfl
theorem calls (x_0 : Int) (lo_1 : Int) (hi_2 : Int) {w : World} {R : Ending → World → Prop} (h : E std x_0 lo_1 hi_2 w R) : Calls PP F.spec_l1In #[vI x_0, vI lo_1, vI hi_2] w R :=
  calls_of noCount mixed drawOk Try.func21 rfl (c := cfg) (args := [vI x_0, vI lo_1, vI hi_2]) rfl (Nat.le_of_ble_eq_true (by kernel_rfl)) drawsOk h
end spec_l1In

namespace spec_l1Bit
@[reducible] def cfg : Cfg := ⟨4, [], [], [], [2], [], [], [21, 26, 27]⟩
def E (pr : Prims) (on_0 : Bool) (w : World) (R : Ending → World → Prop) : Prop :=
  wpC pr PP cfg (DD pr) (codeOf Try.f26) (retQ Try.f26.results.toList R) (argE 0 [.bool on_0]) w
theorem E_eq (pr : Prims) (on_0 : Bool) (w : World) (R : Ending → World → Prop) : E pr on_0 w R = (
  bif on_0 then (
  R (.returned (vI 1)) w)
  else (
  R (.returned (vI 0)) w)) := by kernel_rfl
theorem E_s (on_0 : Bool) (w : World) (R : Ending → World → Prop) : E std on_0 w R = (
  bif on_0 then (
  R (.returned (vI 1)) w)
  else (
  R (.returned (vI 0)) w)) := E_eq std on_0 w R
theorem drawsOk : drawsOk PP cfg okD (codeOf Try.f26) = true := by kernel_rfl
theorem calls (on_0 : Bool) {w : World} {R : Ending → World → Prop} (h : E std on_0 w R) : Calls PP F.spec_l1Bit #[.bool on_0] w R :=
  calls_of noCount mixed drawOk Try.func26 rfl (c := cfg) (args := [.bool on_0]) rfl (Nat.le_of_ble_eq_true (by kernel_rfl)) drawsOk h
end spec_l1Bit

namespace spec_l1Max
@[reducible] def cfg : Cfg := ⟨10, [], [], [], [4], [], [], [21, 26, 27]⟩
def E (pr : Prims) (a_0 : Int) (b_1 : Int) (w : World) (R : Ending → World → Prop) : Prop :=
  wpC pr PP cfg (DD pr) (codeOf Try.f27) (retQ Try.f27.results.toList R) (argE 0 [vI a_0, vI b_1]) w
theorem E_eq (pr : Prims) (a_0 : Int) (b_1 : Int) (w : World) (R : Ending → World → Prop) : E pr a_0 b_1 w R = (
  bif decide (a_0 > b_1) then (
  R (.returned (vI a_0)) w)
  else (
  R (.returned (vI b_1)) w)) := by kernel_rfl
theorem E_s (a_0 : Int) (b_1 : Int) (w : World) (R : Ending → World → Prop) : E std a_0 b_1 w R = (
  bif decide (a_0 > b_1) then (
  R (.returned (vI a_0)) w)
  else (
  R (.returned (vI b_1)) w)) := E_eq std a_0 b_1 w R
theorem drawsOk : drawsOk PP cfg okD (codeOf Try.f27) = true := by kernel_rfl
theorem calls (a_0 : Int) (b_1 : Int) {w : World} {R : Ending → World → Prop} (h : E std a_0 b_1 w R) : Calls PP F.spec_l1Max #[vI a_0, vI b_1] w R :=
  calls_of noCount mixed drawOk Try.func27 rfl (c := cfg) (args := [vI a_0, vI b_1]) rfl (Nat.le_of_ble_eq_true (by kernel_rfl)) drawsOk h
end spec_l1Max

namespace impl_heights
@[reducible] def cfg : Cfg := ⟨39, [(4, [0, 4, 5, 9, 10])], [(2, [0, 4, 5, 9, 10]), (1, [0, 4, 5, 9, 10]), (0, [0, 4, 5])], [], [2, 3], [], [], [21, 26, 27]⟩
def q2 (pr : Prims) (R : Ending → World → Prop) : Exit → Env → World → Prop := fun ex e w => normQ ex (fun e w => contE pr cfg (sub (codeOf Try.f24) [1, 1, 1, 1]) (fun e w => wpC pr PP cfg (DD pr) (sub (codeOf Try.f24) [1, 1, 1, 1]) (retQ Try.f24.results.toList R) e w) e w) (retQ Try.f24.results.toList R) e w
def q3 (pr : Prims) (R : Ending → World → Prop) : Exit → Env → World → Prop := fun ex e w => blockQ ex 0 (q2 pr R) e w
def emb4 (text_0 : ByteArray) (out_4 : Sl) (h_5 : Int) (t9 : Int) (t10 : Int) : Env := [(0, .string text_0), (4, Sl.v out_4), (5, vI h_5), (9, vI t9), (10, vI t10)]
def x0 (text_0 : ByteArray) (out_4 : Sl) (h_5 : Int) : Env := [(0, .string text_0), (4, Sl.v out_4), (5, vI h_5)]
def S4 (pr : Prims) (Q : Exit → Env → World → Prop) : (Env → World → Prop) → Env → World → Prop := fun k e w => wpC pr PP cfg (DD pr) (sub (codeOf Try.f24) [1, 1, 1, 0, 1, 0, 0]) (fun ex e w => normQ ex (fun e' w' => k (Env.restr e' (lookN cfg.loops (keyOf (sub (codeOf Try.f24) [1, 1, 1, 0, 1, 0, 0])))) w') Q e w) e w
def B4 (pr : Prims) (text_0 : ByteArray) (out_4 : Sl) (h_5 : Int) (t9 : Int) (t10 : Int) (w : World) (k : Env → World → Prop) (Q : Exit → Env → World → Prop) : Prop :=
  S4 pr Q k (emb4 text_0 out_4 h_5 t9 t10) w
def L4 (pr : Prims) (text_0 : ByteArray) (out_4 : Sl) (h_5 : Int) (t9 : Int) (t10 : Int) (w : World) (Q : Exit → Env → World → Prop) : Prop :=
  pr.loop (S4 pr Q) (emb4 text_0 out_4 h_5 t9 t10) w
def E (pr : Prims) (text_0 : ByteArray) (w : World) (R : Ending → World → Prop) : Prop :=
  wpC pr PP cfg (DD pr) (codeOf Try.f24) (retQ Try.f24.results.toList R) (argE 0 [.string text_0]) w
theorem B4_eq (pr : Prims) (text_0 : ByteArray) (out_4 : Sl) (h_5 : Int) (t9 : Int) (t10 : Int) (w : World) (k : Env → World → Prop) (Q : Exit → Env → World → Prop) : B4 pr text_0 out_4 h_5 t9 t10 w k Q = (
  bif decide (t10 < t9) then (
  pr.strIdxK text_0 t10 fun (b4 : Int) =>
  bif b4 == 85 then (
  bif decide ((w64 (h_5 + 1)) < 0) then (
  Q .ret [(2, Sl.v Sl.nil), (3, .bool false)] w)
  else (
  pr.sem1 .sl PP (Instr.buildSlice T_Sint 1 #[(0, vI (w64 (h_5 + 1)))]) w fun (r'5 : Sl) w6 =>
  pr.sem1 .sl PP (Builtin.append_ #[T_Sint, T_Sint] T_Sint #[Sl.v out_4, Sl.v r'5]) w6 fun (r'7 : Sl) w8 =>
  k (emb4 text_0 r'7 (w64 (h_5 + 1)) t9 (w64 (t10 + 1))) w8))
  else (
  bif b4 == 68 then (
  bif decide ((w64 (h_5 - 1)) < 0) then (
  Q .ret [(2, Sl.v Sl.nil), (3, .bool false)] w)
  else (
  pr.sem1 .sl PP (Instr.buildSlice T_Sint 1 #[(0, vI (w64 (h_5 - 1)))]) w fun (r'9 : Sl) w10 =>
  pr.sem1 .sl PP (Builtin.append_ #[T_Sint, T_Sint] T_Sint #[Sl.v out_4, Sl.v r'9]) w10 fun (r'11 : Sl) w12 =>
  k (emb4 text_0 r'11 (w64 (h_5 - 1)) t9 (w64 (t10 + 1))) w12))
  else (
  Q .ret [(2, Sl.v Sl.nil), (3, .bool false)] w)))
  else (
  Q (.exit 0) (x0 text_0 out_4 h_5) w)) := by kernel_rfl
theorem B4_s (text_0 : ByteArray) (out_4 : Sl) (h_5 : Int) (t9 : Int) (t10 : Int) (w : World) (k : Env → World → Prop) (Q : Exit → Env → World → Prop) : B4 std text_0 out_4 h_5 t9 t10 w k Q = (
  bif decide (t10 < t9) then (
  strIdxK text_0 t10 fun (b4 : Int) =>
  bif b4 == 85 then (
  bif decide ((w64 (h_5 + 1)) < 0) then (
  Q .ret [(2, Sl.v Sl.nil), (3, .bool false)] w)
  else (
  sem1 .sl PP (Instr.buildSlice T_Sint 1 #[(0, vI (w64 (h_5 + 1)))]) w fun (r'5 : Sl) w6 =>
  sem1 .sl PP (Builtin.append_ #[T_Sint, T_Sint] T_Sint #[Sl.v out_4, Sl.v r'5]) w6 fun (r'7 : Sl) w8 =>
  k (emb4 text_0 r'7 (w64 (h_5 + 1)) t9 (w64 (t10 + 1))) w8))
  else (
  bif b4 == 68 then (
  bif decide ((w64 (h_5 - 1)) < 0) then (
  Q .ret [(2, Sl.v Sl.nil), (3, .bool false)] w)
  else (
  sem1 .sl PP (Instr.buildSlice T_Sint 1 #[(0, vI (w64 (h_5 - 1)))]) w fun (r'9 : Sl) w10 =>
  sem1 .sl PP (Builtin.append_ #[T_Sint, T_Sint] T_Sint #[Sl.v out_4, Sl.v r'9]) w10 fun (r'11 : Sl) w12 =>
  k (emb4 text_0 r'11 (w64 (h_5 - 1)) t9 (w64 (t10 + 1))) w12))
  else (
  Q .ret [(2, Sl.v Sl.nil), (3, .bool false)] w)))
  else (
  Q (.exit 0) (x0 text_0 out_4 h_5) w)) := B4_eq std text_0 out_4 h_5 t9 t10 w k Q
theorem L4_rule (text_0 : ByteArray) (out_4 : Sl) (h_5 : Int) (t9 : Int) (t10 : Int) (w : World) (Q : Exit → Env → World → Prop) (I : Sl → Int → Int → World → Prop) (μ : Sl → Int → Int → World → Nat) (h0 : I out_4 h_5 t10 w)
    (h : ∀ (out_4 : Sl) (h_5 : Int) (t10 : Int) (w' : World), I out_4 h_5 t10 w' → B4 std text_0 out_4 h_5 t9 t10 w' (fun e2 w2 => ∃ out_4_n h_5_n t10_n, e2 = emb4 text_0 out_4_n h_5_n t9 t10_n ∧ I out_4_n h_5_n t10_n w2 ∧ μ out_4_n h_5_n t10_n w2 < μ out_4 h_5 t10 w') Q) :
    L4 std text_0 out_4 h_5 t9 t10 w Q := by
  unfold L4
  refine LoopE.intro (σ := Sl × Int × Int) (step := S4 std Q) (fun s => emb4 text_0 s.1 s.2.1 t9 s.2.2) (fun s w => I s.1 s.2.1 s.2.2 w) (fun s w => μ s.1 s.2.1 s.2.2 w) (out_4, h_5, t10) rfl h0 ?_
  intro s w' hI
  have h1 := h s.1 s.2.1 s.2.2 w' hI
  unfold B4 at h1
  simp only [Prod.exists]
  exact h1
theorem A4_0_eq (pr : Prims) (text_0 : ByteArray) (out_4 : Sl) (h_5 : Int) (w : World) (R : Ending → World → Prop) : (q3 pr R) (.exit 0) (x0 text_0 out_4 h_5) w = (
  bif h_5 == 0 then (
  R (.returned (.tuple #[Sl.v out_4, .bool (decide ((text_0.size : Int) ≤ 16))])) w)
  else (
  R (.returned (.tuple #[Sl.v out_4, .bool false])) w)) := by kernel_rfl
theorem A4_0_s (text_0 : ByteArray) (out_4 : Sl) (h_5 : Int) (w : World) (R : Ending → World → Prop) : (q3 std R) (.exit 0) (x0 text_0 out_4 h_5) w = (
  bif h_5 == 0 then (
  R (.returned (.tuple #[Sl.v out_4, .bool (decide ((text_0.size : Int) ≤ 16))])) w)
  else (
  R (.returned (.tuple #[Sl.v out_4, .bool false])) w)) := A4_0_eq std text_0 out_4 h_5 w R
theorem R4_eq (pr : Prims) (v2 : Value) (v3 : Value) (w : World) (R : Ending → World → Prop) : (q3 pr R) .ret [(2, v2), (3, v3)] w = (
  R (.returned (.tuple #[v2, v3])) w) := by kernel_rfl
theorem R4_s (v2 : Value) (v3 : Value) (w : World) (R : Ending → World → Prop) : (q3 std R) .ret [(2, v2), (3, v3)] w = (
  R (.returned (.tuple #[v2, v3])) w) := R4_eq std v2 v3 w R
theorem E_eq (pr : Prims) (text_0 : ByteArray) (w : World) (R : Ending → World → Prop) : E pr text_0 w R = (
  pr.sem1 .sl PP (Instr.buildSlice T_Sint 0 #[]) w fun (r'0 : Sl) w1 =>
  L4 pr text_0 r'0 0 (text_0.size : Int) 0 w1 (q3 pr R)) := by kernel_rfl
theorem E_s (text_0 : ByteArray) (w : World) (R : Ending → World → Prop) : E std text_0 w R = (
  sem1 .sl PP (Instr.buildSlice T_Sint 0 #[]) w fun (r'0 : Sl) w1 =>
  L4 std text_0 r'0 0 (text_0.size : Int) 0 w1 (q3 std R)) := E_eq std text_0 w R
theorem drawsOk : drawsOk PP cfg okD (codeOf Try.f24) = true := by kernel_rfl
theorem calls (text_0 : ByteArray) {w : World} {R : Ending → World → Prop} (h : E std text_0 w R) : Calls PP F.impl_heights #[.string text_0] w R :=
  calls_of noCount mixed drawOk Try.func24 rfl (c := cfg) (args := [.string text_0]) rfl (Nat.le_of_ble_eq_true (by kernel_rfl)) drawsOk h
end impl_heights

namespace impl_IsPath
@[reducible] def cfg : Cfg := ⟨11, [], [], [], [2], [], [], [21, 26, 27]⟩
def E (pr : Prims) (text_0 : ByteArray) (w : World) (R : Ending → World → Prop) : Prop :=
  wpC pr PP cfg (DD pr) (codeOf Try.f16) (retQ Try.f16.results.toList R) (argE 0 [.string text_0]) w
theorem E_eq (pr : Prims) (text_0 : ByteArray) (w : World) (R : Ending → World → Prop) : E pr text_0 w R = (
  pr.call2 .sl .bool PP F.impl_heights #[.string text_0] w fun (r'0 : Sl) (r'1 : Bool) w2 =>
  R (.returned (.bool r'1)) w2) := by kernel_rfl
theorem E_s (text_0 : ByteArray) (w : World) (R : Ending → World → Prop) : E std text_0 w R = (
  call2 .sl .bool PP F.impl_heights #[.string text_0] w fun (r'0 : Sl) (r'1 : Bool) w2 =>
  R (.returned (.bool r'1)) w2) := E_eq std text_0 w R
theorem drawsOk : drawsOk PP cfg okD (codeOf Try.f16) = true := by kernel_rfl
theorem calls (text_0 : ByteArray) {w : World} {R : Ending → World → Prop} (h : E std text_0 w R) : Calls PP F.impl_IsPath #[.string text_0] w R :=
  calls_of noCount mixed drawOk Try.func16 rfl (c := cfg) (args := [.string text_0]) rfl (Nat.le_of_ble_eq_true (by kernel_rfl)) drawsOk h
end impl_IsPath

namespace spec_IsPath
@[reducible] def cfg : Cfg := ⟨40, [(3, [0, 3, 4])], [(1, [0, 3, 4]), (0, [0, 3])], [(8, [0, 3, 4])], [2], [], [], [21, 26, 27]⟩
def q0 (pr : Prims) (R : Ending → World → Prop) : Exit → Env → World → Prop := fun ex e w => normQ ex (fun e w => contE pr cfg (sub (codeOf Try.f15) [1, 1, 1]) (fun e w => wpC pr PP cfg (DD pr) (sub (codeOf Try.f15) [1, 1, 1]) (retQ Try.f15.results.toList R) e w) e w) (retQ Try.f15.results.toList R) e w
def q1 (pr : Prims) (R : Ending → World → Prop) : Exit → Env → World → Prop := fun ex e w => blockQ ex 0 (q0 pr R) e w
def q2 (pr : Prims) (k : Env → World → Prop) (Q : Exit → Env → World → Prop) : Exit → Env → World → Prop := fun ex e w => normQ ex (fun e w => contE pr cfg (sub (codeOf Try.f15) [1, 1, 0, 1, 0, 0, 1, 1]) (fun e w => wpC pr PP cfg (DD pr) (sub (codeOf Try.f15) [1, 1, 0, 1, 0, 0, 1, 1]) (fun ex e w => normQ ex (fun e' w' => k (Env.restr e' (lookN cfg.loops (keyOf (sub (codeOf Try.f15) [1, 1, 0, 1, 0, 0])))) w') Q e w) e w) e w) (fun ex e w => normQ ex (fun e' w' => k (Env.restr e' (lookN cfg.loops (keyOf (sub (codeOf Try.f15) [1, 1, 0, 1, 0, 0])))) w') Q e w) e w
def q3 (pr : Prims) (k : Env → World → Prop) (Q : Exit → Env → World → Prop) : Exit → Env → World → Prop := fun ex e w => blockQ ex 1 (q2 pr k Q) e w
def q4 (pr : Prims) (k : Env → World → Prop) (Q : Exit → Env → World → Prop) : Exit → Env → World → Prop := fun ex e w => normQ ex (fun e w => contE pr cfg (sub (codeOf Try.f15) [1, 1, 0, 1, 0, 0, 1, 0, 0, 1]) (fun e w => wpC pr PP cfg (DD pr) (sub (codeOf Try.f15) [1, 1, 0, 1, 0, 0, 1, 0, 0, 1]) (q3 pr k Q) e w) e w) (q3 pr k Q) e w
def emb3 (text_0 : ByteArray) (h_3 : Int) (k_4 : Int) : Env := [(0, .string text_0), (3, vI h_3), (4, vI k_4)]
def j8 (text_0 : ByteArray) (h_3 : Int) (k_4 : Int) : Env := [(0, .string text_0), (3, vI h_3), (4, vI k_4)]
def x0 (text_0 : ByteArray) (h_3 : Int) : Env := [(0, .string text_0), (3, vI h_3)]
def S3 (pr : Prims) (Q : Exit → Env → World → Prop) : (Env → World → Prop) → Env → World → Prop := fun k e w => wpC pr PP cfg (DD pr) (sub (codeOf Try.f15) [1, 1, 0, 1, 0, 0]) (fun ex e w => normQ ex (fun e' w' => k (Env.restr e' (lookN cfg.loops (keyOf (sub (codeOf Try.f15) [1, 1, 0, 1, 0, 0])))) w') Q e w) e w
def J8 (pr : Prims) (text_0 : ByteArray) (h_3 : Int) (k_4 : Int) (w : World) (k : Env → World → Prop) (Q : Exit → Env → World → Prop) : Prop :=
  pr.seg (fun e w => wpC pr PP cfg (DD pr) (sub (codeOf Try.f15) [1, 1, 0, 1, 0, 0, 1, 0, 0, 1]) (q3 pr k Q) e w) (j8 text_0 h_3 k_4) w
def B3 (pr : Prims) (text_0 : ByteArray) (h_3 : Int) (k_4 : Int) (w : World) (k : Env → World → Prop) (Q : Exit → Env → World → Prop) : Prop :=
  S3 pr Q k (emb3 text_0 h_3 k_4) w
def L3 (pr : Prims) (text_0 : ByteArray) (h_3 : Int) (k_4 : Int) (w : World) (Q : Exit → Env → World → Prop) : Prop :=
  pr.loop (S3 pr Q) (emb3 text_0 h_3 k_4) w
def E (pr : Prims) (text_0 : ByteArray) (w : World) (R : Ending → World → Prop) : Prop :=
  wpC pr PP cfg (DD pr) (codeOf Try.f15) (retQ Try.f15.results.toList R) (argE 0 [.string text_0]) w
theorem J8_gen (pr : Prims) (text_0 : ByteArray) (h_3 : Int) (k_4 : Int) (w : World) (k : Env → World → Prop) (Q : Exit → Env → World → Prop) : wpC pr PP cfg (DD pr) (sub (codeOf Try.f15) [1, 1, 0, 1, 0, 0, 1, 0, 0, 1]) (q3 pr k Q) (j8 text_0 h_3 k_4) w = (
  bif decide (h_3 < 0) then (
  Q .ret [(2, .bool false)] w)
  else (
  pr.strIdxK text_0 k_4 fun (b6 : Int) =>
  bif b6 != 85 then (
  pr.strIdxK text_0 k_4 fun (b7 : Int) =>
  bif b7 != 68 then (
  Q .ret [(2, .bool false)] w)
  else (
  k (emb3 text_0 h_3 (w64 (k_4 + 1))) w))
  else (
  k (emb3 text_0 h_3 (w64 (k_4 + 1))) w))) := by kernel_rfl
theorem J8_s (text_0 : ByteArray) (h_3 : Int) (k_4 : Int) (w : World) (k : Env → World → Prop) (Q : Exit → Env → World → Prop) : J8 std text_0 h_3 k_4 w k Q = (
  bif decide (h_3 < 0) then (
  Q .ret [(2, .bool false)] w)
  else (
  strIdxK text_0 k_4 fun (b6 : Int) =>
  bif b6 != 85 then (
  strIdxK text_0 k_4 fun (b7 : Int) =>
  bif b7 != 68 then (
  Q .ret [(2, .bool false)] w)
  else (
  k (emb3 text_0 h_3 (w64 (k_4 + 1))) w))
  else (
  k (emb3 text_0 h_3 (w64 (k_4 + 1))) w))) := J8_gen std text_0 h_3 k_4 w k Q
theorem B3_eq (pr : Prims) (text_0 : ByteArray) (h_3 : Int) (k_4 : Int) (w : World) (k : Env → World → Prop) (Q : Exit → Env → World → Prop) : B3 pr text_0 h_3 k_4 w k Q = (
  bif decide (k_4 < (text_0.size : Int)) then (
  pr.strIdxK text_0 k_4 fun (b5 : Int) =>
  bif b5 == 85 then (
  J8 pr text_0 (w64 (h_3 + 1)) k_4 w k Q)
  else (
  J8 pr text_0 (w64 (h_3 - 1)) k_4 w k Q))
  else (
  Q (.exit 0) (x0 text_0 h_3) w)) := by kernel_rfl
theorem B3_s (text_0 : ByteArray) (h_3 : Int) (k_4 : Int) (w : World) (k : Env → World → Prop) (Q : Exit → Env → World → Prop) : B3 std text_0 h_3 k_4 w k Q = (
  bif decide (k_4 < (text_0.size : Int)) then (
  strIdxK text_0 k_4 fun (b5 : Int) =>
  bif b5 == 85 then (
  J8 std text_0 (w64 (h_3 + 1)) k_4 w k Q)
  else (
  J8 std text_0 (w64 (h_3 - 1)) k_4 w k Q))
  else (
  Q (.exit 0) (x0 text_0 h_3) w)) := B3_eq std text_0 h_3 k_4 w k Q
theorem L3_rule (text_0 : ByteArray) (h_3 : Int) (k_4 : Int) (w : World) (Q : Exit → Env → World → Prop) (I : Int → Int → World → Prop) (μ : Int → Int → World → Nat) (h0 : I h_3 k_4 w)
    (h : ∀ (h_3 : Int) (k_4 : Int) (w' : World), I h_3 k_4 w' → B3 std text_0 h_3 k_4 w' (fun e2 w2 => ∃ h_3_n k_4_n, e2 = emb3 text_0 h_3_n k_4_n ∧ I h_3_n k_4_n w2 ∧ μ h_3_n k_4_n w2 < μ h_3 k_4 w') Q) :
    L3 std text_0 h_3 k_4 w Q := by
  unfold L3
  refine LoopE.intro (σ := Int × Int) (step := S3 std Q) (fun s => emb3 text_0 s.1 s.2) (fun s w => I s.1 s.2 w) (fun s w => μ s.1 s.2 w) (h_3, k_4) rfl h0 ?_
  intro s w' hI
  have h1 := h s.1 s.2 w' hI
  unfold B3 at h1
  simp only [Prod.exists]
  exact h1
theorem A3_0_eq (pr : Prims) (text_0 : ByteArray) (h_3 : Int) (w : World) (R : Ending → World → Prop) : (q1 pr R) (.exit 0) (x0 text_0 h_3) w = (
  bif h_3 == 0 then (
  R (.returned (.bool (decide ((text_0.size : Int) ≤ 16)))) w)
  else (
  R (.returned (.bool false)) w)) := by kernel_rfl
theorem A3_0_s (text_0 : ByteArray) (h_3 : Int) (w : World) (R : Ending → World → Prop) : (q1 std R) (.exit 0) (x0 text_0 h_3) w = (
  bif h_3 == 0 then (
  R (.returned (.bool (decide ((text_0.size : Int) ≤ 16)))) w)
  else (
  R (.returned (.bool false)) w)) := A3_0_eq std text_0 h_3 w R
theorem R3_eq (pr : Prims) (v2 : Value) (w : World) (R : Ending → World → Prop) : (q1 pr R) .ret [(2, v2)] w = (
  R (.returned (v2)) w) := by kernel_rfl
theorem R3_s (v2 : Value) (w : World) (R : Ending → World → Prop) : (q1 std R) .ret [(2, v2)] w = (
  R (.returned (v2)) w) := R3_eq std v2 w R
theorem E_eq (pr : Prims) (text_0 : ByteArray) (w : World) (R : Ending → World → Prop) : E pr text_0 w R = (
  L3 pr text_0 0 0 w (q1 pr R)) := by kernel_rfl
theorem E_s (text_0 : ByteArray) (w : World) (R : Ending → World → Prop) : E std text_0 w R = (
  L3 std text_0 0 0 w (q1 std R)) := E_eq std text_0 w R
theorem drawsOk : drawsOk PP cfg okD (codeOf Try.f15) = true := by kernel_rfl
theorem calls (text_0 : ByteArray) {w : World} {R : Ending → World → Prop} (h : E std text_0 w R) : Calls PP F.spec_IsPath #[.string text_0] w R :=
  calls_of noCount mixed drawOk Try.func15 rfl (c := cfg) (args := [.string text_0]) rfl (Nat.le_of_ble_eq_true (by kernel_rfl)) drawsOk h
end spec_IsPath

namespace impl_FibonacciNumber
@[reducible] def cfg : Cfg := ⟨20, [(5, [3, 4, 11, 12])], [(1, [3, 4, 11, 12]), (0, [3])], [], [2], [], [], [21, 26, 27]⟩
def q0 (pr : Prims) (R : Ending → World → Prop) : Exit → Env → World → Prop := fun ex e w => normQ ex (fun e w => contE pr cfg (sub (codeOf Try.f10) [1, 1, 1, 1]) (fun e w => wpC pr PP cfg (DD pr) (sub (codeOf Try.f10) [1, 1, 1, 1]) (retQ Try.f10.results.toList R) e w) e w) (retQ Try.f10.results.toList R) e w
def q1 (pr : Prims) (R : Ending → World → Prop) : Exit → Env → World → Prop := fun ex e w => blockQ ex 0 (q0 pr R) e w
def emb5 (a_3 : Int) (b_4 : Int) (t11 : Int) (t12 : Int) : Env := [(3, vI a_3), (4, vI b_4), (11, vI t11), (12, vI t12)]
def x0 (a_3 : Int) : Env := [(3, vI a_3)]
def S5 (pr : Prims) (Q : Exit → Env → World → Prop) : (Env → World → Prop) → Env → World → Prop := fun k e w => wpC pr PP cfg (DD pr) (sub (codeOf Try.f10) [1, 1, 1, 0, 1, 0, 0]) (fun ex e w => normQ ex (fun e' w' => k (Env.restr e' (lookN cfg.loops (keyOf (sub (codeOf Try.f10) [1, 1, 1, 0, 1, 0, 0])))) w') Q e w) e w
def B5 (pr : Prims) (a_3 : Int) (b_4 : Int) (t11 : Int) (t12 : Int) (w : World) (k : Env → World → Prop) (Q : Exit → Env → World → Prop) : Prop :=
  S5 pr Q k (emb5 a_3 b_4 t11 t12) w
def L5 (pr : Prims) (a_3 : Int) (b_4 : Int) (t11 : Int) (t12 : Int) (w : World) (Q : Exit → Env → World → Prop) : Prop :=
  pr.loop (S5 pr Q) (emb5 a_3 b_4 t11 t12) w
def E (pr : Prims) (n_0 : Int) (w : World) (R : Ending → World → Prop) : Prop :=
  wpC pr PP cfg (DD pr) (codeOf Try.f10) (retQ Try.f10.results.toList R) (argE 0 [vI n_0]) w
theorem B5_eq (pr : Prims) (a_3 : Int) (b_4 : Int) (t11 : Int) (t12 : Int) (w : World) (k : Env → World → Prop) (Q : Exit → Env → World → Prop) : B5 pr a_3 b_4 t11 t12 w k Q = (
  bif decide (t12 < t11) then (
  k (emb5 b_4 (w64 (a_3 + b_4)) t11 (w64 (t12 + 1))) w)
  else (
  Q (.exit 0) (x0 a_3) w)) := by kernel_rfl
theorem B5_s (a_3 : Int) (b_4 : Int) (t11 : Int) (t12 : Int) (w : World) (k : Env → World → Prop) (Q : Exit → Env → World → Prop) : B5 std a_3 b_4 t11 t12 w k Q = (
  bif decide (t12 < t11) then (
  k (emb5 b_4 (w64 (a_3 + b_4)) t11 (w64 (t12 + 1))) w)
  else (
  Q (.exit 0) (x0 a_3) w)) := B5_eq std a_3 b_4 t11 t12 w k Q
theorem L5_rule (a_3 : Int) (b_4 : Int) (t11 : Int) (t12 : Int) (w : World) (Q : Exit → Env → World → Prop) (I : Int → Int → Int → World → Prop) (μ : Int → Int → Int → World → Nat) (h0 : I a_3 b_4 t12 w)
    (h : ∀ (a_3 : Int) (b_4 : Int) (t12 : Int) (w' : World), I a_3 b_4 t12 w' → B5 std a_3 b_4 t11 t12 w' (fun e2 w2 => ∃ a_3_n b_4_n t12_n, e2 = emb5 a_3_n b_4_n t11 t12_n ∧ I a_3_n b_4_n t12_n w2 ∧ μ a_3_n b_4_n t12_n w2 < μ a_3 b_4 t12 w') Q) :
    L5 std a_3 b_4 t11 t12 w Q := by
  unfold L5
  refine LoopE.intro (σ := Int × Int × Int) (step := S5 std Q) (fun s => emb5 s.1 s.2.1 t11 s.2.2) (fun s w => I s.1 s.2.1 s.2.2 w) (fun s w => μ s.1 s.2.1 s.2.2 w) (a_3, b_4, t12) rfl h0 ?_
  intro s w' hI
  have h1 := h s.1 s.2.1 s.2.2 w' hI
  unfold B5 at h1
  simp only [Prod.exists]
  exact h1
theorem A5_0_eq (pr : Prims) (a_3 : Int) (w : World) (R : Ending → World → Prop) : (q1 pr R) (.exit 0) (x0 a_3) w = (
  R (.returned (vI a_3)) w) := by kernel_rfl
theorem A5_0_s (a_3 : Int) (w : World) (R : Ending → World → Prop) : (q1 std R) (.exit 0) (x0 a_3) w = (
  R (.returned (vI a_3)) w) := A5_0_eq std a_3 w R
theorem E_eq (pr : Prims) (n_0 : Int) (w : World) (R : Ending → World → Prop) : E pr n_0 w R = (
  bif decide (n_0 < 0) then (
  R (.returned (vI (-1))) w)
  else (
  bif decide (n_0 > 40) then (
  R (.returned (vI (-1))) w)
  else (
  L5 pr 1 1 n_0 0 w (q1 pr R)))) := by kernel_rfl
theorem E_s (n_0 : Int) (w : World) (R : Ending → World → Prop) : E std n_0 w R = (
  bif decide (n_0 < 0) then (
  R (.returned (vI (-1))) w)
  else (
  bif decide (n_0 > 40) then (
  R (.returned (vI (-1))) w)
  else (
  L5 std 1 1 n_0 0 w (q1 std R)))) := E_eq std n_0 w R
theorem drawsOk : drawsOk PP cfg okD (codeOf Try.f10) = true := by kernel_rfl
theorem calls (n_0 : Int) {w : World} {R : Ending → World → Prop} (h : E std n_0 w R) : Calls PP F.impl_FibonacciNumber #[vI n_0] w R :=
  calls_of noCount mixed drawOk Try.func10 rfl (c := cfg) (args := [vI n_0]) rfl (Nat.le_of_ble_eq_true (by kernel_rfl)) drawsOk h
end impl_FibonacciNumber

namespace spec_FibonacciNumber
@[reducible] def cfg : Cfg := ⟨21, [(6, [0, 3, 4, 5])], [(1, [0, 3, 4, 5]), (0, [4])], [], [2], [], [], [21, 26, 27]⟩
def q1 (pr : Prims) (R : Ending → World → Prop) : Exit → Env → World → Prop := fun ex e w => normQ ex (fun e w => contE pr cfg (sub (codeOf Try.f9) [1, 1, 1, 1, 1]) (fun e w => wpC pr PP cfg (DD pr) (sub (codeOf Try.f9) [1, 1, 1, 1, 1]) (retQ Try.f9.results.toList R) e w) e w) (retQ Try.f9.results.toList R) e w
def q2 (pr : Prims) (R : Ending → World → Prop) : Exit → Env → World → Prop := fun ex e w => blockQ ex 0 (q1 pr R) e w
def emb6 (n_0 : Int) (a_3 : Int) (b_4 : Int) (k_5 : Int) : Env := [(0, vI n_0), (3, vI a_3), (4, vI b_4), (5, vI k_5)]
def x0 (b_4 : Int) : Env := [(4, vI b_4)]
def S6 (pr : Prims) (Q : Exit → Env → World → Prop) : (Env → World → Prop) → Env → World → Prop := fun k e w => wpC pr PP cfg (DD pr) (sub (codeOf Try.f9) [1, 1, 1, 1, 0, 1, 0, 0]) (fun ex e w => normQ ex (fun e' w' => k (Env.restr e' (lookN cfg.loops (keyOf (sub (codeOf Try.f9) [1, 1, 1, 1, 0, 1, 0, 0])))) w') Q e w) e w
def B6 (pr : Prims) (n_0 : Int) (a_3 : Int) (b_4 : Int) (k_5 : Int) (w : World) (k : Env → World → Prop) (Q : Exit → Env → World → Prop) : Prop :=
  S6 pr Q k (emb6 n_0 a_3 b_4 k_5) w
def L6 (pr : Prims) (n_0 : Int) (a_3 : Int) (b_4 : Int) (k_5 : Int) (w : World) (Q : Exit → Env → World → Prop) : Prop :=
  pr.loop (S6 pr Q) (emb6 n_0 a_3 b_4 k_5) w
def E (pr : Prims) (n_0 : Int) (w : World) (R : Ending → World → Prop) : Prop :=
  wpC pr PP cfg (DD pr) (codeOf Try.f9) (retQ Try.f9.results.toList R) (argE 0 [vI n_0]) w
theorem B6_eq (pr : Prims) (n_0 : Int) (a_3 : Int) (b_4 : Int) (k_5 : Int) (w : World) (k : Env → World → Prop) (Q : Exit → Env → World → Prop) : B6 pr n_0 a_3 b_4 k_5 w k Q = (
  bif decide (k_5 < n_0) then (
  k (emb6 n_0 b_4 (w64 (a_3 + b_4)) (w64 (k_5 + 1))) w)
  else (
  Q (.exit 0) (x0 b_4) w)) := by kernel_rfl
theorem B6_s (n_0 : Int) (a_3 : Int) (b_4 : Int) (k_5 : Int) (w : World) (k : Env → World → Prop) (Q : Exit → Env → World → Prop) : B6 std n_0 a_3 b_4 k_5 w k Q = (
  bif decide (k_5 < n_0) then (
  k (emb6 n_0 b_4 (w64 (a_3 + b_4)) (w64 (k_5 + 1))) w)
  else (
  Q (.exit 0) (x0 b_4) w)) := B6_eq std n_0 a_3 b_4 k_5 w k Q
theorem L6_rule (n_0 : Int) (a_3 : Int) (b_4 : Int) (k_5 : Int) (w : World) (Q : Exit → Env → World → Prop) (I : Int → Int → Int → World → Prop) (μ : Int → Int → Int → World → Nat) (h0 : I a_3 b_4 k_5 w)
    (h : ∀ (a_3 : Int) (b_4 : Int) (k_5 : Int) (w' : World), I a_3 b_4 k_5 w' → B6 std n_0 a_3 b_4 k_5 w' (fun e2 w2 => ∃ a_3_n b_4_n k_5_n, e2 = emb6 n_0 a_3_n b_4_n k_5_n ∧ I a_3_n b_4_n k_5_n w2 ∧ μ a_3_n b_4_n k_5_n w2 < μ a_3 b_4 k_5 w') Q) :
    L6 std n_0 a_3 b_4 k_5 w Q := by
  unfold L6
  refine LoopE.intro (σ := Int × Int × Int) (step := S6 std Q) (fun s => emb6 n_0 s.1 s.2.1 s.2.2) (fun s w => I s.1 s.2.1 s.2.2 w) (fun s w => μ s.1 s.2.1 s.2.2 w) (a_3, b_4, k_5) rfl h0 ?_
  intro s w' hI
  have h1 := h s.1 s.2.1 s.2.2 w' hI
  unfold B6 at h1
  simp only [Prod.exists]
  exact h1
theorem A6_0_eq (pr : Prims) (b_4 : Int) (w : World) (R : Ending → World → Prop) : (q2 pr R) (.exit 0) (x0 b_4) w = (
  R (.returned (vI b_4)) w) := by kernel_rfl
theorem A6_0_s (b_4 : Int) (w : World) (R : Ending → World → Prop) : (q2 std R) (.exit 0) (x0 b_4) w = (
  R (.returned (vI b_4)) w) := A6_0_eq std b_4 w R
theorem E_eq (pr : Prims) (n_0 : Int) (w : World) (R : Ending → World → Prop) : E pr n_0 w R = (
  pr.pcall1 .bool PP F.spec_l1In #[vI n_0, vI 0, vI 40] fun (r'0 : Bool) =>
  bif !r'0 then (
  R (.returned (vI (-1))) w)
  else (
  L6 pr n_0 1 1 1 w (q2 pr R))) := by kernel_rfl
theorem E_s (n_0 : Int) (w : World) (R : Ending → World → Prop) : E std n_0 w R = (
  pcall1 .bool PP F.spec_l1In #[vI n_0, vI 0, vI 40] fun (r'0 : Bool) =>
  bif !r'0 then (
  R (.returned (vI (-1))) w)
  else (
  L6 std n_0 1 1 1 w (q2 std R))) := E_eq std n_0 w R
theorem drawsOk : drawsOk PP cfg okD (codeOf Try.f9) = true := by kernel_rfl
theorem calls (n_0 : Int) {w : World} {R : Ending → World → Prop} (h : E std n_0 w R) : Calls PP F.spec_FibonacciNumber #[vI n_0] w R :=
  calls_of noCount mixed drawOk Try.func9 rfl (c := cfg) (args := [vI n_0]) rfl (Nat.le_of_ble_eq_true (by kernel_rfl)) drawsOk h
end spec_FibonacciNumber

namespace spec_SchroederNumber
@[reducible] def cfg : Cfg := ⟨48, [(9, [0, 3, 4, 5, 6]), (5, [0, 3, 4])], [(3, [0, 3, 4, 5, 6]), (2, [0, 3, 4, 5]), (1, [0, 3, 4]), (0, [0, 3])], [], [2], [11], [], [21, 26, 27]⟩
def q3 (pr : Prims) (R : Ending → World → Prop) : Exit → Env → World → Prop := fun ex e w => normQ ex (fun e w => contE pr cfg (sub (codeOf Try.f11) [1, 1, 1, 1]) (fun e w => wpC pr PP cfg (DD pr) (sub (codeOf Try.f11) [1, 1, 1, 1]) (retQ Try.f11.results.toList R) e w) e w) (retQ Try.f11.results.toList R) e w
def q4 (pr : Prims) (R : Ending → World → Prop) : Exit → Env → World → Prop := fun ex e w => blockQ ex 0 (q3 pr R) e w
def q5 (pr : Prims) (k : Env → World → Prop) (Q : Exit → Env → World → Prop) : Exit → Env → World → Prop := fun ex e w => normQ ex (fun e w => contE pr cfg (sub (codeOf Try.f11) [1, 1, 1, 0, 1, 0, 0, 1, 1]) (fun e w => wpC pr PP cfg (DD pr) (sub (codeOf Try.f11) [1, 1, 1, 0, 1, 0, 0, 1, 1]) (fun ex e w => normQ ex (fun e' w' => k (Env.restr e' (lookN cfg.loops (keyOf (sub (codeOf Try.f11) [1, 1, 1, 0, 1, 0, 0])))) w') Q e w) e w) e w) (fun ex e w => normQ ex (fun e' w' => k (Env.restr e' (lookN cfg.loops (keyOf (sub (codeOf Try.f11) [1, 1, 1, 0, 1, 0, 0])))) w') Q e w) e w
def q6 (pr : Prims) (k : Env → World → Prop) (Q : Exit → Env → World → Prop) : Exit → Env → World → Prop := fun ex e w => blockQ ex 1 (q5 pr k Q) e w
def q9 (pr : Prims) (k : Env → World → Prop) (Q : Exit → Env → World → Prop) : Exit → Env → World → Prop := fun ex e w => normQ ex (fun e w => contE pr cfg (sub (codeOf Try.f11) [1, 1, 1, 0, 1, 0, 0, 1, 0, 0, 1, 1]) (fun e w => wpC pr PP cfg (DD pr) (sub (codeOf Try.f11) [1, 1, 1, 0, 1, 0, 0, 1, 0, 0, 1, 1]) (q6 pr k Q) e w) e w) (q6 pr k Q) e w
def q10 (pr : Prims) (k : Env → World → Prop) (Q : Exit → Env → World → Prop) : Exit → Env → World → Prop := fun ex e w => blockQ ex 2 (q9 pr k Q) e w
def emb5 (n_0 : Int) (s_3 : Sl) (m_4 : Int) : Env := [(0, vI n_0), (3, Sl.v s_3), (4, vI m_4)]
def emb9 (n_0 : Int) (s_3 : Sl) (m_4 : Int) (sum_5 : Int) (k_6 : Int) : Env := [(0, vI n_0), (3, Sl.v s_3), (4, vI m_4), (5, vI sum_5), (6, vI k_6)]
def x2 (n_0 : Int) (s_3 : Sl) (m_4 : Int) (sum_5 : Int) : Env := [(0, vI n_0), (3, Sl.v s_3), (4, vI m_4), (5, vI sum_5)]
def x0 (n_0 : Int) (s_3 : Sl) : Env := [(0, vI n_0), (3, Sl.v s_3)]
def S9 (pr : Prims) (Q : Exit → Env → World → Prop) : (Env → World → Prop) → Env → World → Prop := fun k e w => wpC pr PP cfg (DD pr) (sub (codeOf Try.f11) [1, 1, 1, 0, 1, 0, 0, 1, 0, 0, 1, 0, 1, 0, 0]) (fun ex e w => normQ ex (fun e' w' => k (Env.restr e' (lookN cfg.loops (keyOf (sub (codeOf Try.f11) [1, 1, 1, 0, 1, 0, 0, 1, 0, 0, 1, 0, 1, 0, 0])))) w') Q e w) e w
def S5 (pr : Prims) (Q : Exit → Env → World → Prop) : (Env → World → Prop) → Env → World → Prop := fun k e w => wpC pr PP cfg (DD pr) (sub (codeOf Try.f11) [1, 1, 1, 0, 1, 0, 0]) (fun ex e w => normQ ex (fun e' w' => k (Env.restr e' (lookN cfg.loops (keyOf (sub (codeOf Try.f11) [1, 1, 1, 0, 1, 0, 0])))) w') Q e w) e w
def B9 (pr : Prims) (n_0 : Int) (s_3 : Sl) (m_4 : Int) (sum_5 : Int) (k_6 : Int) (w : World) (k : Env → World → Prop) (Q : Exit → Env → World → Prop) : Prop :=
  S9 pr Q k (emb9 n_0 s_3 m_4 sum_5 k_6) w
def L9 (pr : Prims) (n_0 : Int) (s_3 : Sl) (m_4 : Int) (sum_5 : Int) (k_6 : Int) (w : World) (Q : Exit → Env → World → Prop) : Prop :=
  pr.loop (S9 pr Q) (emb9 n_0 s_3 m_4 sum_5 k_6) w
def B5 (pr : Prims) (n_0 : Int) (s_3 : Sl) (m_4 : Int) (w : World) (k : Env → World → Prop) (Q : Exit → Env → World → Prop) : Prop :=
  S5 pr Q k (emb5 n_0 s_3 m_4) w
def L5 (pr : Prims) (n_0 : Int) (s_3 : Sl) (m_4 : Int) (w : World) (Q : Exit → Env → World → Prop) : Prop :=
  pr.loop (S5 pr Q) (emb5 n_0 s_3 m_4) w
def E (pr : Prims) (n_0 : Int) (w : World) (R : Ending → World → Prop) : Prop :=
  wpC pr PP cfg (DD pr) (codeOf Try.f11) (retQ Try.f11.results.toList R) (argE 0 [vI n_0]) w
theorem B9_eq (pr : Prims) (n_0 : Int) (s_3 : Sl) (m_4 : Int) (sum_5 : Int) (k_6 : Int) (w : World) (k : Env → World → Prop) (Q : Exit → Env → World → Prop) : B9 pr n_0 s_3 m_4 sum_5 k_6 w k Q = (
  bif decide (k_6 < m_4) then (
  pr.idxK 1 s_3 k_6 fun (a11 : Addr) =>
  pr.load1 (.int .i64) a11 w fun (x'12 : Int) =>
  pr.idxK 1 s_3 (w64 ((w64 (m_4 - 1)) - k_6)) fun (a13 : Addr) =>
  pr.load1 (.int .i64) a13 w fun (x'14 : Int) =>
  pr.drewAll w fun w15 =>
  k (emb9 n_0 s_3 m_4 (w64 (sum_5 + (w64 (x'12 * x'14)))) (w64 (k_6 + 1))) w15)
  else (
  Q (.exit 2) (x2 n_0 s_3 m_4 sum_5) w)) := by kernel_rfl
theorem B9_s (n_0 : Int) (s_3 : Sl) (m_4 : Int) (sum_5 : Int) (k_6 : Int) (w : World) (k : Env → World → Prop) (Q : Exit → Env → World → Prop) : B9 std n_0 s_3 m_4 sum_5 k_6 w k Q = (
  bif decide (k_6 < m_4) then (
  idxK 1 s_3 k_6 fun (a11 : Addr) =>
  load1 (.int .i64) a11 w fun (x'12 : Int) =>
  idxK 1 s_3 (w64 ((w64 (m_4 - 1)) - k_6)) fun (a13 : Addr) =>
  load1 (.int .i64) a13 w fun (x'14 : Int) =>
  drewAll w fun w15 =>
  k (emb9 n_0 s_3 m_4 (w64 (sum_5 + (w64 (x'12 * x'14)))) (w64 (k_6 + 1))) w15)
  else (
  Q (.exit 2) (x2 n_0 s_3 m_4 sum_5) w)) := B9_eq std n_0 s_3 m_4 sum_5 k_6 w k Q
theorem L9_rule (n_0 : Int) (s_3 : Sl) (m_4 : Int) (sum_5 : Int) (k_6 : Int) (w : World) (Q : Exit → Env → World → Prop) (I : Int → Int → World → Prop) (μ : Int → Int → World → Nat) (h0 : I sum_5 k_6 w)
    (h : ∀ (sum_5 : Int) (k_6 : Int) (w' : World), I sum_5 k_6 w' → B9 std n_0 s_3 m_4 sum_5 k_6 w' (fun e2 w2 => ∃ sum_5_n k_6_n, e2 = emb9 n_0 s_3 m_4 sum_5_n k_6_n ∧ I sum_5_n k_6_n w2 ∧ μ sum_5_n k_6_n w2 < μ sum_5 k_6 w') Q) :
    L9 std n_0 s_3 m_4 sum_5 k_6 w Q := by
  unfold L9
  refine LoopE.intro (σ := Int × Int) (step := S9 std Q) (fun s => emb9 n_0 s_3 m_4 s.1 s.2) (fun s w => I s.1 s.2 w) (fun s w => μ s.1 s.2 w) (sum_5, k_6) rfl h0 ?_
  intro s w' hI
  have h1 := h s.1 s.2 w' hI
  unfold B9 at h1
  simp only [Prod.exists]
  exact h1
theorem A9_2_eq (pr : Prims) (n_0 : Int) (s_3 : Sl) (m_4 : Int) (sum_5 : Int) (w : World) (k : Env → World → Prop) (Q : Exit → Env → World → Prop) : (q10 pr k Q) (.exit 2) (x2 n_0 s_3 m_4 sum_5) w = (
  pr.sem1 .sl PP (Instr.buildSlice T_Sint 1 #[(0, vI sum_5)]) w fun (r'16 : Sl) w17 =>
  pr.sem1 .sl PP (Builtin.append_ #[T_Sint, T_Sint] T_Sint #[Sl.v s_3, Sl.v r'16]) w17 fun (r'18 : Sl) w19 =>
  k (emb5 n_0 r'18 (w64 (m_4 + 1))) w19) := by kernel_rfl
theorem A9_2_s (n_0 : Int) (s_3 : Sl) (m_4 : Int) (sum_5 : Int) (w : World) (k : Env → World → Prop) (Q : Exit → Env → World → Prop) : (q10 std k Q) (.exit 2) (x2 n_0 s_3 m_4 sum_5) w = (
  sem1 .sl PP (Instr.buildSlice T_Sint 1 #[(0, vI sum_5)]) w fun (r'16 : Sl) w17 =>
  sem1 .sl PP (Builtin.append_ #[T_Sint, T_Sint] T_Sint #[Sl.v s_3, Sl.v r'16]) w17 fun (r'18 : Sl) w19 =>
  k (emb5 n_0 r'18 (w64 (m_4 + 1))) w19) := A9_2_eq std n_0 s_3 m_4 sum_5 w k Q
theorem B5_eq (pr : Prims) (n_0 : Int) (s_3 : Sl) (m_4 : Int) (w : World) (k : Env → World → Prop) (Q : Exit → Env → World → Prop) : B5 pr n_0 s_3 m_4 w k Q = (
  bif decide (m_4 ≤ n_0) then (
  pr.idxK 1 s_3 (w64 (m_4 - 1)) fun (a7 : Addr) =>
  pr.load1 (.int .i64) a7 w fun (x'8 : Int) =>
  L9 pr n_0 s_3 m_4 x'8 0 w (q10 pr k Q))
  else (
  Q (.exit 0) (x0 n_0 s_3) w)) := by kernel_rfl
theorem B5_s (n_0 : Int) (s_3 : Sl) (m_4 : Int) (w : World) (k : Env → World → Prop) (Q : Exit → Env → World → Prop) : B5 std n_0 s_3 m_4 w k Q = (
  bif decide (m_4 ≤ n_0) then (
  idxK 1 s_3 (w64 (m_4 - 1)) fun (a7 : Addr) =>
  load1 (.int .i64) a7 w fun (x'8 : Int) =>
  L9 std n_0 s_3 m_4 x'8 0 w (q10 std k Q))
  else (
  Q (.exit 0) (x0 n_0 s_3) w)) := B5_eq std n_0 s_3 m_4 w k Q
theorem L5_rule (n_0 : Int) (s_3 : Sl) (m_4 : Int) (w : World) (Q : Exit → Env → World → Prop) (I : Sl → Int → World → Prop) (μ : Sl → Int → World → Nat) (h0 : I s_3 m_4 w)
    (h : ∀ (s_3 : Sl) (m_4 : Int) (w' : World), I s_3 m_4 w' → B5 std n_0 s_3 m_4 w' (fun e2 w2 => ∃ s_3_n m_4_n, e2 = emb5 n_0 s_3_n m_4_n ∧ I s_3_n m_4_n w2 ∧ μ s_3_n m_4_n w2 < μ s_3 m_4 w') Q) :
    L5 std n_0 s_3 m_4 w Q := by
  unfold L5
  refine LoopE.intro (σ := Sl × Int) (step := S5 std Q) (fun s => emb5 n_0 s.1 s.2) (fun s w => I s.1 s.2 w) (fun s w => μ s.1 s.2 w) (s_3, m_4) rfl h0 ?_
  intro s w' hI
  have h1 := h s.1 s.2 w' hI
  unfold B5 at h1
  simp only [Prod.exists]
  exact h1
theorem A5_0_eq (pr : Prims) (n_0 : Int) (s_3 : Sl) (w : World) (R : Ending → World → Prop) : (q4 pr R) (.exit 0) (x0 n_0 s_3) w = (
  pr.idxK 1 s_3 n_0 fun (a20 : Addr) =>
  pr.load1 (.int .i64) a20 w fun (x'21 : Int) =>
  R (.returned (vI x'21)) w) := by kernel_rfl
theorem A5_0_s (n_0 : Int) (s_3 : Sl) (w : World) (R : Ending → World → Prop) : (q4 std R) (.exit 0) (x0 n_0 s_3) w = (
  idxK 1 s_3 n_0 fun (a20 : Addr) =>
  load1 (.int .i64) a20 w fun (x'21 : Int) =>
  R (.returned (vI x'21)) w) := A5_0_eq std n_0 s_3 w R
theorem E_eq (pr : Prims) (n_0 : Int) (w : World) (R : Ending → World → Prop) : E pr n_0 w R = (
  pr.pcall1 .bool PP F.spec_l1In #[vI n_0, vI 0, vI 15] fun (r'0 : Bool) =>
  bif !r'0 then (
  R (.returned (vI (-1))) w)
  else (
  pr.sem1 .sl PP (Instr.buildSlice T_Sint 1 #[(0, vI 1)]) w fun (r'1 : Sl) w2 =>
  L5 pr n_0 r'1 1 w2 (q4 pr R))) := by kernel_rfl
theorem E_s (n_0 : Int) (w : World) (R : Ending → World → Prop) : E std n_0 w R = (
  pcall1 .bool PP F.spec_l1In #[vI n_0, vI 0, vI 15] fun (r'0 : Bool) =>
  bif !r'0 then (
  R (.returned (vI (-1))) w)
  else (
  sem1 .sl PP (Instr.buildSlice T_Sint 1 #[(0, vI 1)]) w fun (r'1 : Sl) w2 =>
  L5 std n_0 r'1 1 w2 (q4 std R))) := E_eq std n_0 w R
theorem drawsOk : drawsOk PP cfg okD (codeOf Try.f11) = true := by kernel_rfl
theorem calls (n_0 : Int) {w : World} {R : Ending → World → Prop} (h : E std n_0 w R) : Calls PP F.spec_SchroederNumber #[vI n_0] w R :=
  calls_of noCount mixed drawOk Try.func11 rfl (c := cfg) (args := [vI n_0]) rfl (Nat.le_of_ble_eq_true (by kernel_rfl)) drawsOk h
end spec_SchroederNumber

namespace impl_SchroederNumber
@[reducible] def cfg : Cfg := ⟨51, [(9, [0, 3, 4, 5, 24, 25]), (5, [0, 3, 4])], [(3, [0, 3, 4, 5, 24, 25]), (2, [0, 3, 4, 5]), (1, [0, 3, 4]), (0, [0, 3])], [], [2], [11], [], [21, 26, 27]⟩
def q2 (pr : Prims) (R : Ending → World → Prop) : Exit → Env → World → Prop := fun ex e w => normQ ex (fun e w => contE pr cfg (sub (codeOf Try.f12) [1, 1, 1, 1]) (fun e w => wpC pr PP cfg (DD pr) (sub (codeOf Try.f12) [1, 1, 1, 1]) (retQ Try.f12.results.toList R) e w) e w) (retQ Try.f12.results.toList R) e w
def q3 (pr : Prims) (R : Ending → World → Prop) : Exit → Env → World → Prop := fun ex e w => blockQ ex 0 (q2 pr R) e w
def q4 (pr : Prims) (k : Env → World → Prop) (Q : Exit → Env → World → Prop) : Exit → Env → World → Prop := fun ex e w => normQ ex (fun e w => contE pr cfg (sub (codeOf Try.f12) [1, 1, 1, 0, 1, 0, 0, 1, 1]) (fun e w => wpC pr PP cfg (DD pr) (sub (codeOf Try.f12) [1, 1, 1, 0, 1, 0, 0, 1, 1]) (fun ex e w => normQ ex (fun e' w' => k (Env.restr e' (lookN cfg.loops (keyOf (sub (codeOf Try.f12) [1, 1, 1, 0, 1, 0, 0])))) w') Q e w) e w) e w) (fun ex e w => normQ ex (fun e' w' => k (Env.restr e' (lookN cfg.loops (keyOf (sub (codeOf Try.f12) [1, 1, 1, 0, 1, 0, 0])))) w') Q e w) e w
def q5 (pr : Prims) (k : Env → World → Prop) (Q : Exit → Env → World → Prop) : Exit → Env → World → Prop := fun ex e w => blockQ ex 1 (q4 pr k Q) e w
def q8 (pr : Prims) (k : Env → World → Prop) (Q : Exit → Env → World → Prop) : Exit → Env → World → Prop := fun ex e w => normQ ex (fun e w => contE pr cfg (sub (codeOf Try.f12) [1, 1, 1, 0, 1, 0, 0, 1, 0, 0, 1, 1]) (fun e w => wpC pr PP cfg (DD pr) (sub (codeOf Try.f12) [1, 1, 1, 0, 1, 0, 0, 1, 0, 0, 1, 1]) (q5 pr k Q) e w) e w) (q5 pr k Q) e w
def q9 (pr : Prims) (k : Env → World → Prop) (Q : Exit → Env → World → Prop) : Exit → Env → World → Prop := fun ex e w => blockQ ex 2 (q8 pr k Q) e w
def emb5 (n_0 : Int) (s_3 : Sl) (m_4 : Int) : Env := [(0, vI n_0), (3, Sl.v s_3), (4, vI m_4)]
def emb9 (n_0 : Int) (s_3 : Sl) (m_4 : Int) (x_5 : Int) (t24 : Int) (t25 : Int) : Env := [(0, vI n_0), (3, Sl.v s_3), (4, vI m_4), (5, vI x_5), (24, vI t24), (25, vI t25)]
def x2 (n_0 : Int) (s_3 : Sl) (m_4 : Int) (x_5 : Int) : Env := [(0, vI n_0), (3, Sl.v s_3), (4, vI m_4), (5, vI x_5)]
def x0 (n_0 : Int) (s_3 : Sl) : Env := [(0, vI n_0), (3, Sl.v s_3)]
def S9 (pr : Prims) (Q : Exit → Env → World → Prop) : (Env → World → Prop) → Env → World → Prop := fun k e w => wpC pr PP cfg (DD pr) (sub (codeOf Try.f12) [1, 1, 1, 0, 1, 0, 0, 1, 0, 0, 1, 0, 1, 0, 0]) (fun ex e w => normQ ex (fun e' w' => k (Env.restr e' (lookN cfg.loops (keyOf (sub (codeOf Try.f12) [1, 1, 1, 0, 1, 0, 0, 1, 0, 0, 1, 0, 1, 0, 0])))) w') Q e w) e w
def S5 (pr : Prims) (Q : Exit → Env → World → Prop) : (Env → World → Prop) → Env → World → Prop := fun k e w => wpC pr PP cfg (DD pr) (sub (codeOf Try.f12) [1, 1, 1, 0, 1, 0, 0]) (fun ex e w => normQ ex (fun e' w' => k (Env.restr e' (lookN cfg.loops (keyOf (sub (codeOf Try.f12) [1, 1, 1, 0, 1, 0, 0])))) w') Q e w) e w
def B9 (pr : Prims) (n_0 : Int) (s_3 : Sl) (m_4 : Int) (x_5 : Int) (t24 : Int) (t25 : Int) (w : World) (k : Env → World → Prop) (Q : Exit → Env → World → Prop) : Prop :=
  S9 pr Q k (emb9 n_0 s_3 m_4 x_5 t24 t25) w
def L9 (pr : Prims) (n_0 : Int) (s_3 : Sl) (m_4 : Int) (x_5 : Int) (t24 : Int) (t25 : Int) (w : World) (Q : Exit → Env → World → Prop) : Prop :=
  pr.loop (S9 pr Q) (emb9 n_0 s_3 m_4 x_5 t24 t25) w
def B5 (pr : Prims) (n_0 : Int) (s_3 : Sl) (m_4 : Int) (w : World) (k : Env → World → Prop) (Q : Exit → Env → World → Prop) : Prop :=
  S5 pr Q k (emb5 n_0 s_3 m_4) w
def L5 (pr : Prims) (n_0 : Int) (s_3 : Sl) (m_4 : Int) (w : World) (Q : Exit → Env → World → Prop) : Prop :=
  pr.loop (S5 pr Q) (emb5 n_0 s_3 m_4) w
def E (pr : Prims) (n_0 : Int) (w : World) (R : Ending → World → Prop) : Prop :=
  wpC pr PP cfg (DD pr) (codeOf Try.f12) (retQ Try.f12.results.toList R) (argE 0 [vI n_0]) w
theorem B9_eq (pr : Prims) (n_0 : Int) (s_3 : Sl) (m_4 : Int) (x_5 : Int) (t24 : Int) (t25 : Int) (w : World) (k : Env → World → Prop) (Q : Exit → Env → World → Prop) : B9 pr n_0 s_3 m_4 x_5 t24 t25 w k Q = (
  bif decide (t25 < t24) then (
  pr.idxK 1 s_3 t25 fun (a10 : Addr) =>
  pr.load1 (.int .i64) a10 w fun (x'11 : Int) =>
  pr.idxK 1 s_3 (w64 ((w64 (m_4 - 1)) - t25)) fun (a12 : Addr) =>
  pr.load1 (.int .i64) a12 w fun (x'13 : Int) =>
  pr.drewAll w fun w14 =>
  k (emb9 n_0 s_3 m_4 (w64 (x_5 + (w64 (x'11 * x'13)))) t24 (w64 (t25 + 1))) w14)
  else (
  Q (.exit 2) (x2 n_0 s_3 m_4 x_5) w)) := by kernel_rfl
theorem B9_s (n_0 : Int) (s_3 : Sl) (m_4 : Int) (x_5 : Int) (t24 : Int) (t25 : Int) (w : World) (k : Env → World → Prop) (Q : Exit → Env → World → Prop) : B9 std n_0 s_3 m_4 x_5 t24 t25 w k Q = (
  bif decide (t25 < t24) then (
  idxK 1 s_3 t25 fun (a10 : Addr) =>
  load1 (.int .i64) a10 w fun (x'11 : Int) =>
  idxK 1 s_3 (w64 ((w64 (m_4 - 1)) - t25)) fun (a12 : Addr) =>
  load1 (.int .i64) a12 w fun (x'13 : Int) =>
  drewAll w fun w14 =>
  k (emb9 n_0 s_3 m_4 (w64 (x_5 + (w64 (x'11 * x'13)))) t24 (w64 (t25 + 1))) w14)
  else (
  Q (.exit 2) (x2 n_0 s_3 m_4 x_5) w)) := B9_eq std n_0 s_3 m_4 x_5 t24 t25 w k Q
theorem L9_rule (n_0 : Int) (s_3 : Sl) (m_4 : Int) (x_5 : Int) (t24 : Int) (t25 : Int) (w : World) (Q : Exit → Env → World → Prop) (I : Int → Int → World → Prop) (μ : Int → Int → World → Nat) (h0 : I x_5 t25 w)
    (h : ∀ (x_5 : Int) (t25 : Int) (w' : World), I x_5 t25 w' → B9 std n_0 s_3 m_4 x_5 t24 t25 w' (fun e2 w2 => ∃ x_5_n t25_n, e2 = emb9 n_0 s_3 m_4 x_5_n t24 t25_n ∧ I x_5_n t25_n w2 ∧ μ x_5_n t25_n w2 < μ x_5 t25 w') Q) :
    L9 std n_0 s_3 m_4 x_5 t24 t25 w Q := by
  unfold L9
  refine LoopE.intro (σ := Int × Int) (step := S9 std Q) (fun s => emb9 n_0 s_3 m_4 s.1 t24 s.2) (fun s w => I s.1 s.2 w) (fun s w => μ s.1 s.2 w) (x_5, t25) rfl h0 ?_
  intro s w' hI
  have h1 := h s.1 s.2 w' hI
  unfold B9 at h1
  simp only [Prod.exists]
  exact h1
theorem A9_2_eq (pr : Prims) (n_0 : Int) (s_3 : Sl) (m_4 : Int) (x_5 : Int) (w : World) (k : Env → World → Prop) (Q : Exit → Env → World → Prop) : (q9 pr k Q) (.exit 2) (x2 n_0 s_3 m_4 x_5) w = (
  pr.sem1 .sl PP (Instr.buildSlice T_Sint 1 #[(0, vI x_5)]) w fun (r'15 : Sl) w16 =>
  pr.sem1 .sl PP (Builtin.append_ #[T_Sint, T_Sint] T_Sint #[Sl.v s_3, Sl.v r'15]) w16 fun (r'17 : Sl) w18 =>
  k (emb5 n_0 r'17 (w64 (m_4 + 1))) w18) := by kernel_rfl
theorem A9_2_s (n_0 : Int) (s_3 : Sl) (m_4 : Int) (x_5 : Int) (w : World) (k : Env → World → Prop) (Q : Exit → Env → World → Prop) : (q9 std k Q) (.exit 2) (x2 n_0 s_3 m_4 x_5) w = (
  sem1 .sl PP (Instr.buildSlice T_Sint 1 #[(0, vI x_5)]) w fun (r'15 : Sl) w16 =>
  sem1 .sl PP (Builtin.append_ #[T_Sint, T_Sint] T_Sint #[Sl.v s_3, Sl.v r'15]) w16 fun (r'17 : Sl) w18 =>
  k (emb5 n_0 r'17 (w64 (m_4 + 1))) w18) := A9_2_eq std n_0 s_3 m_4 x_5 w k Q
theorem B5_eq (pr : Prims) (n_0 : Int) (s_3 : Sl) (m_4 : Int) (w : World) (k : Env → World → Prop) (Q : Exit → Env → World → Prop) : B5 pr n_0 s_3 m_4 w k Q = (
  bif decide (m_4 ≤ n_0) then (
  pr.idxK 1 s_3 (w64 (m_4 - 1)) fun (a6 : Addr) =>
  pr.load1 (.int .i64) a6 w fun (x'7 : Int) =>
  L9 pr n_0 s_3 m_4 x'7 m_4 0 w (q9 pr k Q))
  else (
  Q (.exit 0) (x0 n_0 s_3) w)) := by kernel_rfl
theorem B5_s (n_0 : Int) (s_3 : Sl) (m_4 : Int) (w : World) (k : Env → World → Prop) (Q : Exit → Env → World → Prop) : B5 std n_0 s_3 m_4 w k Q = (
  bif decide (m_4 ≤ n_0) then (
  idxK 1 s_3 (w64 (m_4 - 1)) fun (a6 : Addr) =>
  load1 (.int .i64) a6 w fun (x'7 : Int) =>
  L9 std n_0 s_3 m_4 x'7 m_4 0 w (q9 std k Q))
  else (
  Q (.exit 0) (x0 n_0 s_3) w)) := B5_eq std n_0 s_3 m_4 w k Q
theorem L5_rule (n_0 : Int) (s_3 : Sl) (m_4 : Int) (w : World) (Q : Exit → Env → World → Prop) (I : Sl → Int → World → Prop) (μ : Sl → Int → World → Nat) (h0 : I s_3 m_4 w)
    (h : ∀ (s_3 : Sl) (m_4 : Int) (w' : World), I s_3 m_4 w' → B5 std n_0 s_3 m_4 w' (fun e2 w2 => ∃ s_3_n m_4_n, e2 = emb5 n_0 s_3_n m_4_n ∧ I s_3_n m_4_n w2 ∧ μ s_3_n m_4_n w2 < μ s_3 m_4 w') Q) :
    L5 std n_0 s_3 m_4 w Q := by
  unfold L5
  refine LoopE.intro (σ := Sl × Int) (step := S5 std Q) (fun s => emb5 n_0 s.1 s.2) (fun s w => I s.1 s.2 w) (fun s w => μ s.1 s.2 w) (s_3, m_4) rfl h0 ?_
  intro s w' hI
  have h1 := h s.1 s.2 w' hI
  unfold B5 at h1
  simp only [Prod.exists]
  exact h1
theorem A5_0_eq (pr : Prims) (n_0 : Int) (s_3 : Sl) (w : World) (R : Ending → World → Prop) : (q3 pr R) (.exit 0) (x0 n_0 s_3) w = (
  pr.idxK 1 s_3 n_0 fun (a19 : Addr) =>
  pr.load1 (.int .i64) a19 w fun (x'20 : Int) =>
  R (.returned (vI x'20)) w) := by kernel_rfl
theorem A5_0_s (n_0 : Int) (s_3 : Sl) (w : World) (R : Ending → World → Prop) : (q3 std R) (.exit 0) (x0 n_0 s_3) w = (
  idxK 1 s_3 n_0 fun (a19 : Addr) =>
  load1 (.int .i64) a19 w fun (x'20 : Int) =>
  R (.returned (vI x'20)) w) := A5_0_eq std n_0 s_3 w R
theorem E_eq (pr : Prims) (n_0 : Int) (w : World) (R : Ending → World → Prop) : E pr n_0 w R = (
  bif decide (n_0 < 0) then (
  R (.returned (vI (-1))) w)
  else (
  bif decide (n_0 > 15) then (
  R (.returned (vI (-1))) w)
  else (
  pr.sem1 .sl PP (Instr.buildSlice T_Sint 1 #[(0, vI 1)]) w fun (r'0 : Sl) w1 =>
  L5 pr n_0 r'0 1 w1 (q3 pr R)))) := by kernel_rfl
theorem E_s (n_0 : Int) (w : World) (R : Ending → World → Prop) : E std n_0 w R = (
  bif decide (n_0 < 0) then (
  R (.returned (vI (-1))) w)
  else (
  bif decide (n_0 > 15) then (
  R (.returned (vI (-1))) w)
  else (
  sem1 .sl PP (Instr.buildSlice T_Sint 1 #[(0, vI 1)]) w fun (r'0 : Sl) w1 =>
  L5 std n_0 r'0 1 w1 (q3 std R)))) := E_eq std n_0 w R
theorem drawsOk : drawsOk PP cfg okD (codeOf Try.f12) = true := by kernel_rfl
theorem calls (n_0 : Int) {w : World} {R : Ending → World → Prop} (h : E std n_0 w R) : Calls PP F.impl_SchroederNumber #[vI n_0] w R :=
  calls_of noCount mixed drawOk Try.func12 rfl (c := cfg) (args := [vI n_0]) rfl (Nat.le_of_ble_eq_true (by kernel_rfl)) drawsOk h
end impl_SchroederNumber

namespace impl_CatalanNumber
@[reducible] def cfg : Cfg := ⟨16, [], [], [], [2], [], [], [21, 26, 27]⟩
def E (pr : Prims) (n_0 : Int) (w : World) (R : Ending → World → Prop) : Prop :=
  wpC pr PP cfg (DD pr) (codeOf Try.f14) (retQ Try.f14.results.toList R) (argE 0 [vI n_0]) w
theorem E_eq (pr : Prims) (n_0 : Int) (w : World) (R : Ending → World → Prop) : E pr n_0 w R = (
  bif decide (n_0 < 0) then (
  R (.returned (vI (-1))) w)
  else (
  bif decide (n_0 > 20) then (
  R (.returned (vI (-1))) w)
  else (
  pr.call1 (.int .i64) PP F.impl_Choose #[vI (w64 (2 * n_0)), vI n_0] w fun (r'0 : Int) w1 =>
  (w64 (n_0 + 1)) ≠ (0 : Int) ∧
  R (.returned (vI (w64 (r'0.tdiv (w64 (n_0 + 1)))))) w1))) := by kernel_rfl
theorem E_s (n_0 : Int) (w : World) (R : Ending → World → Prop) : E std n_0 w R = (
  bif decide (n_0 < 0) then (
  R (.returned (vI (-1))) w)
  else (
  bif decide (n_0 > 20) then (
  R (.returned (vI (-1))) w)
  else (
  call1 (.int .i64) PP F.impl_Choose #[vI (w64 (2 * n_0)), vI n_0] w fun (r'0 : Int) w1 =>
  (w64 (n_0 + 1)) ≠ (0 : Int) ∧
  R (.returned (vI (w64 (r'0.tdiv (w64 (n_0 + 1)))))) w1))) := E_eq std n_0 w R
theorem drawsOk : drawsOk PP cfg okD (codeOf Try.f14) = true := by kernel_rfl
theorem calls (n_0 : Int) {w : World} {R : Ending → World → Prop} (h : E std n_0 w R) : Calls PP F.impl_CatalanNumber #[vI n_0] w R :=
  calls_of noCount mixed drawOk Try.func14 rfl (c := cfg) (args := [vI n_0]) rfl (Nat.le_of_ble_eq_true (by kernel_rfl)) drawsOk h
end impl_CatalanNumber

namespace spec_CatalanNumber
@[reducible] def cfg : Cfg := ⟨13, [], [], [], [2], [], [], [21, 26, 27]⟩
def E (pr : Prims) (n_0 : Int) (w : World) (R : Ending → World → Prop) : Prop :=
  wpC pr PP cfg (DD pr) (codeOf Try.f13) (retQ Try.f13.results.toList R) (argE 0 [vI n_0]) w
theorem E_eq (pr : Prims) (n_0 : Int) (w : World) (R : Ending → World → Prop) : E pr n_0 w R = (
  pr.pcall1 .bool PP F.spec_l1In #[vI n_0, vI 0, vI 20] fun (r'0 : Bool) =>
  bif !r'0 then (
  R (.returned (vI (-1))) w)
  else (
  pr.call1 (.int .i64) PP F.spec_Choose #[vI (w64 (2 * n_0)), vI n_0] w fun (r'1 : Int) w2 =>
  (w64 (n_0 + 1)) ≠ (0 : Int) ∧
  R (.returned (vI (w64 (r'1.tdiv (w64 (n_0 + 1)))))) w2)) := by kernel_rfl
theorem E_s (n_0 : Int) (w : World) (R : Ending → World → Prop) : E std n_0 w R = (
  pcall1 .bool PP F.spec_l1In #[vI n_0, vI 0, vI 20] fun (r'0 : Bool) =>
  bif !r'0 then (
  R (.returned (vI (-1))) w)
  else (
  call1 (.int .i64) PP F.spec_Choose #[vI (w64 (2 * n_0)), vI n_0] w fun (r'1 : Int) w2 =>
  (w64 (n_0 + 1)) ≠ (0 : Int) ∧
  R (.returned (vI (w64 (r'1.tdiv (w64 (n_0 + 1)))))) w2)) := E_eq std n_0 w R
theorem drawsOk : drawsOk PP cfg okD (codeOf Try.f13) = true := by kernel_rfl
theorem calls (n_0 : Int) {w : World} {R : Ending → World → Prop} (h : E std n_0 w R) : Calls PP F.spec_CatalanNumber #[vI n_0] w R :=
  calls_of noCount mixed drawOk Try.func13 rfl (c := cfg) (args := [vI n_0]) rfl (Nat.le_of_ble_eq_true (by kernel_rfl)) drawsOk h
end spec_CatalanNumber

namespace impl_Choose
@[reducible] def cfg : Cfg := ⟨36, [(5, [0, 5, 22, 23])], [(1, [0, 5, 22, 23]), (0, [5])], [], [4], [], [], [21, 26, 27]⟩
def q0 (pr : Prims) (R : Ending → World → Prop) : Exit → Env → World → Prop := fun ex e w => normQ ex (fun e w => contE pr cfg (sub (codeOf Try.f23) [1, 1, 1, 1]) (fun e w => wpC pr PP cfg (DD pr) (sub (codeOf Try.f23) [1, 1, 1, 1]) (retQ Try.f23.results.toList R) e w) e w) (retQ Try.f23.results.toList R) e w
def q1 (pr : Prims) (R : Ending → World → Prop) : Exit → Env → World → Prop := fun ex e w => blockQ ex 0 (q0 pr R) e w
def emb5 (n_0 : Int) (out_5 : Int) (t22 : Int) (t23 : Int) : Env := [(0, vI n_0), (5, vI out_5), (22, vI t22), (23, vI t23)]
def x0 (out_5 : Int) : Env := [(5, vI out_5)]
def S5 (pr : Prims) (Q : Exit → Env → World → Prop) : (Env → World → Prop) → Env → World → Prop := fun k e w => wpC pr PP cfg (DD pr) (sub (codeOf Try.f23) [1, 1, 1, 0, 1, 0, 0]) (fun ex e w => normQ ex (fun e' w' => k (Env.restr e' (lookN cfg.loops (keyOf (sub (codeOf Try.f23) [1, 1, 1, 0, 1, 0, 0])))) w') Q e w) e w
def B5 (pr : Prims) (n_0 : Int) (out_5 : Int) (t22 : Int) (t23 : Int) (w : World) (k : Env → World → Prop) (Q : Exit → Env → World → Prop) : Prop :=
  S5 pr Q k (emb5 n_0 out_5 t22 t23) w
def L5 (pr : Prims) (n_0 : Int) (out_5 : Int) (t22 : Int) (t23 : Int) (w : World) (Q : Exit → Env → World → Prop) : Prop :=
  pr.loop (S5 pr Q) (emb5 n_0 out_5 t22 t23) w
def E (pr : Prims) (n_0 : Int) (k_1 : Int) (w : World) (R : Ending → World → Prop) : Prop :=
  wpC pr PP cfg (DD pr) (codeOf Try.f23) (retQ Try.f23.results.toList R) (argE 0 [vI n_0, vI k_1]) w
theorem B5_eq (pr : Prims) (n_0 : Int) (out_5 : Int) (t22 : Int) (t23 : Int) (w : World) (k : Env → World → Prop) (Q : Exit → Env → World → Prop) : B5 pr n_0 out_5 t22 t23 w k Q = (
  bif decide (t23 < t22) then (
  (w64 (t23 + 1)) ≠ (0 : Int) ∧
  k (emb5 n_0 (w64 ((w64 (out_5 * (w64 (n_0 - t23)))).tdiv (w64 (t23 + 1)))) t22 (w64 (t23 + 1))) w)
  else (
  Q (.exit 0) (x0 out_5) w)) := by kernel_rfl
theorem B5_s (n_0 : Int) (out_5 : Int) (t22 : Int) (t23 : Int) (w : World) (k : Env → World → Prop) (Q : Exit → Env → World → Prop) : B5 std n_0 out_5 t22 t23 w k Q = (
  bif decide (t23 < t22) then (
  (w64 (t23 + 1)) ≠ (0 : Int) ∧
  k (emb5 n_0 (w64 ((w64 (out_5 * (w64 (n_0 - t23)))).tdiv (w64 (t23 + 1)))) t22 (w64 (t23 + 1))) w)
  else (
  Q (.exit 0) (x0 out_5) w)) := B5_eq std n_0 out_5 t22 t23 w k Q
theorem L5_rule (n_0 : Int) (out_5 : Int) (t22 : Int) (t23 : Int) (w : World) (Q : Exit → Env → World → Prop) (I : Int → Int → World → Prop) (μ : Int → Int → World → Nat) (h0 : I out_5 t23 w)
    (h : ∀ (out_5 : Int) (t23 : Int) (w' : World), I out_5 t23 w' → B5 std n_0 out_5 t22 t23 w' (fun e2 w2 => ∃ out_5_n t23_n, e2 = emb5 n_0 out_5_n t22 t23_n ∧ I out_5_n t23_n w2 ∧ μ out_5_n t23_n w2 < μ out_5 t23 w') Q) :
    L5 std n_0 out_5 t22 t23 w Q := by
  unfold L5
  refine LoopE.intro (σ := Int × Int) (step := S5 std Q) (fun s => emb5 n_0 s.1 t22 s.2) (fun s w => I s.1 s.2 w) (fun s w => μ s.1 s.2 w) (out_5, t23) rfl h0 ?_
  intro s w' hI
  have h1 := h s.1 s.2 w' hI
  unfold B5 at h1
  simp only [Prod.exists]
  exact h1
theorem A5_0_eq (pr : Prims) (out_5 : Int) (w : World) (R : Ending → World → Prop) : (q1 pr R) (.exit 0) (x0 out_5) w = (
  R (.returned (vI out_5)) w) := by kernel_rfl
theorem A5_0_s (out_5 : Int) (w : World) (R : Ending → World → Prop) : (q1 std R) (.exit 0) (x0 out_5) w = (
  R (.returned (vI out_5)) w) := A5_0_eq std out_5 w R
theorem E_eq (pr : Prims) (n_0 : Int) (k_1 : Int) (w : World) (R : Ending → World → Prop) : E pr n_0 k_1 w R = (
  bif decide (n_0 < 0) then (
  R (.returned (vI 0)) w)
  else (
  bif decide (n_0 > 40) then (
  R (.returned (vI 0)) w)
  else (
  bif decide (k_1 < 0) then (
  R (.returned (vI 0)) w)
  else (
  bif decide (k_1 > n_0) then (
  R (.returned (vI 0)) w)
  else (
  L5 pr n_0 1 k_1 0 w (q1 pr R)))))) := by kernel_rfl
theorem E_s (n_0 : Int) (k_1 : Int) (w : World) (R : Ending → World → Prop) : E std n_0 k_1 w R = (
  bif decide (n_0 < 0) then (
  R (.returned (vI 0)) w)
  else (
  bif decide (n_0 > 40) then (
  R (.returned (vI 0)) w)
  else (
  bif decide (k_1 < 0) then (
  R (.returned (vI 0)) w)
  else (
  bif decide (k_1 > n_0) then (
  R (.returned (vI 0)) w)
  else (
  L5 std n_0 1 k_1 0 w (q1 std R)))))) := E_eq std n_0 k_1 w R
theorem drawsOk : drawsOk PP cfg okD (codeOf Try.f23) = true := by kernel_rfl
theorem calls (n_0 : Int) (k_1 : Int) {w : World} {R : Ending → World → Prop} (h : E std n_0 k_1 w R) : Calls PP F.impl_Choose #[vI n_0, vI k_1] w R :=
  calls_of noCount mixed drawOk Try.func23 rfl (c := cfg) (args := [vI n_0, vI k_1]) rfl (Nat.le_of_ble_eq_true (by kernel_rfl)) drawsOk h
end impl_Choose

namespace spec_Choose
@[reducible] def cfg : Cfg := ⟨30, [(5, [0, 1, 5, 6])], [(1, [0, 1, 5, 6]), (0, [5])], [], [4], [], [], [21, 26, 27]⟩
def q2 (pr : Prims) (R : Ending → World → Prop) : Exit → Env → World → Prop := fun ex e w => normQ ex (fun e w => contE pr cfg (sub (codeOf Try.f22) [1, 1, 1, 1]) (fun e w => wpC pr PP cfg (DD pr) (sub (codeOf Try.f22) [1, 1, 1, 1]) (retQ Try.f22.results.toList R) e w) e w) (retQ Try.f22.results.toList R) e w
def q3 (pr : Prims) (R : Ending → World → Prop) : Exit → Env → World → Prop := fun ex e w => blockQ ex 0 (q2 pr R) e w
def emb5 (n_0 : Int) (k_1 : Int) (out_5 : Int) (i_6 : Int) : Env := [(0, vI n_0), (1, vI k_1), (5, vI out_5), (6, vI i_6)]
def x0 (out_5 : Int) : Env := [(5, vI out_5)]
def S5 (pr : Prims) (Q : Exit → Env → World → Prop) : (Env → World → Prop) → Env → World → Prop := fun k e w => wpC pr PP cfg (DD pr) (sub (codeOf Try.f22) [1, 1, 1, 0, 1, 0, 0]) (fun ex e w => normQ ex (fun e' w' => k (Env.restr e' (lookN cfg.loops (keyOf (sub (codeOf Try.f22) [1, 1, 1, 0, 1, 0, 0])))) w') Q e w) e w
def B5 (pr : Prims) (n_0 : Int) (k_1 : Int) (out_5 : Int) (i_6 : Int) (w : World) (k : Env → World → Prop) (Q : Exit → Env → World → Prop) : Prop :=
  S5 pr Q k (emb5 n_0 k_1 out_5 i_6) w
def L5 (pr : Prims) (n_0 : Int) (k_1 : Int) (out_5 : Int) (i_6 : Int) (w : World) (Q : Exit → Env → World → Prop) : Prop :=
  pr.loop (S5 pr Q) (emb5 n_0 k_1 out_5 i_6) w
def E (pr : Prims) (n_0 : Int) (k_1 : Int) (w : World) (R : Ending → World → Prop) : Prop :=
  wpC pr PP cfg (DD pr) (codeOf Try.f22) (retQ Try.f22.results.toList R) (argE 0 [vI n_0, vI k_1]) w
theorem B5_eq (pr : Prims) (n_0 : Int) (k_1 : Int) (out_5 : Int) (i_6 : Int) (w : World) (k : Env → World → Prop) (Q : Exit → Env → World → Prop) : B5 pr n_0 k_1 out_5 i_6 w k Q = (
  bif decide (i_6 < k_1) then (
  (w64 (i_6 + 1)) ≠ (0 : Int) ∧
  k (emb5 n_0 k_1 (w64 ((w64 (out_5 * (w64 (n_0 - i_6)))).tdiv (w64 (i_6 + 1)))) (w64 (i_6 + 1))) w)
  else (
  Q (.exit 0) (x0 out_5) w)) := by kernel_rfl
theorem B5_s (n_0 : Int) (k_1 : Int) (out_5 : Int) (i_6 : Int) (w : World) (k : Env → World → Prop) (Q : Exit → Env → World → Prop) : B5 std n_0 k_1 out_5 i_6 w k Q = (
  bif decide (i_6 < k_1) then (
  (w64 (i_6 + 1)) ≠ (0 : Int) ∧
  k (emb5 n_0 k_1 (w64 ((w64 (out_5 * (w64 (n_0 - i_6)))).tdiv (w64 (i_6 + 1)))) (w64 (i_6 + 1))) w)
  else (
  Q (.exit 0) (x0 out_5) w)) := B5_eq std n_0 k_1 out_5 i_6 w k Q
theorem L5_rule (n_0 : Int) (k_1 : Int) (out_5 : Int) (i_6 : Int) (w : World) (Q : Exit → Env → World → Prop) (I : Int → Int → World → Prop) (μ : Int → Int → World → Nat) (h0 : I out_5 i_6 w)
    (h : ∀ (out_5 : Int) (i_6 : Int) (w' : World), I out_5 i_6 w' → B5 std n_0 k_1 out_5 i_6 w' (fun e2 w2 => ∃ out_5_n i_6_n, e2 = emb5 n_0 k_1 out_5_n i_6_n ∧ I out_5_n i_6_n w2 ∧ μ out_5_n i_6_n w2 < μ out_5 i_6 w') Q) :
    L5 std n_0 k_1 out_5 i_6 w Q := by
  unfold L5
  refine LoopE.intro (σ := Int × Int) (step := S5 std Q) (fun s => emb5 n_0 k_1 s.1 s.2) (fun s w => I s.1 s.2 w) (fun s w => μ s.1 s.2 w) (out_5, i_6) rfl h0 ?_
  intro s w' hI
  have h1 := h s.1 s.2 w' hI
  unfold B5 at h1
  simp only [Prod.exists]
  exact h1
theorem A5_0_eq (pr : Prims) (out_5 : Int) (w : World) (R : Ending → World → Prop) : (q3 pr R) (.exit 0) (x0 out_5) w = (
  R (.returned (vI out_5)) w) := by kernel_rfl
theorem A5_0_s (out_5 : Int) (w : World) (R : Ending → World → Prop) : (q3 std R) (.exit 0) (x0 out_5) w = (
  R (.returned (vI out_5)) w) := A5_0_eq std out_5 w R
theorem E_eq (pr : Prims) (n_0 : Int) (k_1 : Int) (w : World) (R : Ending → World → Prop) : E pr n_0 k_1 w R = (
  pr.pcall1 .bool PP F.spec_l1In #[vI n_0, vI 0, vI 40] fun (r'0 : Bool) =>
  bif !r'0 then (
  R (.returned (vI 0)) w)
  else (
  pr.pcall1 .bool PP F.spec_l1In #[vI k_1, vI 0, vI n_0] fun (r'1 : Bool) =>
  bif !r'1 then (
  R (.returned (vI 0)) w)
  else (
  L5 pr n_0 k_1 1 0 w (q3 pr R)))) := by kernel_rfl
theorem E_s (n_0 : Int) (k_1 : Int) (w : World) (R : Ending → World → Prop) : E std n_0 k_1 w R = (
  pcall1 .bool PP F.spec_l1In #[vI n_0, vI 0, vI 40] fun (r'0 : Bool) =>
  bif !r'0 then (
  R (.returned (vI 0)) w)
  else (
  pcall1 .bool PP F.spec_l1In #[vI k_1, vI 0, vI n_0] fun (r'1 : Bool) =>
  bif !r'1 then (
  R (.returned (vI 0)) w)
  else (
  L5 std n_0 k_1 1 0 w (q3 std R)))) := E_eq std n_0 k_1 w R
theorem drawsOk : drawsOk PP cfg okD (codeOf Try.f22) = true := by kernel_rfl
theorem calls (n_0 : Int) (k_1 : Int) {w : World} {R : Ending → World → Prop} (h : E std n_0 k_1 w R) : Calls PP F.spec_Choose #[vI n_0, vI k_1] w R :=
  calls_of noCount mixed drawOk Try.func22 rfl (c := cfg) (args := [vI n_0, vI k_1]) rfl (Nat.le_of_ble_eq_true (by kernel_rfl)) drawsOk h
end spec_Choose

namespace impl_CountReturns
@[reducible] def cfg : Cfg := ⟨27, [(6, [5, 15, 16, 17])], [(1, [5, 15, 16, 17]), (0, [5])], [], [2], [], [], [21, 26, 27]⟩
def q3 (pr : Prims) (R : Ending → World → Prop) : Exit → Env → World → Prop := fun ex e w => normQ ex (fun e w => contE pr cfg (sub (codeOf Try.f18) [1, 1, 1, 1, 1]) (fun e w => wpC pr PP cfg (DD pr) (sub (codeOf Try.f18) [1, 1, 1, 1, 1]) (retQ Try.f18.results.toList R) e w) e w) (retQ Try.f18.results.toList R) e w
def q4 (pr : Prims) (R : Ending → World → Prop) : Exit → Env → World → Prop := fun ex e w => blockQ ex 0 (q3 pr R) e w
def emb6 (many_5 : Int) (t15 : Sl) (t16 : Int) (t17 : Int) : Env := [(5, vI many_5), (15, Sl.v t15), (16, vI t16), (17, vI t17)]
def x0 (many_5 : Int) : Env := [(5, vI many_5)]
def S6 (pr : Prims) (Q : Exit → Env → World → Prop) : (Env → World → Prop) → Env → World → Prop := fun k e w => wpC pr PP cfg (DD pr) (sub (codeOf Try.f18) [1, 1, 1, 1, 0, 1, 0, 0]) (fun ex e w => normQ ex (fun e' w' => k (Env.restr e' (lookN cfg.loops (keyOf (sub (codeOf Try.f18) [1, 1, 1, 1, 0, 1, 0, 0])))) w') Q e w) e w
def B6 (pr : Prims) (many_5 : Int) (t15 : Sl) (t16 : Int) (t17 : Int) (w : World) (k : Env → World → Prop) (Q : Exit → Env → World → Prop) : Prop :=
  S6 pr Q k (emb6 many_5 t15 t16 t17) w
def L6 (pr : Prims) (many_5 : Int) (t15 : Sl) (t16 : Int) (t17 : Int) (w : World) (Q : Exit → Env → World → Prop) : Prop :=
  pr.loop (S6 pr Q) (emb6 many_5 t15 t16 t17) w
def E (pr : Prims) (text_0 : ByteArray) (w : World) (R : Ending → World → Prop) : Prop :=
  wpC pr PP cfg (DD pr) (codeOf Try.f18) (retQ Try.f18.results.toList R) (argE 0 [.string text_0]) w
theorem B6_eq (pr : Prims) (many_5 : Int) (t15 : Sl) (t16 : Int) (t17 : Int) (w : World) (k : Env → World → Prop) (Q : Exit → Env → World → Prop) : B6 pr many_5 t15 t16 t17 w k Q = (
  bif decide (t17 < t16) then (
  pr.idxK 1 t15 t17 fun (a5 : Addr) =>
  pr.load1 (.int .i64) a5 w fun (x'6 : Int) =>
  bif x'6 == 0 then (
  k (emb6 (w64 (many_5 + 1)) t15 t16 (w64 (t17 + 1))) w)
  else (
  k (emb6 many_5 t15 t16 (w64 (t17 + 1))) w))
  else (
  Q (.exit 0) (x0 many_5) w)) := by kernel_rfl
theorem B6_s (many_5 : Int) (t15 : Sl) (t16 : Int) (t17 : Int) (w : World) (k : Env → World → Prop) (Q : Exit → Env → World → Prop) : B6 std many_5 t15 t16 t17 w k Q = (
  bif decide (t17 < t16) then (
  idxK 1 t15 t17 fun (a5 : Addr) =>
  load1 (.int .i64) a5 w fun (x'6 : Int) =>
  bif x'6 == 0 then (
  k (emb6 (w64 (many_5 + 1)) t15 t16 (w64 (t17 + 1))) w)
  else (
  k (emb6 many_5 t15 t16 (w64 (t17 + 1))) w))
  else (
  Q (.exit 0) (x0 many_5) w)) := B6_eq std many_5 t15 t16 t17 w k Q
theorem L6_rule (many_5 : Int) (t15 : Sl) (t16 : Int) (t17 : Int) (w : World) (Q : Exit → Env → World → Prop) (I : Int → Int → World → Prop) (μ : Int → Int → World → Nat) (h0 : I many_5 t17 w)
    (h : ∀ (many_5 : Int) (t17 : Int) (w' : World), I many_5 t17 w' → B6 std many_5 t15 t16 t17 w' (fun e2 w2 => ∃ many_5_n t17_n, e2 = emb6 many_5_n t15 t16 t17_n ∧ I many_5_n t17_n w2 ∧ μ many_5_n t17_n w2 < μ many_5 t17 w') Q) :
    L6 std many_5 t15 t16 t17 w Q := by
  unfold L6
  refine LoopE.intro (σ := Int × Int) (step := S6 std Q) (fun s => emb6 s.1 t15 t16 s.2) (fun s w => I s.1 s.2 w) (fun s w => μ s.1 s.2 w) (many_5, t17) rfl h0 ?_
  intro s w' hI
  have h1 := h s.1 s.2 w' hI
  unfold B6 at h1
  simp only [Prod.exists]
  exact h1
theorem A6_0_eq (pr : Prims) (many_5 : Int) (w : World) (R : Ending → World → Prop) : (q4 pr R) (.exit 0) (x0 many_5) w = (
  R (.returned (vI many_5)) w) := by kernel_rfl
theorem A6_0_s (many_5 : Int) (w : World) (R : Ending → World → Prop) : (q4 std R) (.exit 0) (x0 many_5) w = (
  R (.returned (vI many_5)) w) := A6_0_eq std many_5 w R
theorem E_eq (pr : Prims) (text_0 : ByteArray) (w : World) (R : Ending → World → Prop) : E pr text_0 w R = (
  pr.call2 .sl .bool PP F.impl_heights #[.string text_0] w fun (r'0 : Sl) (r'1 : Bool) w2 =>
  bif !r'1 then (
  R (.returned (vI (-1))) w2)
  else (
  L6 pr 0 r'0 (r'0.n : Int) 0 w2 (q4 pr R))) := by kernel_rfl
theorem E_s (text_0 : ByteArray) (w : World) (R : Ending → World → Prop) : E std text_0 w R = (
  call2 .sl .bool PP F.impl_heights #[.string text_0] w fun (r'0 : Sl) (r'1 : Bool) w2 =>
  bif !r'1 then (
  R (.returned (vI (-1))) w2)
  else (
  L6 std 0 r'0 (r'0.n : Int) 0 w2 (q4 std R))) := E_eq std text_0 w R
theorem drawsOk : drawsOk PP cfg okD (codeOf Try.f18) = true := by kernel_rfl
theorem calls (text_0 : ByteArray) {w : World} {R : Ending → World → Prop} (h : E std text_0 w R) : Calls PP F.impl_CountReturns #[.string text_0] w R :=
  calls_of noCount mixed drawOk Try.func18 rfl (c := cfg) (args := [.string text_0]) rfl (Nat.le_of_ble_eq_true (by kernel_rfl)) drawsOk h
end impl_CountReturns

namespace spec_CountReturns
@[reducible] def cfg : Cfg := ⟨26, [(6, [3, 4, 5])], [(1, [3, 4, 5]), (0, [3])], [], [2], [], [], [21, 26, 27]⟩
def q4 (pr : Prims) (R : Ending → World → Prop) : Exit → Env → World → Prop := fun ex e w => normQ ex (fun e w => contE pr cfg (sub (codeOf Try.f17) [1, 1, 1, 1, 1]) (fun e w => wpC pr PP cfg (DD pr) (sub (codeOf Try.f17) [1, 1, 1, 1, 1]) (retQ Try.f17.results.toList R) e w) e w) (retQ Try.f17.results.toList R) e w
def q5 (pr : Prims) (R : Ending → World → Prop) : Exit → Env → World → Prop := fun ex e w => blockQ ex 0 (q4 pr R) e w
def emb6 (n_3 : Int) (list_4 : Sl) (k_5 : Int) : Env := [(3, vI n_3), (4, Sl.v list_4), (5, vI k_5)]
def x0 (n_3 : Int) : Env := [(3, vI n_3)]
def S6 (pr : Prims) (Q : Exit → Env → World → Prop) : (Env → World → Prop) → Env → World → Prop := fun k e w => wpC pr PP cfg (DD pr) (sub (codeOf Try.f17) [1, 1, 1, 1, 0, 1, 0, 0]) (fun ex e w => normQ ex (fun e' w' => k (Env.restr e' (lookN cfg.loops (keyOf (sub (codeOf Try.f17) [1, 1, 1, 1, 0, 1, 0, 0])))) w') Q e w) e w
def B6 (pr : Prims) (n_3 : Int) (list_4 : Sl) (k_5 : Int) (w : World) (k : Env → World → Prop) (Q : Exit → Env → World → Prop) : Prop :=
  S6 pr Q k (emb6 n_3 list_4 k_5) w
def L6 (pr : Prims) (n_3 : Int) (list_4 : Sl) (k_5 : Int) (w : World) (Q : Exit → Env → World → Prop) : Prop :=
  pr.loop (S6 pr Q) (emb6 n_3 list_4 k_5) w
def E (pr : Prims) (text_0 : ByteArray) (w : World) (R : Ending → World → Prop) : Prop :=
  wpC pr PP cfg (DD pr) (codeOf Try.f17) (retQ Try.f17.results.toList R) (argE 0 [.string text_0]) w
theorem B6_eq (pr : Prims) (n_3 : Int) (list_4 : Sl) (k_5 : Int) (w : World) (k : Env → World → Prop) (Q : Exit → Env → World → Prop) : B6 pr n_3 list_4 k_5 w k Q = (
  bif decide (k_5 < (list_4.n : Int)) then (
  pr.idxK 1 list_4 k_5 fun (a6 : Addr) =>
  pr.load1 (.int .i64) a6 w fun (x'7 : Int) =>
  pr.pcall1 (.int .i64) PP F.spec_l1Bit #[.bool (x'7 == 0)] fun (r'8 : Int) =>
  k (emb6 (w64 (n_3 + r'8)) list_4 (w64 (k_5 + 1))) w)
  else (
  Q (.exit 0) (x0 n_3) w)) := by kernel_rfl
theorem B6_s (n_3 : Int) (list_4 : Sl) (k_5 : Int) (w : World) (k : Env → World → Prop) (Q : Exit → Env → World → Prop) : B6 std n_3 list_4 k_5 w k Q = (
  bif decide (k_5 < (list_4.n : Int)) then (
  idxK 1 list_4 k_5 fun (a6 : Addr) =>
  load1 (.int .i64) a6 w fun (x'7 : Int) =>
  pcall1 (.int .i64) PP F.spec_l1Bit #[.bool (x'7 == 0)] fun (r'8 : Int) =>
  k (emb6 (w64 (n_3 + r'8)) list_4 (w64 (k_5 + 1))) w)
  else (
  Q (.exit 0) (x0 n_3) w)) := B6_eq std n_3 list_4 k_5 w k Q
theorem L6_rule (n_3 : Int) (list_4 : Sl) (k_5 : Int) (w : World) (Q : Exit → Env → World → Prop) (I : Int → Int → World → Prop) (μ : Int → Int → World → Nat) (h0 : I n_3 k_5 w)
    (h : ∀ (n_3 : Int) (k_5 : Int) (w' : World), I n_3 k_5 w' → B6 std n_3 list_4 k_5 w' (fun e2 w2 => ∃ n_3_n k_5_n, e2 = emb6 n_3_n list_4 k_5_n ∧ I n_3_n k_5_n w2 ∧ μ n_3_n k_5_n w2 < μ n_3 k_5 w') Q) :
    L6 std n_3 list_4 k_5 w Q := by
  unfold L6
  refine LoopE.intro (σ := Int × Int) (step := S6 std Q) (fun s => emb6 s.1 list_4 s.2) (fun s w => I s.1 s.2 w) (fun s w => μ s.1 s.2 w) (n_3, k_5) rfl h0 ?_
  intro s w' hI
  have h1 := h s.1 s.2 w' hI
  unfold B6 at h1
  simp only [Prod.exists]
  exact h1
theorem A6_0_eq (pr : Prims) (n_3 : Int) (w : World) (R : Ending → World → Prop) : (q5 pr R) (.exit 0) (x0 n_3) w = (
  R (.returned (vI n_3)) w) := by kernel_rfl
theorem A6_0_s (n_3 : Int) (w : World) (R : Ending → World → Prop) : (q5 std R) (.exit 0) (x0 n_3) w = (
  R (.returned (vI n_3)) w) := A6_0_eq std n_3 w R
theorem E_eq (pr : Prims) (text_0 : ByteArray) (w : World) (R : Ending → World → Prop) : E pr text_0 w R = (
  pr.call1 .bool PP F.spec_IsPath #[.string text_0] w fun (r'0 : Bool) w1 =>
  bif !r'0 then (
  R (.returned (vI (-1))) w1)
  else (
  pr.call1 .sl PP F.spec_l18Heights #[.string text_0] w1 fun (r'2 : Sl) w3 =>
  L6 pr 0 r'2 0 w3 (q5 pr R))) := by kernel_rfl
theorem E_s (text_0 : ByteArray) (w : World) (R : Ending → World → Prop) : E std text_0 w R = (
  call1 .bool PP F.spec_IsPath #[.string text_0] w fun (r'0 : Bool) w1 =>
  bif !r'0 then (
  R (.returned (vI (-1))) w1)
  else (
  call1 .sl PP F.spec_l18Heights #[.string text_0] w1 fun (r'2 : Sl) w3 =>
  L6 std 0 r'2 0 w3 (q5 std R))) := E_eq std text_0 w R
theorem drawsOk : drawsOk PP cfg okD (codeOf Try.f17) = true := by kernel_rfl
theorem calls (text_0 : ByteArray) {w : World} {R : Ending → World → Prop} (h : E std text_0 w R) : Calls PP F.spec_CountReturns #[.string text_0] w R :=
  calls_of noCount mixed drawOk Try.func17 rfl (c := cfg) (args := [.string text_0]) rfl (Nat.le_of_ble_eq_true (by kernel_rfl)) drawsOk h
end spec_CountReturns

namespace impl_PathHeight
@[reducible] def cfg : Cfg := ⟨26, [(6, [5, 15, 16, 17])], [(1, [5, 15, 16, 17]), (0, [5])], [], [2], [], [], [21, 26, 27]⟩
def q3 (pr : Prims) (R : Ending → World → Prop) : Exit → Env → World → Prop := fun ex e w => normQ ex (fun e w => contE pr cfg (sub (codeOf Try.f20) [1, 1, 1, 1, 1]) (fun e w => wpC pr PP cfg (DD pr) (sub (codeOf Try.f20) [1, 1, 1, 1, 1]) (retQ Try.f20.results.toList R) e w) e w) (retQ Try.f20.results.toList R) e w
def q4 (pr : Prims) (R : Ending → World → Prop) : Exit → Env → World → Prop := fun ex e w => blockQ ex 0 (q3 pr R) e w
def emb6 (most_5 : Int) (t15 : Sl) (t16 : Int) (t17 : Int) : Env := [(5, vI most_5), (15, Sl.v t15), (16, vI t16), (17, vI t17)]
def x0 (most_5 : Int) : Env := [(5, vI most_5)]
def S6 (pr : Prims) (Q : Exit → Env → World → Prop) : (Env → World → Prop) → Env → World → Prop := fun k e w => wpC pr PP cfg (DD pr) (sub (codeOf Try.f20) [1, 1, 1, 1, 0, 1, 0, 0]) (fun ex e w => normQ ex (fun e' w' => k (Env.restr e' (lookN cfg.loops (keyOf (sub (codeOf Try.f20) [1, 1, 1, 1, 0, 1, 0, 0])))) w') Q e w) e w
def B6 (pr : Prims) (most_5 : Int) (t15 : Sl) (t16 : Int) (t17 : Int) (w : World) (k : Env → World → Prop) (Q : Exit → Env → World → Prop) : Prop :=
  S6 pr Q k (emb6 most_5 t15 t16 t17) w
def L6 (pr : Prims) (most_5 : Int) (t15 : Sl) (t16 : Int) (t17 : Int) (w : World) (Q : Exit → Env → World → Prop) : Prop :=
  pr.loop (S6 pr Q) (emb6 most_5 t15 t16 t17) w
def E (pr : Prims) (text_0 : ByteArray) (w : World) (R : Ending → World → Prop) : Prop :=
  wpC pr PP cfg (DD pr) (codeOf Try.f20) (retQ Try.f20.results.toList R) (argE 0 [.string text_0]) w
theorem B6_eq (pr : Prims) (most_5 : Int) (t15 : Sl) (t16 : Int) (t17 : Int) (w : World) (k : Env → World → Prop) (Q : Exit → Env → World → Prop) : B6 pr most_5 t15 t16 t17 w k Q = (
  bif decide (t17 < t16) then (
  pr.idxK 1 t15 t17 fun (a5 : Addr) =>
  pr.load1 (.int .i64) a5 w fun (x'6 : Int) =>
  k (emb6 (if x'6 > most_5 then x'6 else most_5) t15 t16 (w64 (t17 + 1))) w)
  else (
  Q (.exit 0) (x0 most_5) w)) := by kernel_rfl
theorem B6_s (most_5 : Int) (t15 : Sl) (t16 : Int) (t17 : Int) (w : World) (k : Env → World → Prop) (Q : Exit → Env → World → Prop) : B6 std most_5 t15 t16 t17 w k Q = (
  bif decide (t17 < t16) then (
  idxK 1 t15 t17 fun (a5 : Addr) =>
  load1 (.int .i64) a5 w fun (x'6 : Int) =>
  k (emb6 (if x'6 > most_5 then x'6 else most_5) t15 t16 (w64 (t17 + 1))) w)
  else (
  Q (.exit 0) (x0 most_5) w)) := B6_eq std most_5 t15 t16 t17 w k Q
theorem L6_rule (most_5 : Int) (t15 : Sl) (t16 : Int) (t17 : Int) (w : World) (Q : Exit → Env → World → Prop) (I : Int → Int → World → Prop) (μ : Int → Int → World → Nat) (h0 : I most_5 t17 w)
    (h : ∀ (most_5 : Int) (t17 : Int) (w' : World), I most_5 t17 w' → B6 std most_5 t15 t16 t17 w' (fun e2 w2 => ∃ most_5_n t17_n, e2 = emb6 most_5_n t15 t16 t17_n ∧ I most_5_n t17_n w2 ∧ μ most_5_n t17_n w2 < μ most_5 t17 w') Q) :
    L6 std most_5 t15 t16 t17 w Q := by
  unfold L6
  refine LoopE.intro (σ := Int × Int) (step := S6 std Q) (fun s => emb6 s.1 t15 t16 s.2) (fun s w => I s.1 s.2 w) (fun s w => μ s.1 s.2 w) (most_5, t17) rfl h0 ?_
  intro s w' hI
  have h1 := h s.1 s.2 w' hI
  unfold B6 at h1
  simp only [Prod.exists]
  exact h1
theorem A6_0_eq (pr : Prims) (most_5 : Int) (w : World) (R : Ending → World → Prop) : (q4 pr R) (.exit 0) (x0 most_5) w = (
  R (.returned (vI most_5)) w) := by kernel_rfl
theorem A6_0_s (most_5 : Int) (w : World) (R : Ending → World → Prop) : (q4 std R) (.exit 0) (x0 most_5) w = (
  R (.returned (vI most_5)) w) := A6_0_eq std most_5 w R
theorem E_eq (pr : Prims) (text_0 : ByteArray) (w : World) (R : Ending → World → Prop) : E pr text_0 w R = (
  pr.call2 .sl .bool PP F.impl_heights #[.string text_0] w fun (r'0 : Sl) (r'1 : Bool) w2 =>
  bif !r'1 then (
  R (.returned (vI (-1))) w2)
  else (
  L6 pr 0 r'0 (r'0.n : Int) 0 w2 (q4 pr R))) := by kernel_rfl
theorem E_s (text_0 : ByteArray) (w : World) (R : Ending → World → Prop) : E std text_0 w R = (
  call2 .sl .bool PP F.impl_heights #[.string text_0] w fun (r'0 : Sl) (r'1 : Bool) w2 =>
  bif !r'1 then (
  R (.returned (vI (-1))) w2)
  else (
  L6 std 0 r'0 (r'0.n : Int) 0 w2 (q4 std R))) := E_eq std text_0 w R
theorem drawsOk : drawsOk PP cfg okD (codeOf Try.f20) = true := by kernel_rfl
theorem calls (text_0 : ByteArray) {w : World} {R : Ending → World → Prop} (h : E std text_0 w R) : Calls PP F.impl_PathHeight #[.string text_0] w R :=
  calls_of noCount mixed drawOk Try.func20 rfl (c := cfg) (args := [.string text_0]) rfl (Nat.le_of_ble_eq_true (by kernel_rfl)) drawsOk h
end impl_PathHeight

namespace spec_PathHeight
@[reducible] def cfg : Cfg := ⟨24, [(6, [3, 4, 5])], [(1, [3, 4, 5]), (0, [3])], [], [2], [], [], [21, 26, 27]⟩
def q4 (pr : Prims) (R : Ending → World → Prop) : Exit → Env → World → Prop := fun ex e w => normQ ex (fun e w => contE pr cfg (sub (codeOf Try.f19) [1, 1, 1, 1, 1]) (fun e w => wpC pr PP cfg (DD pr) (sub (codeOf Try.f19) [1, 1, 1, 1, 1]) (retQ Try.f19.results.toList R) e w) e w) (retQ Try.f19.results.toList R) e w
def q5 (pr : Prims) (R : Ending → World → Prop) : Exit → Env → World → Prop := fun ex e w => blockQ ex 0 (q4 pr R) e w
def emb6 (best_3 : Int) (list_4 : Sl) (k_5 : Int) : Env := [(3, vI best_3), (4, Sl.v list_4), (5, vI k_5)]
def x0 (best_3 : Int) : Env := [(3, vI best_3)]
def S6 (pr : Prims) (Q : Exit → Env → World → Prop) : (Env → World → Prop) → Env → World → Prop := fun k e w => wpC pr PP cfg (DD pr) (sub (codeOf Try.f19) [1, 1, 1, 1, 0, 1, 0, 0]) (fun ex e w => normQ ex (fun e' w' => k (Env.restr e' (lookN cfg.loops (keyOf (sub (codeOf Try.f19) [1, 1, 1, 1, 0, 1, 0, 0])))) w') Q e w) e w
def B6 (pr : Prims) (best_3 : Int) (list_4 : Sl) (k_5 : Int) (w : World) (k : Env → World → Prop) (Q : Exit → Env → World → Prop) : Prop :=
  S6 pr Q k (emb6 best_3 list_4 k_5) w
def L6 (pr : Prims) (best_3 : Int) (list_4 : Sl) (k_5 : Int) (w : World) (Q : Exit → Env → World → Prop) : Prop :=
  pr.loop (S6 pr Q) (emb6 best_3 list_4 k_5) w
def E (pr : Prims) (text_0 : ByteArray) (w : World) (R : Ending → World → Prop) : Prop :=
  wpC pr PP cfg (DD pr) (codeOf Try.f19) (retQ Try.f19.results.toList R) (argE 0 [.string text_0]) w
theorem B6_eq (pr : Prims) (best_3 : Int) (list_4 : Sl) (k_5 : Int) (w : World) (k : Env → World → Prop) (Q : Exit → Env → World → Prop) : B6 pr best_3 list_4 k_5 w k Q = (
  bif decide (k_5 < (list_4.n : Int)) then (
  pr.idxK 1 list_4 k_5 fun (a6 : Addr) =>
  pr.load1 (.int .i64) a6 w fun (x'7 : Int) =>
  pr.pcall1 (.int .i64) PP F.spec_l1Max #[vI best_3, vI x'7] fun (r'8 : Int) =>
  k (emb6 r'8 list_4 (w64 (k_5 + 1))) w)
  else (
  Q (.exit 0) (x0 best_3) w)) := by kernel_rfl
theorem B6_s (best_3 : Int) (list_4 : Sl) (k_5 : Int) (w : World) (k : Env → World → Prop) (Q : Exit → Env → World → Prop) : B6 std best_3 list_4 k_5 w k Q = (
  bif decide (k_5 < (list_4.n : Int)) then (
  idxK 1 list_4 k_5 fun (a6 : Addr) =>
  load1 (.int .i64) a6 w fun (x'7 : Int) =>
  pcall1 (.int .i64) PP F.spec_l1Max #[vI best_3, vI x'7] fun (r'8 : Int) =>
  k (emb6 r'8 list_4 (w64 (k_5 + 1))) w)
  else (
  Q (.exit 0) (x0 best_3) w)) := B6_eq std best_3 list_4 k_5 w k Q
theorem L6_rule (best_3 : Int) (list_4 : Sl) (k_5 : Int) (w : World) (Q : Exit → Env → World → Prop) (I : Int → Int → World → Prop) (μ : Int → Int → World → Nat) (h0 : I best_3 k_5 w)
    (h : ∀ (best_3 : Int) (k_5 : Int) (w' : World), I best_3 k_5 w' → B6 std best_3 list_4 k_5 w' (fun e2 w2 => ∃ best_3_n k_5_n, e2 = emb6 best_3_n list_4 k_5_n ∧ I best_3_n k_5_n w2 ∧ μ best_3_n k_5_n w2 < μ best_3 k_5 w') Q) :
    L6 std best_3 list_4 k_5 w Q := by
  unfold L6
  refine LoopE.intro (σ := Int × Int) (step := S6 std Q) (fun s => emb6 s.1 list_4 s.2) (fun s w => I s.1 s.2 w) (fun s w => μ s.1 s.2 w) (best_3, k_5) rfl h0 ?_
  intro s w' hI
  have h1 := h s.1 s.2 w' hI
  unfold B6 at h1
  simp only [Prod.exists]
  exact h1
theorem A6_0_eq (pr : Prims) (best_3 : Int) (w : World) (R : Ending → World → Prop) : (q5 pr R) (.exit 0) (x0 best_3) w = (
  R (.returned (vI best_3)) w) := by kernel_rfl
theorem A6_0_s (best_3 : Int) (w : World) (R : Ending → World → Prop) : (q5 std R) (.exit 0) (x0 best_3) w = (
  R (.returned (vI best_3)) w) := A6_0_eq std best_3 w R
theorem E_eq (pr : Prims) (text_0 : ByteArray) (w : World) (R : Ending → World → Prop) : E pr text_0 w R = (
  pr.call1 .bool PP F.spec_IsPath #[.string text_0] w fun (r'0 : Bool) w1 =>
  bif !r'0 then (
  R (.returned (vI (-1))) w1)
  else (
  pr.call1 .sl PP F.spec_l18Heights #[.string text_0] w1 fun (r'2 : Sl) w3 =>
  L6 pr 0 r'2 0 w3 (q5 pr R))) := by kernel_rfl
theorem E_s (text_0 : ByteArray) (w : World) (R : Ending → World → Prop) : E std text_0 w R = (
  call1 .bool PP F.spec_IsPath #[.string text_0] w fun (r'0 : Bool) w1 =>
  bif !r'0 then (
  R (.returned (vI (-1))) w1)
  else (
  call1 .sl PP F.spec_l18Heights #[.string text_0] w1 fun (r'2 : Sl) w3 =>
  L6 std 0 r'2 0 w3 (q5 std R))) := E_eq std text_0 w R
theorem drawsOk : drawsOk PP cfg okD (codeOf Try.f19) = true := by kernel_rfl
theorem calls (text_0 : ByteArray) {w : World} {R : Ending → World → Prop} (h : E std text_0 w R) : Calls PP F.spec_PathHeight #[.string text_0] w R :=
  calls_of noCount mixed drawOk Try.func19 rfl (c := cfg) (args := [.string text_0]) rfl (Nat.le_of_ble_eq_true (by kernel_rfl)) drawsOk h
end spec_PathHeight

namespace spec_l18Heights
@[reducible] def cfg : Cfg := ⟨27, [(4, [0, 3, 4, 5])], [(1, [0, 3, 4, 5]), (0, [3])], [], [2], [], [], [21, 26, 27]⟩
def q2 (pr : Prims) (R : Ending → World → Prop) : Exit → Env → World → Prop := fun ex e w => normQ ex (fun e w => contE pr cfg (sub (codeOf Try.f25) [1, 1, 1, 1]) (fun e w => wpC pr PP cfg (DD pr) (sub (codeOf Try.f25) [1, 1, 1, 1]) (retQ Try.f25.results.toList R) e w) e w) (retQ Try.f25.results.toList R) e w
def q3 (pr : Prims) (R : Ending → World → Prop) : Exit → Env → World → Prop := fun ex e w => blockQ ex 0 (q2 pr R) e w
def emb4 (text_0 : ByteArray) (out_3 : Sl) (h_4 : Int) (k_5 : Int) : Env := [(0, .string text_0), (3, Sl.v out_3), (4, vI h_4), (5, vI k_5)]
def x0 (out_3 : Sl) : Env := [(3, Sl.v out_3)]
def S4 (pr : Prims) (Q : Exit → Env → World → Prop) : (Env → World → Prop) → Env → World → Prop := fun k e w => wpC pr PP cfg (DD pr) (sub (codeOf Try.f25) [1, 1, 1, 0, 1, 0, 0]) (fun ex e w => normQ ex (fun e' w' => k (Env.restr e' (lookN cfg.loops (keyOf (sub (codeOf Try.f25) [1, 1, 1, 0, 1, 0, 0])))) w') Q e w) e w
def B4 (pr : Prims) (text_0 : ByteArray) (out_3 : Sl) (h_4 : Int) (k_5 : Int) (w : World) (k : Env → World → Prop) (Q : Exit → Env → World → Prop) : Prop :=
  S4 pr Q k (emb4 text_0 out_3 h_4 k_5) w
def L4 (pr : Prims) (text_0 : ByteArray) (out_3 : Sl) (h_4 : Int) (k_5 : Int) (w : World) (Q : Exit → Env → World → Prop) : Prop :=
  pr.loop (S4 pr Q) (emb4 text_0 out_3 h_4 k_5) w
def E (pr : Prims) (text_0 : ByteArray) (w : World) (R : Ending → World → Prop) : Prop :=
  wpC pr PP cfg (DD pr) (codeOf Try.f25) (retQ Try.f25.results.toList R) (argE 0 [.string text_0]) w
theorem B4_eq (pr : Prims) (text_0 : ByteArray) (out_3 : Sl) (h_4 : Int) (k_5 : Int) (w : World) (k : Env → World → Prop) (Q : Exit → Env → World → Prop) : B4 pr text_0 out_3 h_4 k_5 w k Q = (
  bif decide (k_5 < (text_0.size : Int)) then (
  pr.strIdxK text_0 k_5 fun (b4 : Int) =>
  pr.pcall1 (.int .i64) PP F.spec_l1Bit #[.bool (b4 == 85)] fun (r'5 : Int) =>
  pr.sem1 .sl PP (Instr.buildSlice T_Sint 1 #[(0, vI (w64 ((w64 (h_4 + (w64 (2 * r'5)))) - 1)))]) w fun (r'6 : Sl) w7 =>
  pr.sem1 .sl PP (Builtin.append_ #[T_Sint, T_Sint] T_Sint #[Sl.v out_3, Sl.v r'6]) w7 fun (r'8 : Sl) w9 =>
  k (emb4 text_0 r'8 (w64 ((w64 (h_4 + (w64 (2 * r'5)))) - 1)) (w64 (k_5 + 1))) w9)
  else (
  Q (.exit 0) (x0 out_3) w)) := by kernel_rfl
theorem B4_s (text_0 : ByteArray) (out_3 : Sl) (h_4 : Int) (k_5 : Int) (w : World) (k : Env → World → Prop) (Q : Exit → Env → World → Prop) : B4 std text_0 out_3 h_4 k_5 w k Q = (
  bif decide (k_5 < (text_0.size : Int)) then (
  strIdxK text_0 k_5 fun (b4 : Int) =>
  pcall1 (.int .i64) PP F.spec_l1Bit #[.bool (b4 == 85)] fun (r'5 : Int) =>
  sem1 .sl PP (Instr.buildSlice T_Sint 1 #[(0, vI (w64 ((w64 (h_4 + (w64 (2 * r'5)))) - 1)))]) w fun (r'6 : Sl) w7 =>
  sem1 .sl PP (Builtin.append_ #[T_Sint, T_Sint] T_Sint #[Sl.v out_3, Sl.v r'6]) w7 fun (r'8 : Sl) w9 =>
  k (emb4 text_0 r'8 (w64 ((w64 (h_4 + (w64 (2 * r'5)))) - 1)) (w64 (k_5 + 1))) w9)
  else (
  Q (.exit 0) (x0 out_3) w)) := B4_eq std text_0 out_3 h_4 k_5 w k Q
theorem L4_rule (text_0 : ByteArray) (out_3 : Sl) (h_4 : Int) (k_5 : Int) (w : World) (Q : Exit → Env → World → Prop) (I : Sl → Int → Int → World → Prop) (μ : Sl → Int → Int → World → Nat) (h0 : I out_3 h_4 k_5 w)
    (h : ∀ (out_3 : Sl) (h_4 : Int) (k_5 : Int) (w' : World), I out_3 h_4 k_5 w' → B4 std text_0 out_3 h_4 k_5 w' (fun e2 w2 => ∃ out_3_n h_4_n k_5_n, e2 = emb4 text_0 out_3_n h_4_n k_5_n ∧ I out_3_n h_4_n k_5_n w2 ∧ μ out_3_n h_4_n k_5_n w2 < μ out_3 h_4 k_5 w') Q) :
    L4 std text_0 out_3 h_4 k_5 w Q := by
  unfold L4
  refine LoopE.intro (σ := Sl × Int × Int) (step := S4 std Q) (fun s => emb4 text_0 s.1 s.2.1 s.2.2) (fun s w => I s.1 s.2.1 s.2.2 w) (fun s w => μ s.1 s.2.1 s.2.2 w) (out_3, h_4, k_5) rfl h0 ?_
  intro s w' hI
  have h1 := h s.1 s.2.1 s.2.2 w' hI
  unfold B4 at h1
  simp only [Prod.exists]
  exact h1
theorem A4_0_eq (pr : Prims) (out_3 : Sl) (w : World) (R : Ending → World → Prop) : (q3 pr R) (.exit 0) (x0 out_3) w = (
  R (.returned (Sl.v out_3)) w) := by kernel_rfl
theorem A4_0_s (out_3 : Sl) (w : World) (R : Ending → World → Prop) : (q3 std R) (.exit 0) (x0 out_3) w = (
  R (.returned (Sl.v out_3)) w) := A4_0_eq std out_3 w R
theorem E_eq (pr : Prims) (text_0 : ByteArray) (w : World) (R : Ending → World → Prop) : E pr text_0 w R = (
  pr.sem1 .sl PP (Instr.buildSlice T_Sint 0 #[]) w fun (r'0 : Sl) w1 =>
  L4 pr text_0 r'0 0 0 w1 (q3 pr R)) := by kernel_rfl
theorem E_s (text_0 : ByteArray) (w : World) (R : Ending → World → Prop) : E std text_0 w R = (
  sem1 .sl PP (Instr.buildSlice T_Sint 0 #[]) w fun (r'0 : Sl) w1 =>
  L4 std text_0 r'0 0 0 w1 (q3 std R)) := E_eq std text_0 w R
theorem drawsOk : drawsOk PP cfg okD (codeOf Try.f25) = true := by kernel_rfl
theorem calls (text_0 : ByteArray) {w : World} {R : Ending → World → Prop} (h : E std text_0 w R) : Calls PP F.spec_l18Heights #[.string text_0] w R :=
  calls_of noCount mixed drawOk Try.func25 rfl (c := cfg) (args := [.string text_0]) rfl (Nat.le_of_ble_eq_true (by kernel_rfl)) drawsOk h
end spec_l18Heights

namespace laws_FnExactFibonacciNumber
@[reducible] def cfg : Cfg := ⟨12, [], [], [], [2], [], [], [21, 26, 27]⟩
def E (pr : Prims) (aN_0 : Int) (w : World) (R : Ending → World → Prop) : Prop :=
  wpC pr PP cfg (DD pr) (codeOf Try.f3) (retQ Try.f3.results.toList R) (argE 0 [vI aN_0]) w
theorem E_eq (pr : Prims) (aN_0 : Int) (w : World) (R : Ending → World → Prop) : E pr aN_0 w R = (
  pr.call1 (.int .i64) PP F.spec_FibonacciNumber #[vI aN_0] w fun (r'0 : Int) w1 =>
  pr.call1 (.int .i64) PP F.impl_FibonacciNumber #[vI aN_0] w1 fun (r'2 : Int) w3 =>
  bif r'2 != r'0 then (
  R (.returned (.bool false)) w3)
  else (
  R (.returned (.bool true)) w3)) := by kernel_rfl
theorem E_s (aN_0 : Int) (w : World) (R : Ending → World → Prop) : E std aN_0 w R = (
  call1 (.int .i64) PP F.spec_FibonacciNumber #[vI aN_0] w fun (r'0 : Int) w1 =>
  call1 (.int .i64) PP F.impl_FibonacciNumber #[vI aN_0] w1 fun (r'2 : Int) w3 =>
  bif r'2 != r'0 then (
  R (.returned (.bool false)) w3)
  else (
  R (.returned (.bool true)) w3)) := E_eq std aN_0 w R
theorem drawsOk : drawsOk PP cfg okD (codeOf Try.f3) = true := by kernel_rfl
theorem calls (aN_0 : Int) {w : World} {R : Ending → World → Prop} (h : E std aN_0 w R) : Calls PP F.laws_FnExactFibonacciNumber #[vI aN_0] w R :=
  calls_of noCount mixed drawOk Try.func3 rfl (c := cfg) (args := [vI aN_0]) rfl (Nat.le_of_ble_eq_true (by kernel_rfl)) drawsOk h
end laws_FnExactFibonacciNumber

namespace laws_FnExactSchroederNumber
@[reducible] def cfg : Cfg := ⟨12, [], [], [], [2], [], [], [21, 26, 27]⟩
def E (pr : Prims) (aN_0 : Int) (w : World) (R : Ending → World → Prop) : Prop :=
  wpC pr PP cfg (DD pr) (codeOf Try.f4) (retQ Try.f4.results.toList R) (argE 0 [vI aN_0]) w
theorem E_eq (pr : Prims) (aN_0 : Int) (w : World) (R : Ending → World → Prop) : E pr aN_0 w R = (
  pr.call1 (.int .i64) PP F.spec_SchroederNumber #[vI aN_0] w fun (r'0 : Int) w1 =>
  pr.call1 (.int .i64) PP F.impl_SchroederNumber #[vI aN_0] w1 fun (r'2 : Int) w3 =>
  bif r'2 != r'0 then (
  R (.returned (.bool false)) w3)
  else (
  R (.returned (.bool true)) w3)) := by kernel_rfl
theorem E_s (aN_0 : Int) (w : World) (R : Ending → World → Prop) : E std aN_0 w R = (
  call1 (.int .i64) PP F.spec_SchroederNumber #[vI aN_0] w fun (r'0 : Int) w1 =>
  call1 (.int .i64) PP F.impl_SchroederNumber #[vI aN_0] w1 fun (r'2 : Int) w3 =>
  bif r'2 != r'0 then (
  R (.returned (.bool false)) w3)
  else (
  R (.returned (.bool true)) w3)) := E_eq std aN_0 w R
theorem drawsOk : drawsOk PP cfg okD (codeOf Try.f4) = true := by kernel_rfl
theorem calls (aN_0 : Int) {w : World} {R : Ending → World → Prop} (h : E std aN_0 w R) : Calls PP F.laws_FnExactSchroederNumber #[vI aN_0] w R :=
  calls_of noCount mixed drawOk Try.func4 rfl (c := cfg) (args := [vI aN_0]) rfl (Nat.le_of_ble_eq_true (by kernel_rfl)) drawsOk h
end laws_FnExactSchroederNumber

namespace laws_FnExactCatalanNumber
@[reducible] def cfg : Cfg := ⟨12, [], [], [], [2], [], [], [21, 26, 27]⟩
def E (pr : Prims) (aN_0 : Int) (w : World) (R : Ending → World → Prop) : Prop :=
  wpC pr PP cfg (DD pr) (codeOf Try.f5) (retQ Try.f5.results.toList R) (argE 0 [vI aN_0]) w
theorem E_eq (pr : Prims) (aN_0 : Int) (w : World) (R : Ending → World → Prop) : E pr aN_0 w R = (
  pr.call1 (.int .i64) PP F.spec_CatalanNumber #[vI aN_0] w fun (r'0 : Int) w1 =>
  pr.call1 (.int .i64) PP F.impl_CatalanNumber #[vI aN_0] w1 fun (r'2 : Int) w3 =>
  bif r'2 != r'0 then (
  R (.returned (.bool false)) w3)
  else (
  R (.returned (.bool true)) w3)) := by kernel_rfl
theorem E_s (aN_0 : Int) (w : World) (R : Ending → World → Prop) : E std aN_0 w R = (
  call1 (.int .i64) PP F.spec_CatalanNumber #[vI aN_0] w fun (r'0 : Int) w1 =>
  call1 (.int .i64) PP F.impl_CatalanNumber #[vI aN_0] w1 fun (r'2 : Int) w3 =>
  bif r'2 != r'0 then (
  R (.returned (.bool false)) w3)
  else (
  R (.returned (.bool true)) w3)) := E_eq std aN_0 w R
theorem drawsOk : drawsOk PP cfg okD (codeOf Try.f5) = true := by kernel_rfl
theorem calls (aN_0 : Int) {w : World} {R : Ending → World → Prop} (h : E std aN_0 w R) : Calls PP F.laws_FnExactCatalanNumber #[vI aN_0] w R :=
  calls_of noCount mixed drawOk Try.func5 rfl (c := cfg) (args := [vI aN_0]) rfl (Nat.le_of_ble_eq_true (by kernel_rfl)) drawsOk h
end laws_FnExactCatalanNumber

namespace laws_FnExactIsPath
@[reducible] def cfg : Cfg := ⟨15, [], [], [], [2], [], [], [21, 26, 27]⟩
def E (pr : Prims) (aText_0 : ByteArray) (w : World) (R : Ending → World → Prop) : Prop :=
  wpC pr PP cfg (DD pr) (codeOf Try.f6) (retQ Try.f6.results.toList R) (argE 0 [.string aText_0]) w
theorem E_eq (pr : Prims) (aText_0 : ByteArray) (w : World) (R : Ending → World → Prop) : E pr aText_0 w R = (
  bif decide ((aText_0.size : Int) > 1048576) then (
  R (.returned (.bool true)) w)
  else (
  pr.call1 .bool PP F.spec_IsPath #[.string aText_0] w fun (r'0 : Bool) w1 =>
  pr.call1 .bool PP F.impl_IsPath #[.string aText_0] w1 fun (r'2 : Bool) w3 =>
  bif !(r'2 == r'0) then (
  R (.returned (.bool false)) w3)
  else (
  R (.returned (.bool true)) w3))) := by kernel_rfl
theorem E_s (aText_0 : ByteArray) (w : World) (R : Ending → World → Prop) : E std aText_0 w R = (
  bif decide ((aText_0.size : Int) > 1048576) then (
  R (.returned (.bool true)) w)
  else (
  call1 .bool PP F.spec_IsPath #[.string aText_0] w fun (r'0 : Bool) w1 =>
  call1 .bool PP F.impl_IsPath #[.string aText_0] w1 fun (r'2 : Bool) w3 =>
  bif !(r'2 == r'0) then (
  R (.returned (.bool false)) w3)
  else (
  R (.returned (.bool true)) w3))) := E_eq std aText_0 w R
theorem drawsOk : drawsOk PP cfg okD (codeOf Try.f6) = true := by kernel_rfl
theorem calls (aText_0 : ByteArray) {w : World} {R : Ending → World → Prop} (h : E std aText_0 w R) : Calls PP F.laws_FnExactIsPath #[.string aText_0] w R :=
  calls_of noCount mixed drawOk Try.func6 rfl (c := cfg) (args := [.string aText_0]) rfl (Nat.le_of_ble_eq_true (by kernel_rfl)) drawsOk h
end laws_FnExactIsPath

namespace laws_FnExactCountReturns
@[reducible] def cfg : Cfg := ⟨15, [], [], [], [2], [], [], [21, 26, 27]⟩
def E (pr : Prims) (aText_0 : ByteArray) (w : World) (R : Ending → World → Prop) : Prop :=
  wpC pr PP cfg (DD pr) (codeOf Try.f7) (retQ Try.f7.results.toList R) (argE 0 [.string aText_0]) w
theorem E_eq (pr : Prims) (aText_0 : ByteArray) (w : World) (R : Ending → World → Prop) : E pr aText_0 w R = (
  bif decide ((aText_0.size : Int) > 1048576) then (
  R (.returned (.bool true)) w)
  else (
  pr.call1 (.int .i64) PP F.spec_CountReturns #[.string aText_0] w fun (r'0 : Int) w1 =>
  pr.call1 (.int .i64) PP F.impl_CountReturns #[.string aText_0] w1 fun (r'2 : Int) w3 =>
  bif r'2 != r'0 then (
  R (.returned (.bool false)) w3)
  else (
  R (.returned (.bool true)) w3))) := by kernel_rfl
theorem E_s (aText_0 : ByteArray) (w : World) (R : Ending → World → Prop) : E std aText_0 w R = (
  bif decide ((aText_0.size : Int) > 1048576) then (
  R (.returned (.bool true)) w)
  else (
  call1 (.int .i64) PP F.spec_CountReturns #[.string aText_0] w fun (r'0 : Int) w1 =>
  call1 (.int .i64) PP F.impl_CountReturns #[.string aText_0] w1 fun (r'2 : Int) w3 =>
  bif r'2 != r'0 then (
  R (.returned (.bool false)) w3)
  else (
  R (.returned (.bool true)) w3))) := E_eq std aText_0 w R
theorem drawsOk : drawsOk PP cfg okD (codeOf Try.f7) = true := by kernel_rfl
theorem calls (aText_0 : ByteArray) {w : World} {R : Ending → World → Prop} (h : E std aText_0 w R) : Calls PP F.laws_FnExactCountReturns #[.string aText_0] w R :=
  calls_of noCount mixed drawOk Try.func7 rfl (c := cfg) (args := [.string aText_0]) rfl (Nat.le_of_ble_eq_true (by kernel_rfl)) drawsOk h
end laws_FnExactCountReturns

namespace laws_FnExactPathHeight
@[reducible] def cfg : Cfg := ⟨15, [], [], [], [2], [], [], [21, 26, 27]⟩
def E (pr : Prims) (aText_0 : ByteArray) (w : World) (R : Ending → World → Prop) : Prop :=
  wpC pr PP cfg (DD pr) (codeOf Try.f8) (retQ Try.f8.results.toList R) (argE 0 [.string aText_0]) w
theorem E_eq (pr : Prims) (aText_0 : ByteArray) (w : World) (R : Ending → World → Prop) : E pr aText_0 w R = (
  bif decide ((aText_0.size : Int) > 1048576) then (
  R (.returned (.bool true)) w)
  else (
  pr.call1 (.int .i64) PP F.spec_PathHeight #[.string aText_0] w fun (r'0 : Int) w1 =>
  pr.call1 (.int .i64) PP F.impl_PathHeight #[.string aText_0] w1 fun (r'2 : Int) w3 =>
  bif r'2 != r'0 then (
  R (.returned (.bool false)) w3)
  else (
  R (.returned (.bool true)) w3))) := by kernel_rfl
theorem E_s (aText_0 : ByteArray) (w : World) (R : Ending → World → Prop) : E std aText_0 w R = (
  bif decide ((aText_0.size : Int) > 1048576) then (
  R (.returned (.bool true)) w)
  else (
  call1 (.int .i64) PP F.spec_PathHeight #[.string aText_0] w fun (r'0 : Int) w1 =>
  call1 (.int .i64) PP F.impl_PathHeight #[.string aText_0] w1 fun (r'2 : Int) w3 =>
  bif r'2 != r'0 then (
  R (.returned (.bool false)) w3)
  else (
  R (.returned (.bool true)) w3))) := E_eq std aText_0 w R
theorem drawsOk : drawsOk PP cfg okD (codeOf Try.f8) = true := by kernel_rfl
theorem calls (aText_0 : ByteArray) {w : World} {R : Ending → World → Prop} (h : E std aText_0 w R) : Calls PP F.laws_FnExactPathHeight #[.string aText_0] w R :=
  calls_of noCount mixed drawOk Try.func8 rfl (c := cfg) (args := [.string aText_0]) rfl (Nat.le_of_ble_eq_true (by kernel_rfl)) drawsOk h
end laws_FnExactPathHeight

end Go.Proofs.Ytjnikeemcbhmkaa
