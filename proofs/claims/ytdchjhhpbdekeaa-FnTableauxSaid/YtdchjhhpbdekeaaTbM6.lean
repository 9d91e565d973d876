/- The texts CodeIi in one (gmerge.py). -/
import Derived.Test.YtdchjhhpbdekeaaTbM5
/- What each function does, step by step, written by a program (Gen.lean); each equation is checked by the kernel. -/
namespace Go.Proofs.Ytdchjhhpbdekeaa
open Go
set_option linter.unusedVariables false
set_option maxRecDepth 100000
namespace impl_InsertPerm
@[reducible] def cfg : Cfg := ⟨85, [(8, [5, 6, 7, 8, 9, 16, 17, 18]), (5, [5, 6, 16, 17, 18])], [(3, [5, 6, 7, 8, 9, 16, 17, 18]), (2, [5, 6, 7, 8, 9, 16, 17, 18]), (1, [5, 6, 16, 17, 18]), (0, [5, 6])], [(15, [5, 6, 7, 8, 9, 16, 17, 18])], [2, 3, 4], [], [101, 107, 112, 15, 21, 124, 76, 137, 28, 115, 91, 81, 130], [138, 140, 82, 6, 86, 85, 132]⟩
def q6 (pr : Prims) (R : Ending → World → Prop) : Exit → Env → World → Prop := fun ex e w => normQ ex (fun e w => contE pr cfg (sub (codeOf Try.f48) [1, 1, 1, 1]) (fun e w => wpC pr PP cfg (DD pr) (sub (codeOf Try.f48) [1, 1, 1, 1]) (retQ Try.f48.results.toList R) e w) e w) (retQ Try.f48.results.toList R) e w
def q7 (pr : Prims) (R : Ending → World → Prop) : Exit → Env → World → Prop := fun ex e w => blockQ ex 0 (q6 pr R) e w
def q8 (pr : Prims) (k : Env → World → Prop) (Q : Exit → Env → World → Prop) : Exit → Env → World → Prop := fun ex e w => normQ ex (fun e w => contE pr cfg (sub (codeOf Try.f48) [1, 1, 1, 0, 1, 0, 0, 1, 1, 1]) (fun e w => wpC pr PP cfg (DD pr) (sub (codeOf Try.f48) [1, 1, 1, 0, 1, 0, 0, 1, 1, 1]) (fun ex e w => normQ ex (fun e' w' => k (Env.restr e' (lookN cfg.loops (keyOf (sub (codeOf Try.f48) [1, 1, 1, 0, 1, 0, 0])))) w') Q e w) e w) e w) (fun ex e w => normQ ex (fun e' w' => k (Env.restr e' (lookN cfg.loops (keyOf (sub (codeOf Try.f48) [1, 1, 1, 0, 1, 0, 0])))) w') Q e w) e w
def q9 (pr : Prims) (k : Env → World → Prop) (Q : Exit → Env → World → Prop) : Exit → Env → World → Prop := fun ex e w => blockQ ex 1 (q8 pr k Q) e w
def q15 (pr : Prims) (k : Env → World → Prop) (Q : Exit → Env → World → Prop) : Exit → Env → World → Prop := fun ex e w => normQ ex (fun e w => contE pr cfg (sub (codeOf Try.f48) [1, 1, 1, 0, 1, 0, 0, 1, 1, 0, 0, 1, 1, 1]) (fun e w => wpC pr PP cfg (DD pr) (sub (codeOf Try.f48) [1, 1, 1, 0, 1, 0, 0, 1, 1, 0, 0, 1, 1, 1]) (q9 pr k Q) e w) e w) (q9 pr k Q) e w
def q16 (pr : Prims) (k : Env → World → Prop) (Q : Exit → Env → World → Prop) : Exit → Env → World → Prop := fun ex e w => blockQ ex 2 (q15 pr k Q) e w
def q99 (pr : Prims) (k : Env → World → Prop) (Q : Exit → Env → World → Prop) : Exit → Env → World → Prop := fun ex e w => normQ ex (fun e w => contE pr cfg (sub (codeOf Try.f48) [1, 1, 1, 0, 1, 0, 0, 1, 1, 0, 0, 1, 1, 1, 1]) (fun e w => wpC pr PP cfg (DD pr) (sub (codeOf Try.f48) [1, 1, 1, 0, 1, 0, 0, 1, 1, 0, 0, 1, 1, 1, 1]) (q9 pr k Q) e w) e w) (q9 pr k Q) e w
def emb5 (a_5 : Sl) (b_6 : Sl) (t16 : Sl) (t17 : Int) (t18 : Int) : Env := [(5, Sl.v a_5), (6, Sl.v b_6), (16, Sl.v t16), (17, vI t17), (18, vI t18)]
def emb8 (a_5 : Sl) (b_6 : Sl) (i_7 : Int) (v_8 : Addr) (row_9 : Int) (t16 : Sl) (t17 : Int) (t18 : Int) : Env := [(5, Sl.v a_5), (6, Sl.v b_6), (7, vI i_7), (8, .pointer (some v_8)), (9, vI row_9), (16, Sl.v t16), (17, vI t17), (18, vI t18)]
def x2 (a_5 : Sl) (b_6 : Sl) (i_7 : Int) (v_8 : Addr) (row_9 : Int) (t16 : Sl) (t17 : Int) (t18 : Int) : Env := [(5, Sl.v a_5), (6, Sl.v b_6), (7, vI i_7), (8, .pointer (some v_8)), (9, vI row_9), (16, Sl.v t16), (17, vI t17), (18, vI t18)]
def j15 (a_5 : Sl) (b_6 : Sl) (i_7 : Int) (v_8 : Addr) (row_9 : Int) (t16 : Sl) (t17 : Int) (t18 : Int) : Env := [(5, Sl.v a_5), (6, Sl.v b_6), (7, vI i_7), (8, .pointer (some v_8)), (9, vI row_9), (16, Sl.v t16), (17, vI t17), (18, vI t18)]
def x0 (a_5 : Sl) (b_6 : Sl) : Env := [(5, Sl.v a_5), (6, Sl.v b_6)]
def S8 (pr : Prims) (Q : Exit → Env → World → Prop) : (Env → World → Prop) → Env → World → Prop := fun k e w => wpC pr PP cfg (DD pr) (sub (codeOf Try.f48) [1, 1, 1, 0, 1, 0, 0, 1, 1, 0, 0, 1, 1, 0, 0, 0]) (fun ex e w => normQ ex (fun e' w' => k (Env.restr e' (lookN cfg.loops (keyOf (sub (codeOf Try.f48) [1, 1, 1, 0, 1, 0, 0, 1, 1, 0, 0, 1, 1, 0, 0, 0])))) w') Q e w) e w
def S5 (pr : Prims) (Q : Exit → Env → World → Prop) : (Env → World → Prop) → Env → World → Prop := fun k e w => wpC pr PP cfg (DD pr) (sub (codeOf Try.f48) [1, 1, 1, 0, 1, 0, 0]) (fun ex e w => normQ ex (fun e' w' => k (Env.restr e' (lookN cfg.loops (keyOf (sub (codeOf Try.f48) [1, 1, 1, 0, 1, 0, 0])))) w') Q e w) e w
def B8 (pr : Prims) (a_5 : Sl) (b_6 : Sl) (i_7 : Int) (v_8 : Addr) (row_9 : Int) (t16 : Sl) (t17 : Int) (t18 : Int) (w : World) (k : Env → World → Prop) (Q : Exit → Env → World → Prop) : Prop :=
  S8 pr Q k (emb8 a_5 b_6 i_7 v_8 row_9 t16 t17 t18) w
def L8 (pr : Prims) (a_5 : Sl) (b_6 : Sl) (i_7 : Int) (v_8 : Addr) (row_9 : Int) (t16 : Sl) (t17 : Int) (t18 : Int) (w : World) (Q : Exit → Env → World → Prop) : Prop :=
  pr.loop (S8 pr Q) (emb8 a_5 b_6 i_7 v_8 row_9 t16 t17 t18) w
def J15 (pr : Prims) (a_5 : Sl) (b_6 : Sl) (i_7 : Int) (v_8 : Addr) (row_9 : Int) (t16 : Sl) (t17 : Int) (t18 : Int) (w : World) (k : Env → World → Prop) (Q : Exit → Env → World → Prop) : Prop :=
  pr.seg (fun e w => wpC pr PP cfg (DD pr) (sub (codeOf Try.f48) [1, 1, 1, 0, 1, 0, 0, 1, 1, 0, 0, 1, 1, 1, 1]) (q9 pr k Q) e w) (j15 a_5 b_6 i_7 v_8 row_9 t16 t17 t18) w
def B5 (pr : Prims) (a_5 : Sl) (b_6 : Sl) (t16 : Sl) (t17 : Int) (t18 : Int) (w : World) (k : Env → World → Prop) (Q : Exit → Env → World → Prop) : Prop :=
  S5 pr Q k (emb5 a_5 b_6 t16 t17 t18) w
def L5 (pr : Prims) (a_5 : Sl) (b_6 : Sl) (t16 : Sl) (t17 : Int) (t18 : Int) (w : World) (Q : Exit → Env → World → Prop) : Prop :=
  pr.loop (S5 pr Q) (emb5 a_5 b_6 t16 t17 t18) w
def E (pr : Prims) (p_0 : Sl) (w : World) (R : Ending → World → Prop) : Prop :=
  wpC pr PP cfg (DD pr) (codeOf Try.f48) (retQ Try.f48.results.toList R) (argE 0 [Sl.v p_0]) w
theorem B8_eq (pr : Prims) (a_5 : Sl) (b_6 : Sl) (i_7 : Int) (v_8 : Addr) (row_9 : Int) (t16 : Sl) (t17 : Int) (t18 : Int) (w : World) (k : Env → World → Prop) (Q : Exit → Env → World → Prop) : B8 pr a_5 b_6 i_7 v_8 row_9 t16 t17 t18 w k Q = (
  bif decide (row_9 < (a_5.n : Int)) then (
  pr.idxK 1 a_5 row_9 fun (a17 : Addr) =>
  pr.load1 .sl a17 w fun (ξ18 : Sl) =>
  pr.call1 (.int .i64) PP F.slices_IndexFunc___int_int_ #[Sl.v ξ18, (.func (.func F.impl_InsertPermL1) #[] #[.pointer (some v_8)])] w fun (ρ19 : Int) ω20 =>
  bif decide (ρ19 < 0) then (
  Q (.exit 2) (x2 a_5 b_6 i_7 v_8 row_9 t16 t17 t18) ω20)
  else (
  pr.drewAll ω20 fun ω21 =>
  pr.idxK 1 a_5 row_9 fun (a22 : Addr) =>
  pr.idxK 1 a_5 row_9 fun (a23 : Addr) =>
  (pr.load1 .sl a22 ω21 fun (ξ24 : Sl) =>
  (pr.load1 (.int .i64) v_8 ω21 fun (ξ25 : Int) =>
  pr.load1 .sl a23 ω21 fun (ξ26 : Sl) =>
  pr.idxK 1 ξ26 ρ19 fun (a27 : Addr) =>
  pr.load1 (.int .i64) a27 ω21 fun (ξ28 : Int) =>
  pr.idxK 1 ξ24 ρ19 fun (a29 : Addr) =>
  pr.storeC a29 (vI ξ25) ω21 fun ω30 =>
  pr.storeC v_8 (vI ξ28) ω30 fun ω31 =>
  k (emb8 a_5 b_6 i_7 v_8 (w64 (row_9 + 1)) t16 t17 t18) ω31) ∧
  (pr.load1 .sl a23 ω21 fun (ξ32 : Sl) =>
  pr.idxK 1 ξ32 ρ19 fun (a33 : Addr) =>
  (pr.load1 (.int .i64) v_8 ω21 fun (ξ34 : Int) =>
  pr.load1 (.int .i64) a33 ω21 fun (ξ35 : Int) =>
  pr.idxK 1 ξ24 ρ19 fun (a36 : Addr) =>
  pr.storeC a36 (vI ξ34) ω21 fun ω37 =>
  pr.storeC v_8 (vI ξ35) ω37 fun ω38 =>
  k (emb8 a_5 b_6 i_7 v_8 (w64 (row_9 + 1)) t16 t17 t18) ω38) ∧
  (pr.load1 (.int .i64) a33 ω21 fun (ξ39 : Int) =>
  pr.load1 (.int .i64) v_8 ω21 fun (ξ40 : Int) =>
  pr.idxK 1 ξ24 ρ19 fun (a41 : Addr) =>
  pr.storeC a41 (vI ξ40) ω21 fun ω42 =>
  pr.storeC v_8 (vI ξ39) ω42 fun ω43 =>
  k (emb8 a_5 b_6 i_7 v_8 (w64 (row_9 + 1)) t16 t17 t18) ω43))) ∧
  (pr.load1 (.int .i64) v_8 ω21 fun (ξ44 : Int) =>
  (pr.load1 .sl a22 ω21 fun (ξ45 : Sl) =>
  pr.load1 .sl a23 ω21 fun (ξ46 : Sl) =>
  pr.idxK 1 ξ46 ρ19 fun (a47 : Addr) =>
  pr.load1 (.int .i64) a47 ω21 fun (ξ48 : Int) =>
  pr.idxK 1 ξ45 ρ19 fun (a49 : Addr) =>
  pr.storeC a49 (vI ξ44) ω21 fun ω50 =>
  pr.storeC v_8 (vI ξ48) ω50 fun ω51 =>
  k (emb8 a_5 b_6 i_7 v_8 (w64 (row_9 + 1)) t16 t17 t18) ω51) ∧
  (pr.load1 .sl a23 ω21 fun (ξ52 : Sl) =>
  pr.idxK 1 ξ52 ρ19 fun (a53 : Addr) =>
  (pr.load1 .sl a22 ω21 fun (ξ54 : Sl) =>
  pr.load1 (.int .i64) a53 ω21 fun (ξ55 : Int) =>
  pr.idxK 1 ξ54 ρ19 fun (a56 : Addr) =>
  pr.storeC a56 (vI ξ44) ω21 fun ω57 =>
  pr.storeC v_8 (vI ξ55) ω57 fun ω58 =>
  k (emb8 a_5 b_6 i_7 v_8 (w64 (row_9 + 1)) t16 t17 t18) ω58) ∧
  (pr.load1 (.int .i64) a53 ω21 fun (ξ59 : Int) =>
  pr.load1 .sl a22 ω21 fun (ξ60 : Sl) =>
  pr.idxK 1 ξ60 ρ19 fun (a61 : Addr) =>
  pr.storeC a61 (vI ξ44) ω21 fun ω62 =>
  pr.storeC v_8 (vI ξ59) ω62 fun ω63 =>
  k (emb8 a_5 b_6 i_7 v_8 (w64 (row_9 + 1)) t16 t17 t18) ω63))) ∧
  (pr.load1 .sl a23 ω21 fun (ξ64 : Sl) =>
  pr.idxK 1 ξ64 ρ19 fun (a65 : Addr) =>
  (pr.load1 .sl a22 ω21 fun (ξ66 : Sl) =>
  (pr.load1 (.int .i64) v_8 ω21 fun (ξ67 : Int) =>
  pr.load1 (.int .i64) a65 ω21 fun (ξ68 : Int) =>
  pr.idxK 1 ξ66 ρ19 fun (a69 : Addr) =>
  pr.storeC a69 (vI ξ67) ω21 fun ω70 =>
  pr.storeC v_8 (vI ξ68) ω70 fun ω71 =>
  k (emb8 a_5 b_6 i_7 v_8 (w64 (row_9 + 1)) t16 t17 t18) ω71) ∧
  (pr.load1 (.int .i64) a65 ω21 fun (ξ72 : Int) =>
  pr.load1 (.int .i64) v_8 ω21 fun (ξ73 : Int) =>
  pr.idxK 1 ξ66 ρ19 fun (a74 : Addr) =>
  pr.storeC a74 (vI ξ73) ω21 fun ω75 =>
  pr.storeC v_8 (vI ξ72) ω75 fun ω76 =>
  k (emb8 a_5 b_6 i_7 v_8 (w64 (row_9 + 1)) t16 t17 t18) ω76)) ∧
  (pr.load1 (.int .i64) v_8 ω21 fun (ξ77 : Int) =>
  (pr.load1 .sl a22 ω21 fun (ξ78 : Sl) =>
  pr.load1 (.int .i64) a65 ω21 fun (ξ79 : Int) =>
  pr.idxK 1 ξ78 ρ19 fun (a80 : Addr) =>
  pr.storeC a80 (vI ξ77) ω21 fun ω81 =>
  pr.storeC v_8 (vI ξ79) ω81 fun ω82 =>
  k (emb8 a_5 b_6 i_7 v_8 (w64 (row_9 + 1)) t16 t17 t18) ω82) ∧
  (pr.load1 (.int .i64) a65 ω21 fun (ξ83 : Int) =>
  pr.load1 .sl a22 ω21 fun (ξ84 : Sl) =>
  pr.idxK 1 ξ84 ρ19 fun (a85 : Addr) =>
  pr.storeC a85 (vI ξ77) ω21 fun ω86 =>
  pr.storeC v_8 (vI ξ83) ω86 fun ω87 =>
  k (emb8 a_5 b_6 i_7 v_8 (w64 (row_9 + 1)) t16 t17 t18) ω87)) ∧
  (pr.load1 (.int .i64) a65 ω21 fun (ξ88 : Int) =>
  (pr.load1 .sl a22 ω21 fun (ξ89 : Sl) =>
  pr.load1 (.int .i64) v_8 ω21 fun (ξ90 : Int) =>
  pr.idxK 1 ξ89 ρ19 fun (a91 : Addr) =>
  pr.storeC a91 (vI ξ90) ω21 fun ω92 =>
  pr.storeC v_8 (vI ξ88) ω92 fun ω93 =>
  k (emb8 a_5 b_6 i_7 v_8 (w64 (row_9 + 1)) t16 t17 t18) ω93) ∧
  (pr.load1 (.int .i64) v_8 ω21 fun (ξ94 : Int) =>
  pr.load1 .sl a22 ω21 fun (ξ95 : Sl) =>
  pr.idxK 1 ξ95 ρ19 fun (a96 : Addr) =>
  pr.storeC a96 (vI ξ94) ω21 fun ω97 =>
  pr.storeC v_8 (vI ξ88) ω97 fun ω98 =>
  k (emb8 a_5 b_6 i_7 v_8 (w64 (row_9 + 1)) t16 t17 t18) ω98)))))
  else (
  Q (.exit 2) (x2 a_5 b_6 i_7 v_8 row_9 t16 t17 t18) w)) := by kernel_rfl
theorem B8_s (a_5 : Sl) (b_6 : Sl) (i_7 : Int) (v_8 : Addr) (row_9 : Int) (t16 : Sl) (t17 : Int) (t18 : Int) (w : World) (k : Env → World → Prop) (Q : Exit → Env → World → Prop) : B8 std a_5 b_6 i_7 v_8 row_9 t16 t17 t18 w k Q = (
  bif decide (row_9 < (a_5.n : Int)) then (
  idxK 1 a_5 row_9 fun (a17 : Addr) =>
  load1 .sl a17 w fun (ξ18 : Sl) =>
  call1 (.int .i64) PP F.slices_IndexFunc___int_int_ #[Sl.v ξ18, (.func (.func F.impl_InsertPermL1) #[] #[.pointer (some v_8)])] w fun (ρ19 : Int) ω20 =>
  bif decide (ρ19 < 0) then (
  Q (.exit 2) (x2 a_5 b_6 i_7 v_8 row_9 t16 t17 t18) ω20)
  else (
  drewAll ω20 fun ω21 =>
  idxK 1 a_5 row_9 fun (a22 : Addr) =>
  idxK 1 a_5 row_9 fun (a23 : Addr) =>
  (load1 .sl a22 ω21 fun (ξ24 : Sl) =>
  (load1 (.int .i64) v_8 ω21 fun (ξ25 : Int) =>
  load1 .sl a23 ω21 fun (ξ26 : Sl) =>
  idxK 1 ξ26 ρ19 fun (a27 : Addr) =>
  load1 (.int .i64) a27 ω21 fun (ξ28 : Int) =>
  idxK 1 ξ24 ρ19 fun (a29 : Addr) =>
  storeC a29 (vI ξ25) ω21 fun ω30 =>
  storeC v_8 (vI ξ28) ω30 fun ω31 =>
  k (emb8 a_5 b_6 i_7 v_8 (w64 (row_9 + 1)) t16 t17 t18) ω31) ∧
  (load1 .sl a23 ω21 fun (ξ32 : Sl) =>
  idxK 1 ξ32 ρ19 fun (a33 : Addr) =>
  (load1 (.int .i64) v_8 ω21 fun (ξ34 : Int) =>
  load1 (.int .i64) a33 ω21 fun (ξ35 : Int) =>
  idxK 1 ξ24 ρ19 fun (a36 : Addr) =>
  storeC a36 (vI ξ34) ω21 fun ω37 =>
  storeC v_8 (vI ξ35) ω37 fun ω38 =>
  k (emb8 a_5 b_6 i_7 v_8 (w64 (row_9 + 1)) t16 t17 t18) ω38) ∧
  (load1 (.int .i64) a33 ω21 fun (ξ39 : Int) =>
  load1 (.int .i64) v_8 ω21 fun (ξ40 : Int) =>
  idxK 1 ξ24 ρ19 fun (a41 : Addr) =>
  storeC a41 (vI ξ40) ω21 fun ω42 =>
  storeC v_8 (vI ξ39) ω42 fun ω43 =>
  k (emb8 a_5 b_6 i_7 v_8 (w64 (row_9 + 1)) t16 t17 t18) ω43))) ∧
  (load1 (.int .i64) v_8 ω21 fun (ξ44 : Int) =>
  (load1 .sl a22 ω21 fun (ξ45 : Sl) =>
  load1 .sl a23 ω21 fun (ξ46 : Sl) =>
  idxK 1 ξ46 ρ19 fun (a47 : Addr) =>
  load1 (.int .i64) a47 ω21 fun (ξ48 : Int) =>
  idxK 1 ξ45 ρ19 fun (a49 : Addr) =>
  storeC a49 (vI ξ44) ω21 fun ω50 =>
  storeC v_8 (vI ξ48) ω50 fun ω51 =>
  k (emb8 a_5 b_6 i_7 v_8 (w64 (row_9 + 1)) t16 t17 t18) ω51) ∧
  (load1 .sl a23 ω21 fun (ξ52 : Sl) =>
  idxK 1 ξ52 ρ19 fun (a53 : Addr) =>
  (load1 .sl a22 ω21 fun (ξ54 : Sl) =>
  load1 (.int .i64) a53 ω21 fun (ξ55 : Int) =>
  idxK 1 ξ54 ρ19 fun (a56 : Addr) =>
  storeC a56 (vI ξ44) ω21 fun ω57 =>
  storeC v_8 (vI ξ55) ω57 fun ω58 =>
  k (emb8 a_5 b_6 i_7 v_8 (w64 (row_9 + 1)) t16 t17 t18) ω58) ∧
  (load1 (.int .i64) a53 ω21 fun (ξ59 : Int) =>
  load1 .sl a22 ω21 fun (ξ60 : Sl) =>
  idxK 1 ξ60 ρ19 fun (a61 : Addr) =>
  storeC a61 (vI ξ44) ω21 fun ω62 =>
  storeC v_8 (vI ξ59) ω62 fun ω63 =>
  k (emb8 a_5 b_6 i_7 v_8 (w64 (row_9 + 1)) t16 t17 t18) ω63))) ∧
  (load1 .sl a23 ω21 fun (ξ64 : Sl) =>
  idxK 1 ξ64 ρ19 fun (a65 : Addr) =>
  (load1 .sl a22 ω21 fun (ξ66 : Sl) =>
  (load1 (.int .i64) v_8 ω21 fun (ξ67 : Int) =>
  load1 (.int .i64) a65 ω21 fun (ξ68 : Int) =>
  idxK 1 ξ66 ρ19 fun (a69 : Addr) =>
  storeC a69 (vI ξ67) ω21 fun ω70 =>
  storeC v_8 (vI ξ68) ω70 fun ω71 =>
  k (emb8 a_5 b_6 i_7 v_8 (w64 (row_9 + 1)) t16 t17 t18) ω71) ∧
  (load1 (.int .i64) a65 ω21 fun (ξ72 : Int) =>
  load1 (.int .i64) v_8 ω21 fun (ξ73 : Int) =>
  idxK 1 ξ66 ρ19 fun (a74 : Addr) =>
  storeC a74 (vI ξ73) ω21 fun ω75 =>
  storeC v_8 (vI ξ72) ω75 fun ω76 =>
  k (emb8 a_5 b_6 i_7 v_8 (w64 (row_9 + 1)) t16 t17 t18) ω76)) ∧
  (load1 (.int .i64) v_8 ω21 fun (ξ77 : Int) =>
  (load1 .sl a22 ω21 fun (ξ78 : Sl) =>
  load1 (.int .i64) a65 ω21 fun (ξ79 : Int) =>
  idxK 1 ξ78 ρ19 fun (a80 : Addr) =>
  storeC a80 (vI ξ77) ω21 fun ω81 =>
  storeC v_8 (vI ξ79) ω81 fun ω82 =>
  k (emb8 a_5 b_6 i_7 v_8 (w64 (row_9 + 1)) t16 t17 t18) ω82) ∧
  (load1 (.int .i64) a65 ω21 fun (ξ83 : Int) =>
  load1 .sl a22 ω21 fun (ξ84 : Sl) =>
  idxK 1 ξ84 ρ19 fun (a85 : Addr) =>
  storeC a85 (vI ξ77) ω21 fun ω86 =>
  storeC v_8 (vI ξ83) ω86 fun ω87 =>
  k (emb8 a_5 b_6 i_7 v_8 (w64 (row_9 + 1)) t16 t17 t18) ω87)) ∧
  (load1 (.int .i64) a65 ω21 fun (ξ88 : Int) =>
  (load1 .sl a22 ω21 fun (ξ89 : Sl) =>
  load1 (.int .i64) v_8 ω21 fun (ξ90 : Int) =>
  idxK 1 ξ89 ρ19 fun (a91 : Addr) =>
  storeC a91 (vI ξ90) ω21 fun ω92 =>
  storeC v_8 (vI ξ88) ω92 fun ω93 =>
  k (emb8 a_5 b_6 i_7 v_8 (w64 (row_9 + 1)) t16 t17 t18) ω93) ∧
  (load1 (.int .i64) v_8 ω21 fun (ξ94 : Int) =>
  load1 .sl a22 ω21 fun (ξ95 : Sl) =>
  idxK 1 ξ95 ρ19 fun (a96 : Addr) =>
  storeC a96 (vI ξ94) ω21 fun ω97 =>
  storeC v_8 (vI ξ88) ω97 fun ω98 =>
  k (emb8 a_5 b_6 i_7 v_8 (w64 (row_9 + 1)) t16 t17 t18) ω98)))))
  else (
  Q (.exit 2) (x2 a_5 b_6 i_7 v_8 row_9 t16 t17 t18) w)) := B8_eq std a_5 b_6 i_7 v_8 row_9 t16 t17 t18 w k Q
theorem L8_rule (a_5 : Sl) (b_6 : Sl) (i_7 : Int) (v_8 : Addr) (row_9 : Int) (t16 : Sl) (t17 : Int) (t18 : Int) (w : World) (Q : Exit → Env → World → Prop) (I : Int → World → Prop) (μ : Int → World → Nat) (h0 : I row_9 w)
    (h : ∀ (row_9 : Int) (w' : World), I row_9 w' → B8 std a_5 b_6 i_7 v_8 row_9 t16 t17 t18 w' (fun e2 w2 => ∃ row_9_n, e2 = emb8 a_5 b_6 i_7 v_8 row_9_n t16 t17 t18 ∧ I row_9_n w2 ∧ μ row_9_n w2 < μ row_9 w') Q) :
    L8 std a_5 b_6 i_7 v_8 row_9 t16 t17 t18 w Q := by
  unfold L8
  refine LoopE.intro (σ := Int) (step := S8 std Q) (fun s => emb8 a_5 b_6 i_7 v_8 s t16 t17 t18) (fun s w => I s w) (fun s w => μ s w) row_9 rfl h0 ?_
  intro s w' hI
  have h1 := h s w' hI
  unfold B8 at h1
  exact h1
theorem J15_gen (pr : Prims) (a_5 : Sl) (b_6 : Sl) (i_7 : Int) (v_8 : Addr) (row_9 : Int) (t16 : Sl) (t17 : Int) (t18 : Int) (w : World) (k : Env → World → Prop) (Q : Exit → Env → World → Prop) : wpC pr PP cfg (DD pr) (sub (codeOf Try.f48) [1, 1, 1, 0, 1, 0, 0, 1, 1, 0, 0, 1, 1, 1, 1]) (q9 pr k Q) (j15 a_5 b_6 i_7 v_8 row_9 t16 t17 t18) w = (
  pr.drewAll w fun ω108 =>
  pr.idxK 1 a_5 row_9 fun (a109 : Addr) =>
  pr.idxK 1 b_6 row_9 fun (a110 : Addr) =>
  (pr.load1 .sl a109 ω108 fun (ξ111 : Sl) =>
  (pr.load1 (.int .i64) v_8 ω108 fun (ξ112 : Int) =>
  (pr.sem1 .sl PP (Instr.buildSlice T_Sint 1 #[(0, vI ξ112)]) ω108 fun (ρ113 : Sl) ω114 =>
  (pr.sem1 .sl PP (Builtin.append_ #[T_Sint, T_Sint] T_Sint #[Sl.v ξ111, Sl.v ρ113]) ω114 fun (ρ115 : Sl) ω116 =>
  (pr.load1 .sl a110 ω116 fun (ξ117 : Sl) =>
  pr.sem1 .sl PP (Instr.buildSlice T_Sint 1 #[(0, vI (w64 (i_7 + 1)))]) ω116 fun (ρ118 : Sl) ω119 =>
  pr.sem1 .sl PP (Builtin.append_ #[T_Sint, T_Sint] T_Sint #[Sl.v ξ117, Sl.v ρ118]) ω119 fun (ρ120 : Sl) ω121 =>
  pr.idxK 1 a_5 row_9 fun (a122 : Addr) =>
  pr.storeC a122 (Sl.v ρ115) ω121 fun ω123 =>
  pr.idxK 1 b_6 row_9 fun (a124 : Addr) =>
  pr.storeC a124 (Sl.v ρ120) ω123 fun ω125 =>
  k (emb5 a_5 b_6 t16 t17 (w64 (t18 + 1))) ω125) ∧
  (pr.sem1 .sl PP (Instr.buildSlice T_Sint 1 #[(0, vI (w64 (i_7 + 1)))]) ω116 fun (ρ126 : Sl) ω127 =>
  pr.load1 .sl a110 ω127 fun (ξ128 : Sl) =>
  pr.sem1 .sl PP (Builtin.append_ #[T_Sint, T_Sint] T_Sint #[Sl.v ξ128, Sl.v ρ126]) ω127 fun (ρ129 : Sl) ω130 =>
  pr.idxK 1 a_5 row_9 fun (a131 : Addr) =>
  pr.storeC a131 (Sl.v ρ115) ω130 fun ω132 =>
  pr.idxK 1 b_6 row_9 fun (a133 : Addr) =>
  pr.storeC a133 (Sl.v ρ129) ω132 fun ω134 =>
  k (emb5 a_5 b_6 t16 t17 (w64 (t18 + 1))) ω134)) ∧
  (pr.load1 .sl a110 ω114 fun (ξ135 : Sl) =>
  (pr.sem1 .sl PP (Builtin.append_ #[T_Sint, T_Sint] T_Sint #[Sl.v ξ111, Sl.v ρ113]) ω114 fun (ρ136 : Sl) ω137 =>
  pr.sem1 .sl PP (Instr.buildSlice T_Sint 1 #[(0, vI (w64 (i_7 + 1)))]) ω137 fun (ρ138 : Sl) ω139 =>
  pr.sem1 .sl PP (Builtin.append_ #[T_Sint, T_Sint] T_Sint #[Sl.v ξ135, Sl.v ρ138]) ω139 fun (ρ140 : Sl) ω141 =>
  pr.idxK 1 a_5 row_9 fun (a142 : Addr) =>
  pr.storeC a142 (Sl.v ρ136) ω141 fun ω143 =>
  pr.idxK 1 b_6 row_9 fun (a144 : Addr) =>
  pr.storeC a144 (Sl.v ρ140) ω143 fun ω145 =>
  k (emb5 a_5 b_6 t16 t17 (w64 (t18 + 1))) ω145) ∧
  (pr.sem1 .sl PP (Instr.buildSlice T_Sint 1 #[(0, vI (w64 (i_7 + 1)))]) ω114 fun (ρ146 : Sl) ω147 =>
  pr.sem1 .sl PP (Builtin.append_ #[T_Sint, T_Sint] T_Sint #[Sl.v ξ111, Sl.v ρ113]) ω147 fun (ρ148 : Sl) ω149 =>
  pr.sem1 .sl PP (Builtin.append_ #[T_Sint, T_Sint] T_Sint #[Sl.v ξ135, Sl.v ρ146]) ω149 fun (ρ150 : Sl) ω151 =>
  pr.idxK 1 a_5 row_9 fun (a152 : Addr) =>
  pr.storeC a152 (Sl.v ρ148) ω151 fun ω153 =>
  pr.idxK 1 b_6 row_9 fun (a154 : Addr) =>
  pr.storeC a154 (Sl.v ρ150) ω153 fun ω155 =>
  k (emb5 a_5 b_6 t16 t17 (w64 (t18 + 1))) ω155)) ∧
  (pr.sem1 .sl PP (Instr.buildSlice T_Sint 1 #[(0, vI (w64 (i_7 + 1)))]) ω114 fun (ρ156 : Sl) ω157 =>
  (pr.sem1 .sl PP (Builtin.append_ #[T_Sint, T_Sint] T_Sint #[Sl.v ξ111, Sl.v ρ113]) ω157 fun (ρ158 : Sl) ω159 =>
  pr.load1 .sl a110 ω159 fun (ξ160 : Sl) =>
  pr.sem1 .sl PP (Builtin.append_ #[T_Sint, T_Sint] T_Sint #[Sl.v ξ160, Sl.v ρ156]) ω159 fun (ρ161 : Sl) ω162 =>
  pr.idxK 1 a_5 row_9 fun (a163 : Addr) =>
  pr.storeC a163 (Sl.v ρ158) ω162 fun ω164 =>
  pr.idxK 1 b_6 row_9 fun (a165 : Addr) =>
  pr.storeC a165 (Sl.v ρ161) ω164 fun ω166 =>
  k (emb5 a_5 b_6 t16 t17 (w64 (t18 + 1))) ω166) ∧
  (pr.load1 .sl a110 ω157 fun (ξ167 : Sl) =>
  pr.sem1 .sl PP (Builtin.append_ #[T_Sint, T_Sint] T_Sint #[Sl.v ξ111, Sl.v ρ113]) ω157 fun (ρ168 : Sl) ω169 =>
  pr.sem1 .sl PP (Builtin.append_ #[T_Sint, T_Sint] T_Sint #[Sl.v ξ167, Sl.v ρ156]) ω169 fun (ρ170 : Sl) ω171 =>
  pr.idxK 1 a_5 row_9 fun (a172 : Addr) =>
  pr.storeC a172 (Sl.v ρ168) ω171 fun ω173 =>
  pr.idxK 1 b_6 row_9 fun (a174 : Addr) =>
  pr.storeC a174 (Sl.v ρ170) ω173 fun ω175 =>
  k (emb5 a_5 b_6 t16 t17 (w64 (t18 + 1))) ω175))) ∧
  (pr.load1 .sl a110 ω108 fun (ξ176 : Sl) =>
  (pr.sem1 .sl PP (Instr.buildSlice T_Sint 1 #[(0, vI ξ112)]) ω108 fun (ρ177 : Sl) ω178 =>
  (pr.sem1 .sl PP (Builtin.append_ #[T_Sint, T_Sint] T_Sint #[Sl.v ξ111, Sl.v ρ177]) ω178 fun (ρ179 : Sl) ω180 =>
  pr.sem1 .sl PP (Instr.buildSlice T_Sint 1 #[(0, vI (w64 (i_7 + 1)))]) ω180 fun (ρ181 : Sl) ω182 =>
  pr.sem1 .sl PP (Builtin.append_ #[T_Sint, T_Sint] T_Sint #[Sl.v ξ176, Sl.v ρ181]) ω182 fun (ρ183 : Sl) ω184 =>
  pr.idxK 1 a_5 row_9 fun (a185 : Addr) =>
  pr.storeC a185 (Sl.v ρ179) ω184 fun ω186 =>
  pr.idxK 1 b_6 row_9 fun (a187 : Addr) =>
  pr.storeC a187 (Sl.v ρ183) ω186 fun ω188 =>
  k (emb5 a_5 b_6 t16 t17 (w64 (t18 + 1))) ω188) ∧
  (pr.sem1 .sl PP (Instr.buildSlice T_Sint 1 #[(0, vI (w64 (i_7 + 1)))]) ω178 fun (ρ189 : Sl) ω190 =>
  pr.sem1 .sl PP (Builtin.append_ #[T_Sint, T_Sint] T_Sint #[Sl.v ξ111, Sl.v ρ177]) ω190 fun (ρ191 : Sl) ω192 =>
  pr.sem1 .sl PP (Builtin.append_ #[T_Sint, T_Sint] T_Sint #[Sl.v ξ176, Sl.v ρ189]) ω192 fun (ρ193 : Sl) ω194 =>
  pr.idxK 1 a_5 row_9 fun (a195 : Addr) =>
  pr.storeC a195 (Sl.v ρ191) ω194 fun ω196 =>
  pr.idxK 1 b_6 row_9 fun (a197 : Addr) =>
  pr.storeC a197 (Sl.v ρ193) ω196 fun ω198 =>
  k (emb5 a_5 b_6 t16 t17 (w64 (t18 + 1))) ω198)) ∧
  (pr.sem1 .sl PP (Instr.buildSlice T_Sint 1 #[(0, vI (w64 (i_7 + 1)))]) ω108 fun (ρ199 : Sl) ω200 =>
  pr.sem1 .sl PP (Instr.buildSlice T_Sint 1 #[(0, vI ξ112)]) ω200 fun (ρ201 : Sl) ω202 =>
  pr.sem1 .sl PP (Builtin.append_ #[T_Sint, T_Sint] T_Sint #[Sl.v ξ111, Sl.v ρ201]) ω202 fun (ρ203 : Sl) ω204 =>
  pr.sem1 .sl PP (Builtin.append_ #[T_Sint, T_Sint] T_Sint #[Sl.v ξ176, Sl.v ρ199]) ω204 fun (ρ205 : Sl) ω206 =>
  pr.idxK 1 a_5 row_9 fun (a207 : Addr) =>
  pr.storeC a207 (Sl.v ρ203) ω206 fun ω208 =>
  pr.idxK 1 b_6 row_9 fun (a209 : Addr) =>
  pr.storeC a209 (Sl.v ρ205) ω208 fun ω210 =>
  k (emb5 a_5 b_6 t16 t17 (w64 (t18 + 1))) ω210)) ∧
  (pr.sem1 .sl PP (Instr.buildSlice T_Sint 1 #[(0, vI (w64 (i_7 + 1)))]) ω108 fun (ρ211 : Sl) ω212 =>
  (pr.sem1 .sl PP (Instr.buildSlice T_Sint 1 #[(0, vI ξ112)]) ω212 fun (ρ213 : Sl) ω214 =>
  (pr.sem1 .sl PP (Builtin.append_ #[T_Sint, T_Sint] T_Sint #[Sl.v ξ111, Sl.v ρ213]) ω214 fun (ρ215 : Sl) ω216 =>
  pr.load1 .sl a110 ω216 fun (ξ217 : Sl) =>
  pr.sem1 .sl PP (Builtin.append_ #[T_Sint, T_Sint] T_Sint #[Sl.v ξ217, Sl.v ρ211]) ω216 fun (ρ218 : Sl) ω219 =>
  pr.idxK 1 a_5 row_9 fun (a220 : Addr) =>
  pr.storeC a220 (Sl.v ρ215) ω219 fun ω221 =>
  pr.idxK 1 b_6 row_9 fun (a222 : Addr) =>
  pr.storeC a222 (Sl.v ρ218) ω221 fun ω223 =>
  k (emb5 a_5 b_6 t16 t17 (w64 (t18 + 1))) ω223) ∧
  (pr.load1 .sl a110 ω214 fun (ξ224 : Sl) =>
  pr.sem1 .sl PP (Builtin.append_ #[T_Sint, T_Sint] T_Sint #[Sl.v ξ111, Sl.v ρ213]) ω214 fun (ρ225 : Sl) ω226 =>
  pr.sem1 .sl PP (Builtin.append_ #[T_Sint, T_Sint] T_Sint #[Sl.v ξ224, Sl.v ρ211]) ω226 fun (ρ227 : Sl) ω228 =>
  pr.idxK 1 a_5 row_9 fun (a229 : Addr) =>
  pr.storeC a229 (Sl.v ρ225) ω228 fun ω230 =>
  pr.idxK 1 b_6 row_9 fun (a231 : Addr) =>
  pr.storeC a231 (Sl.v ρ227) ω230 fun ω232 =>
  k (emb5 a_5 b_6 t16 t17 (w64 (t18 + 1))) ω232)) ∧
  (pr.load1 .sl a110 ω212 fun (ξ233 : Sl) =>
  pr.sem1 .sl PP (Instr.buildSlice T_Sint 1 #[(0, vI ξ112)]) ω212 fun (ρ234 : Sl) ω235 =>
  pr.sem1 .sl PP (Builtin.append_ #[T_Sint, T_Sint] T_Sint #[Sl.v ξ111, Sl.v ρ234]) ω235 fun (ρ236 : Sl) ω237 =>
  pr.sem1 .sl PP (Builtin.append_ #[T_Sint, T_Sint] T_Sint #[Sl.v ξ233, Sl.v ρ211]) ω237 fun (ρ238 : Sl) ω239 =>
  pr.idxK 1 a_5 row_9 fun (a240 : Addr) =>
  pr.storeC a240 (Sl.v ρ236) ω239 fun ω241 =>
  pr.idxK 1 b_6 row_9 fun (a242 : Addr) =>
  pr.storeC a242 (Sl.v ρ238) ω241 fun ω243 =>
  k (emb5 a_5 b_6 t16 t17 (w64 (t18 + 1))) ω243))) ∧
  (pr.load1 .sl a110 ω108 fun (ξ244 : Sl) =>
  (pr.load1 (.int .i64) v_8 ω108 fun (ξ245 : Int) =>
  (pr.sem1 .sl PP (Instr.buildSlice T_Sint 1 #[(0, vI ξ245)]) ω108 fun (ρ246 : Sl) ω247 =>
  (pr.sem1 .sl PP (Builtin.append_ #[T_Sint, T_Sint] T_Sint #[Sl.v ξ111, Sl.v ρ246]) ω247 fun (ρ248 : Sl) ω249 =>
  pr.sem1 .sl PP (Instr.buildSlice T_Sint 1 #[(0, vI (w64 (i_7 + 1)))]) ω249 fun (ρ250 : Sl) ω251 =>
  pr.sem1 .sl PP (Builtin.append_ #[T_Sint, T_Sint] T_Sint #[Sl.v ξ244, Sl.v ρ250]) ω251 fun (ρ252 : Sl) ω253 =>
  pr.idxK 1 a_5 row_9 fun (a254 : Addr) =>
  pr.storeC a254 (Sl.v ρ248) ω253 fun ω255 =>
  pr.idxK 1 b_6 row_9 fun (a256 : Addr) =>
  pr.storeC a256 (Sl.v ρ252) ω255 fun ω257 =>
  k (emb5 a_5 b_6 t16 t17 (w64 (t18 + 1))) ω257) ∧
  (pr.sem1 .sl PP (Instr.buildSlice T_Sint 1 #[(0, vI (w64 (i_7 + 1)))]) ω247 fun (ρ258 : Sl) ω259 =>
  pr.sem1 .sl PP (Builtin.append_ #[T_Sint, T_Sint] T_Sint #[Sl.v ξ111, Sl.v ρ246]) ω259 fun (ρ260 : Sl) ω261 =>
  pr.sem1 .sl PP (Builtin.append_ #[T_Sint, T_Sint] T_Sint #[Sl.v ξ244, Sl.v ρ258]) ω261 fun (ρ262 : Sl) ω263 =>
  pr.idxK 1 a_5 row_9 fun (a264 : Addr) =>
  pr.storeC a264 (Sl.v ρ260) ω263 fun ω265 =>
  pr.idxK 1 b_6 row_9 fun (a266 : Addr) =>
  pr.storeC a266 (Sl.v ρ262) ω265 fun ω267 =>
  k (emb5 a_5 b_6 t16 t17 (w64 (t18 + 1))) ω267)) ∧
  (pr.sem1 .sl PP (Instr.buildSlice T_Sint 1 #[(0, vI (w64 (i_7 + 1)))]) ω108 fun (ρ268 : Sl) ω269 =>
  pr.sem1 .sl PP (Instr.buildSlice T_Sint 1 #[(0, vI ξ245)]) ω269 fun (ρ270 : Sl) ω271 =>
  pr.sem1 .sl PP (Builtin.append_ #[T_Sint, T_Sint] T_Sint #[Sl.v ξ111, Sl.v ρ270]) ω271 fun (ρ272 : Sl) ω273 =>
  pr.sem1 .sl PP (Builtin.append_ #[T_Sint, T_Sint] T_Sint #[Sl.v ξ244, Sl.v ρ268]) ω273 fun (ρ274 : Sl) ω275 =>
  pr.idxK 1 a_5 row_9 fun (a276 : Addr) =>
  pr.storeC a276 (Sl.v ρ272) ω275 fun ω277 =>
  pr.idxK 1 b_6 row_9 fun (a278 : Addr) =>
  pr.storeC a278 (Sl.v ρ274) ω277 fun ω279 =>
  k (emb5 a_5 b_6 t16 t17 (w64 (t18 + 1))) ω279)) ∧
  (pr.sem1 .sl PP (Instr.buildSlice T_Sint 1 #[(0, vI (w64 (i_7 + 1)))]) ω108 fun (ρ280 : Sl) ω281 =>
  pr.load1 (.int .i64) v_8 ω281 fun (ξ282 : Int) =>
  pr.sem1 .sl PP (Instr.buildSlice T_Sint 1 #[(0, vI ξ282)]) ω281 fun (ρ283 : Sl) ω284 =>
  pr.sem1 .sl PP (Builtin.append_ #[T_Sint, T_Sint] T_Sint #[Sl.v ξ111, Sl.v ρ283]) ω284 fun (ρ285 : Sl) ω286 =>
  pr.sem1 .sl PP (Builtin.append_ #[T_Sint, T_Sint] T_Sint #[Sl.v ξ244, Sl.v ρ280]) ω286 fun (ρ287 : Sl) ω288 =>
  pr.idxK 1 a_5 row_9 fun (a289 : Addr) =>
  pr.storeC a289 (Sl.v ρ285) ω288 fun ω290 =>
  pr.idxK 1 b_6 row_9 fun (a291 : Addr) =>
  pr.storeC a291 (Sl.v ρ287) ω290 fun ω292 =>
  k (emb5 a_5 b_6 t16 t17 (w64 (t18 + 1))) ω292)) ∧
  (pr.sem1 .sl PP (Instr.buildSlice T_Sint 1 #[(0, vI (w64 (i_7 + 1)))]) ω108 fun (ρ293 : Sl) ω294 =>
  (pr.load1 (.int .i64) v_8 ω294 fun (ξ295 : Int) =>
  (pr.sem1 .sl PP (Instr.buildSlice T_Sint 1 #[(0, vI ξ295)]) ω294 fun (ρ296 : Sl) ω297 =>
  (pr.sem1 .sl PP (Builtin.append_ #[T_Sint, T_Sint] T_Sint #[Sl.v ξ111, Sl.v ρ296]) ω297 fun (ρ298 : Sl) ω299 =>
  pr.load1 .sl a110 ω299 fun (ξ300 : Sl) =>
  pr.sem1 .sl PP (Builtin.append_ #[T_Sint, T_Sint] T_Sint #[Sl.v ξ300, Sl.v ρ293]) ω299 fun (ρ301 : Sl) ω302 =>
  pr.idxK 1 a_5 row_9 fun (a303 : Addr) =>
  pr.storeC a303 (Sl.v ρ298) ω302 fun ω304 =>
  pr.idxK 1 b_6 row_9 fun (a305 : Addr) =>
  pr.storeC a305 (Sl.v ρ301) ω304 fun ω306 =>
  k (emb5 a_5 b_6 t16 t17 (w64 (t18 + 1))) ω306) ∧
  (pr.load1 .sl a110 ω297 fun (ξ307 : Sl) =>
  pr.sem1 .sl PP (Builtin.append_ #[T_Sint, T_Sint] T_Sint #[Sl.v ξ111, Sl.v ρ296]) ω297 fun (ρ308 : Sl) ω309 =>
  pr.sem1 .sl PP (Builtin.append_ #[T_Sint, T_Sint] T_Sint #[Sl.v ξ307, Sl.v ρ293]) ω309 fun (ρ310 : Sl) ω311 =>
  pr.idxK 1 a_5 row_9 fun (a312 : Addr) =>
  pr.storeC a312 (Sl.v ρ308) ω311 fun ω313 =>
  pr.idxK 1 b_6 row_9 fun (a314 : Addr) =>
  pr.storeC a314 (Sl.v ρ310) ω313 fun ω315 =>
  k (emb5 a_5 b_6 t16 t17 (w64 (t18 + 1))) ω315)) ∧
  (pr.load1 .sl a110 ω294 fun (ξ316 : Sl) =>
  pr.sem1 .sl PP (Instr.buildSlice T_Sint 1 #[(0, vI ξ295)]) ω294 fun (ρ317 : Sl) ω318 =>
  pr.sem1 .sl PP (Builtin.append_ #[T_Sint, T_Sint] T_Sint #[Sl.v ξ111, Sl.v ρ317]) ω318 fun (ρ319 : Sl) ω320 =>
  pr.sem1 .sl PP (Builtin.append_ #[T_Sint, T_Sint] T_Sint #[Sl.v ξ316, Sl.v ρ293]) ω320 fun (ρ321 : Sl) ω322 =>
  pr.idxK 1 a_5 row_9 fun (a323 : Addr) =>
  pr.storeC a323 (Sl.v ρ319) ω322 fun ω324 =>
  pr.idxK 1 b_6 row_9 fun (a325 : Addr) =>
  pr.storeC a325 (Sl.v ρ321) ω324 fun ω326 =>
  k (emb5 a_5 b_6 t16 t17 (w64 (t18 + 1))) ω326)) ∧
  (pr.load1 .sl a110 ω294 fun (ξ327 : Sl) =>
  pr.load1 (.int .i64) v_8 ω294 fun (ξ328 : Int) =>
  pr.sem1 .sl PP (Instr.buildSlice T_Sint 1 #[(0, vI ξ328)]) ω294 fun (ρ329 : Sl) ω330 =>
  pr.sem1 .sl PP (Builtin.append_ #[T_Sint, T_Sint] T_Sint #[Sl.v ξ111, Sl.v ρ329]) ω330 fun (ρ331 : Sl) ω332 =>
  pr.sem1 .sl PP (Builtin.append_ #[T_Sint, T_Sint] T_Sint #[Sl.v ξ327, Sl.v ρ293]) ω332 fun (ρ333 : Sl) ω334 =>
  pr.idxK 1 a_5 row_9 fun (a335 : Addr) =>
  pr.storeC a335 (Sl.v ρ331) ω334 fun ω336 =>
  pr.idxK 1 b_6 row_9 fun (a337 : Addr) =>
  pr.storeC a337 (Sl.v ρ333) ω336 fun ω338 =>
  k (emb5 a_5 b_6 t16 t17 (w64 (t18 + 1))) ω338))) ∧
  (pr.load1 (.int .i64) v_8 ω108 fun (ξ339 : Int) =>
  (pr.load1 .sl a109 ω108 fun (ξ340 : Sl) =>
  (pr.sem1 .sl PP (Instr.buildSlice T_Sint 1 #[(0, vI ξ339)]) ω108 fun (ρ341 : Sl) ω342 =>
  (pr.sem1 .sl PP (Builtin.append_ #[T_Sint, T_Sint] T_Sint #[Sl.v ξ340, Sl.v ρ341]) ω342 fun (ρ343 : Sl) ω344 =>
  (pr.load1 .sl a110 ω344 fun (ξ345 : Sl) =>
  pr.sem1 .sl PP (Instr.buildSlice T_Sint 1 #[(0, vI (w64 (i_7 + 1)))]) ω344 fun (ρ346 : Sl) ω347 =>
  pr.sem1 .sl PP (Builtin.append_ #[T_Sint, T_Sint] T_Sint #[Sl.v ξ345, Sl.v ρ346]) ω347 fun (ρ348 : Sl) ω349 =>
  pr.idxK 1 a_5 row_9 fun (a350 : Addr) =>
  pr.storeC a350 (Sl.v ρ343) ω349 fun ω351 =>
  pr.idxK 1 b_6 row_9 fun (a352 : Addr) =>
  pr.storeC a352 (Sl.v ρ348) ω351 fun ω353 =>
  k (emb5 a_5 b_6 t16 t17 (w64 (t18 + 1))) ω353) ∧
  (pr.sem1 .sl PP (Instr.buildSlice T_Sint 1 #[(0, vI (w64 (i_7 + 1)))]) ω344 fun (ρ354 : Sl) ω355 =>
  pr.load1 .sl a110 ω355 fun (ξ356 : Sl) =>
  pr.sem1 .sl PP (Builtin.append_ #[T_Sint, T_Sint] T_Sint #[Sl.v ξ356, Sl.v ρ354]) ω355 fun (ρ357 : Sl) ω358 =>
  pr.idxK 1 a_5 row_9 fun (a359 : Addr) =>
  pr.storeC a359 (Sl.v ρ343) ω358 fun ω360 =>
  pr.idxK 1 b_6 row_9 fun (a361 : Addr) =>
  pr.storeC a361 (Sl.v ρ357) ω360 fun ω362 =>
  k (emb5 a_5 b_6 t16 t17 (w64 (t18 + 1))) ω362)) ∧
  (pr.load1 .sl a110 ω342 fun (ξ363 : Sl) =>
  (pr.sem1 .sl PP (Builtin.append_ #[T_Sint, T_Sint] T_Sint #[Sl.v ξ340, Sl.v ρ341]) ω342 fun (ρ364 : Sl) ω365 =>
  pr.sem1 .sl PP (Instr.buildSlice T_Sint 1 #[(0, vI (w64 (i_7 + 1)))]) ω365 fun (ρ366 : Sl) ω367 =>
  pr.sem1 .sl PP (Builtin.append_ #[T_Sint, T_Sint] T_Sint #[Sl.v ξ363, Sl.v ρ366]) ω367 fun (ρ368 : Sl) ω369 =>
  pr.idxK 1 a_5 row_9 fun (a370 : Addr) =>
  pr.storeC a370 (Sl.v ρ364) ω369 fun ω371 =>
  pr.idxK 1 b_6 row_9 fun (a372 : Addr) =>
  pr.storeC a372 (Sl.v ρ368) ω371 fun ω373 =>
  k (emb5 a_5 b_6 t16 t17 (w64 (t18 + 1))) ω373) ∧
  (pr.sem1 .sl PP (Instr.buildSlice T_Sint 1 #[(0, vI (w64 (i_7 + 1)))]) ω342 fun (ρ374 : Sl) ω375 =>
  pr.sem1 .sl PP (Builtin.append_ #[T_Sint, T_Sint] T_Sint #[Sl.v ξ340, Sl.v ρ341]) ω375 fun (ρ376 : Sl) ω377 =>
  pr.sem1 .sl PP (Builtin.append_ #[T_Sint, T_Sint] T_Sint #[Sl.v ξ363, Sl.v ρ374]) ω377 fun (ρ378 : Sl) ω379 =>
  pr.idxK 1 a_5 row_9 fun (a380 : Addr) =>
  pr.storeC a380 (Sl.v ρ376) ω379 fun ω381 =>
  pr.idxK 1 b_6 row_9 fun (a382 : Addr) =>
  pr.storeC a382 (Sl.v ρ378) ω381 fun ω383 =>
  k (emb5 a_5 b_6 t16 t17 (w64 (t18 + 1))) ω383)) ∧
  (pr.sem1 .sl PP (Instr.buildSlice T_Sint 1 #[(0, vI (w64 (i_7 + 1)))]) ω342 fun (ρ384 : Sl) ω385 =>
  (pr.sem1 .sl PP (Builtin.append_ #[T_Sint, T_Sint] T_Sint #[Sl.v ξ340, Sl.v ρ341]) ω385 fun (ρ386 : Sl) ω387 =>
  pr.load1 .sl a110 ω387 fun (ξ388 : Sl) =>
  pr.sem1 .sl PP (Builtin.append_ #[T_Sint, T_Sint] T_Sint #[Sl.v ξ388, Sl.v ρ384]) ω387 fun (ρ389 : Sl) ω390 =>
  pr.idxK 1 a_5 row_9 fun (a391 : Addr) =>
  pr.storeC a391 (Sl.v ρ386) ω390 fun ω392 =>
  pr.idxK 1 b_6 row_9 fun (a393 : Addr) =>
  pr.storeC a393 (Sl.v ρ389) ω392 fun ω394 =>
  k (emb5 a_5 b_6 t16 t17 (w64 (t18 + 1))) ω394) ∧
  (pr.load1 .sl a110 ω385 fun (ξ395 : Sl) =>
  pr.sem1 .sl PP (Builtin.append_ #[T_Sint, T_Sint] T_Sint #[Sl.v ξ340, Sl.v ρ341]) ω385 fun (ρ396 : Sl) ω397 =>
  pr.sem1 .sl PP (Builtin.append_ #[T_Sint, T_Sint] T_Sint #[Sl.v ξ395, Sl.v ρ384]) ω397 fun (ρ398 : Sl) ω399 =>
  pr.idxK 1 a_5 row_9 fun (a400 : Addr) =>
  pr.storeC a400 (Sl.v ρ396) ω399 fun ω401 =>
  pr.idxK 1 b_6 row_9 fun (a402 : Addr) =>
  pr.storeC a402 (Sl.v ρ398) ω401 fun ω403 =>
  k (emb5 a_5 b_6 t16 t17 (w64 (t18 + 1))) ω403))) ∧
  (pr.load1 .sl a110 ω108 fun (ξ404 : Sl) =>
  (pr.sem1 .sl PP (Instr.buildSlice T_Sint 1 #[(0, vI ξ339)]) ω108 fun (ρ405 : Sl) ω406 =>
  (pr.sem1 .sl PP (Builtin.append_ #[T_Sint, T_Sint] T_Sint #[Sl.v ξ340, Sl.v ρ405]) ω406 fun (ρ407 : Sl) ω408 =>
  pr.sem1 .sl PP (Instr.buildSlice T_Sint 1 #[(0, vI (w64 (i_7 + 1)))]) ω408 fun (ρ409 : Sl) ω410 =>
  pr.sem1 .sl PP (Builtin.append_ #[T_Sint, T_Sint] T_Sint #[Sl.v ξ404, Sl.v ρ409]) ω410 fun (ρ411 : Sl) ω412 =>
  pr.idxK 1 a_5 row_9 fun (a413 : Addr) =>
  pr.storeC a413 (Sl.v ρ407) ω412 fun ω414 =>
  pr.idxK 1 b_6 row_9 fun (a415 : Addr) =>
  pr.storeC a415 (Sl.v ρ411) ω414 fun ω416 =>
  k (emb5 a_5 b_6 t16 t17 (w64 (t18 + 1))) ω416) ∧
  (pr.sem1 .sl PP (Instr.buildSlice T_Sint 1 #[(0, vI (w64 (i_7 + 1)))]) ω406 fun (ρ417 : Sl) ω418 =>
  pr.sem1 .sl PP (Builtin.append_ #[T_Sint, T_Sint] T_Sint #[Sl.v ξ340, Sl.v ρ405]) ω418 fun (ρ419 : Sl) ω420 =>
  pr.sem1 .sl PP (Builtin.append_ #[T_Sint, T_Sint] T_Sint #[Sl.v ξ404, Sl.v ρ417]) ω420 fun (ρ421 : Sl) ω422 =>
  pr.idxK 1 a_5 row_9 fun (a423 : Addr) =>
  pr.storeC a423 (Sl.v ρ419) ω422 fun ω424 =>
  pr.idxK 1 b_6 row_9 fun (a425 : Addr) =>
  pr.storeC a425 (Sl.v ρ421) ω424 fun ω426 =>
  k (emb5 a_5 b_6 t16 t17 (w64 (t18 + 1))) ω426)) ∧
  (pr.sem1 .sl PP (Instr.buildSlice T_Sint 1 #[(0, vI (w64 (i_7 + 1)))]) ω108 fun (ρ427 : Sl) ω428 =>
  pr.sem1 .sl PP (Instr.buildSlice T_Sint 1 #[(0, vI ξ339)]) ω428 fun (ρ429 : Sl) ω430 =>
  pr.sem1 .sl PP (Builtin.append_ #[T_Sint, T_Sint] T_Sint #[Sl.v ξ340, Sl.v ρ429]) ω430 fun (ρ431 : Sl) ω432 =>
  pr.sem1 .sl PP (Builtin.append_ #[T_Sint, T_Sint] T_Sint #[Sl.v ξ404, Sl.v ρ427]) ω432 fun (ρ433 : Sl) ω434 =>
  pr.idxK 1 a_5 row_9 fun (a435 : Addr) =>
  pr.storeC a435 (Sl.v ρ431) ω434 fun ω436 =>
  pr.idxK 1 b_6 row_9 fun (a437 : Addr) =>
  pr.storeC a437 (Sl.v ρ433) ω436 fun ω438 =>
  k (emb5 a_5 b_6 t16 t17 (w64 (t18 + 1))) ω438)) ∧
  (pr.sem1 .sl PP (Instr.buildSlice T_Sint 1 #[(0, vI (w64 (i_7 + 1)))]) ω108 fun (ρ439 : Sl) ω440 =>
  (pr.sem1 .sl PP (Instr.buildSlice T_Sint 1 #[(0, vI ξ339)]) ω440 fun (ρ441 : Sl) ω442 =>
  (pr.sem1 .sl PP (Builtin.append_ #[T_Sint, T_Sint] T_Sint #[Sl.v ξ340, Sl.v ρ441]) ω442 fun (ρ443 : Sl) ω444 =>
  pr.load1 .sl a110 ω444 fun (ξ445 : Sl) =>
  pr.sem1 .sl PP (Builtin.append_ #[T_Sint, T_Sint] T_Sint #[Sl.v ξ445, Sl.v ρ439]) ω444 fun (ρ446 : Sl) ω447 =>
  pr.idxK 1 a_5 row_9 fun (a448 : Addr) =>
  pr.storeC a448 (Sl.v ρ443) ω447 fun ω449 =>
  pr.idxK 1 b_6 row_9 fun (a450 : Addr) =>
  pr.storeC a450 (Sl.v ρ446) ω449 fun ω451 =>
  k (emb5 a_5 b_6 t16 t17 (w64 (t18 + 1))) ω451) ∧
  (pr.load1 .sl a110 ω442 fun (ξ452 : Sl) =>
  pr.sem1 .sl PP (Builtin.append_ #[T_Sint, T_Sint] T_Sint #[Sl.v ξ340, Sl.v ρ441]) ω442 fun (ρ453 : Sl) ω454 =>
  pr.sem1 .sl PP (Builtin.append_ #[T_Sint, T_Sint] T_Sint #[Sl.v ξ452, Sl.v ρ439]) ω454 fun (ρ455 : Sl) ω456 =>
  pr.idxK 1 a_5 row_9 fun (a457 : Addr) =>
  pr.storeC a457 (Sl.v ρ453) ω456 fun ω458 =>
  pr.idxK 1 b_6 row_9 fun (a459 : Addr) =>
  pr.storeC a459 (Sl.v ρ455) ω458 fun ω460 =>
  k (emb5 a_5 b_6 t16 t17 (w64 (t18 + 1))) ω460)) ∧
  (pr.load1 .sl a110 ω440 fun (ξ461 : Sl) =>
  pr.sem1 .sl PP (Instr.buildSlice T_Sint 1 #[(0, vI ξ339)]) ω440 fun (ρ462 : Sl) ω463 =>
  pr.sem1 .sl PP (Builtin.append_ #[T_Sint, T_Sint] T_Sint #[Sl.v ξ340, Sl.v ρ462]) ω463 fun (ρ464 : Sl) ω465 =>
  pr.sem1 .sl PP (Builtin.append_ #[T_Sint, T_Sint] T_Sint #[Sl.v ξ461, Sl.v ρ439]) ω465 fun (ρ466 : Sl) ω467 =>
  pr.idxK 1 a_5 row_9 fun (a468 : Addr) =>
  pr.storeC a468 (Sl.v ρ464) ω467 fun ω469 =>
  pr.idxK 1 b_6 row_9 fun (a470 : Addr) =>
  pr.storeC a470 (Sl.v ρ466) ω469 fun ω471 =>
  k (emb5 a_5 b_6 t16 t17 (w64 (t18 + 1))) ω471))) ∧
  (pr.sem1 .sl PP (Instr.buildSlice T_Sint 1 #[(0, vI ξ339)]) ω108 fun (ρ472 : Sl) ω473 =>
  (pr.load1 .sl a109 ω473 fun (ξ474 : Sl) =>
  (pr.sem1 .sl PP (Builtin.append_ #[T_Sint, T_Sint] T_Sint #[Sl.v ξ474, Sl.v ρ472]) ω473 fun (ρ475 : Sl) ω476 =>
  (pr.load1 .sl a110 ω476 fun (ξ477 : Sl) =>
  pr.sem1 .sl PP (Instr.buildSlice T_Sint 1 #[(0, vI (w64 (i_7 + 1)))]) ω476 fun (ρ478 : Sl) ω479 =>
  pr.sem1 .sl PP (Builtin.append_ #[T_Sint, T_Sint] T_Sint #[Sl.v ξ477, Sl.v ρ478]) ω479 fun (ρ480 : Sl) ω481 =>
  pr.idxK 1 a_5 row_9 fun (a482 : Addr) =>
  pr.storeC a482 (Sl.v ρ475) ω481 fun ω483 =>
  pr.idxK 1 b_6 row_9 fun (a484 : Addr) =>
  pr.storeC a484 (Sl.v ρ480) ω483 fun ω485 =>
  k (emb5 a_5 b_6 t16 t17 (w64 (t18 + 1))) ω485) ∧
  (pr.sem1 .sl PP (Instr.buildSlice T_Sint 1 #[(0, vI (w64 (i_7 + 1)))]) ω476 fun (ρ486 : Sl) ω487 =>
  pr.load1 .sl a110 ω487 fun (ξ488 : Sl) =>
  pr.sem1 .sl PP (Builtin.append_ #[T_Sint, T_Sint] T_Sint #[Sl.v ξ488, Sl.v ρ486]) ω487 fun (ρ489 : Sl) ω490 =>
  pr.idxK 1 a_5 row_9 fun (a491 : Addr) =>
  pr.storeC a491 (Sl.v ρ475) ω490 fun ω492 =>
  pr.idxK 1 b_6 row_9 fun (a493 : Addr) =>
  pr.storeC a493 (Sl.v ρ489) ω492 fun ω494 =>
  k (emb5 a_5 b_6 t16 t17 (w64 (t18 + 1))) ω494)) ∧
  (pr.load1 .sl a110 ω473 fun (ξ495 : Sl) =>
  (pr.sem1 .sl PP (Builtin.append_ #[T_Sint, T_Sint] T_Sint #[Sl.v ξ474, Sl.v ρ472]) ω473 fun (ρ496 : Sl) ω497 =>
  pr.sem1 .sl PP (Instr.buildSlice T_Sint 1 #[(0, vI (w64 (i_7 + 1)))]) ω497 fun (ρ498 : Sl) ω499 =>
  pr.sem1 .sl PP (Builtin.append_ #[T_Sint, T_Sint] T_Sint #[Sl.v ξ495, Sl.v ρ498]) ω499 fun (ρ500 : Sl) ω501 =>
  pr.idxK 1 a_5 row_9 fun (a502 : Addr) =>
  pr.storeC a502 (Sl.v ρ496) ω501 fun ω503 =>
  pr.idxK 1 b_6 row_9 fun (a504 : Addr) =>
  pr.storeC a504 (Sl.v ρ500) ω503 fun ω505 =>
  k (emb5 a_5 b_6 t16 t17 (w64 (t18 + 1))) ω505) ∧
  (pr.sem1 .sl PP (Instr.buildSlice T_Sint 1 #[(0, vI (w64 (i_7 + 1)))]) ω473 fun (ρ506 : Sl) ω507 =>
  pr.sem1 .sl PP (Builtin.append_ #[T_Sint, T_Sint] T_Sint #[Sl.v ξ474, Sl.v ρ472]) ω507 fun (ρ508 : Sl) ω509 =>
  pr.sem1 .sl PP (Builtin.append_ #[T_Sint, T_Sint] T_Sint #[Sl.v ξ495, Sl.v ρ506]) ω509 fun (ρ510 : Sl) ω511 =>
  pr.idxK 1 a_5 row_9 fun (a512 : Addr) =>
  pr.storeC a512 (Sl.v ρ508) ω511 fun ω513 =>
  pr.idxK 1 b_6 row_9 fun (a514 : Addr) =>
  pr.storeC a514 (Sl.v ρ510) ω513 fun ω515 =>
  k (emb5 a_5 b_6 t16 t17 (w64 (t18 + 1))) ω515)) ∧
  (pr.sem1 .sl PP (Instr.buildSlice T_Sint 1 #[(0, vI (w64 (i_7 + 1)))]) ω473 fun (ρ516 : Sl) ω517 =>
  (pr.sem1 .sl PP (Builtin.append_ #[T_Sint, T_Sint] T_Sint #[Sl.v ξ474, Sl.v ρ472]) ω517 fun (ρ518 : Sl) ω519 =>
  pr.load1 .sl a110 ω519 fun (ξ520 : Sl) =>
  pr.sem1 .sl PP (Builtin.append_ #[T_Sint, T_Sint] T_Sint #[Sl.v ξ520, Sl.v ρ516]) ω519 fun (ρ521 : Sl) ω522 =>
  pr.idxK 1 a_5 row_9 fun (a523 : Addr) =>
  pr.storeC a523 (Sl.v ρ518) ω522 fun ω524 =>
  pr.idxK 1 b_6 row_9 fun (a525 : Addr) =>
  pr.storeC a525 (Sl.v ρ521) ω524 fun ω526 =>
  k (emb5 a_5 b_6 t16 t17 (w64 (t18 + 1))) ω526) ∧
  (pr.load1 .sl a110 ω517 fun (ξ527 : Sl) =>
  pr.sem1 .sl PP (Builtin.append_ #[T_Sint, T_Sint] T_Sint #[Sl.v ξ474, Sl.v ρ472]) ω517 fun (ρ528 : Sl) ω529 =>
  pr.sem1 .sl PP (Builtin.append_ #[T_Sint, T_Sint] T_Sint #[Sl.v ξ527, Sl.v ρ516]) ω529 fun (ρ530 : Sl) ω531 =>
  pr.idxK 1 a_5 row_9 fun (a532 : Addr) =>
  pr.storeC a532 (Sl.v ρ528) ω531 fun ω533 =>
  pr.idxK 1 b_6 row_9 fun (a534 : Addr) =>
  pr.storeC a534 (Sl.v ρ530) ω533 fun ω535 =>
  k (emb5 a_5 b_6 t16 t17 (w64 (t18 + 1))) ω535))) ∧
  (pr.load1 .sl a110 ω473 fun (ξ536 : Sl) =>
  (pr.load1 .sl a109 ω473 fun (ξ537 : Sl) =>
  (pr.sem1 .sl PP (Builtin.append_ #[T_Sint, T_Sint] T_Sint #[Sl.v ξ537, Sl.v ρ472]) ω473 fun (ρ538 : Sl) ω539 =>
  pr.sem1 .sl PP (Instr.buildSlice T_Sint 1 #[(0, vI (w64 (i_7 + 1)))]) ω539 fun (ρ540 : Sl) ω541 =>
  pr.sem1 .sl PP (Builtin.append_ #[T_Sint, T_Sint] T_Sint #[Sl.v ξ536, Sl.v ρ540]) ω541 fun (ρ542 : Sl) ω543 =>
  pr.idxK 1 a_5 row_9 fun (a544 : Addr) =>
  pr.storeC a544 (Sl.v ρ538) ω543 fun ω545 =>
  pr.idxK 1 b_6 row_9 fun (a546 : Addr) =>
  pr.storeC a546 (Sl.v ρ542) ω545 fun ω547 =>
  k (emb5 a_5 b_6 t16 t17 (w64 (t18 + 1))) ω547) ∧
  (pr.sem1 .sl PP (Instr.buildSlice T_Sint 1 #[(0, vI (w64 (i_7 + 1)))]) ω473 fun (ρ548 : Sl) ω549 =>
  pr.sem1 .sl PP (Builtin.append_ #[T_Sint, T_Sint] T_Sint #[Sl.v ξ537, Sl.v ρ472]) ω549 fun (ρ550 : Sl) ω551 =>
  pr.sem1 .sl PP (Builtin.append_ #[T_Sint, T_Sint] T_Sint #[Sl.v ξ536, Sl.v ρ548]) ω551 fun (ρ552 : Sl) ω553 =>
  pr.idxK 1 a_5 row_9 fun (a554 : Addr) =>
  pr.storeC a554 (Sl.v ρ550) ω553 fun ω555 =>
  pr.idxK 1 b_6 row_9 fun (a556 : Addr) =>
  pr.storeC a556 (Sl.v ρ552) ω555 fun ω557 =>
  k (emb5 a_5 b_6 t16 t17 (w64 (t18 + 1))) ω557)) ∧
  (pr.sem1 .sl PP (Instr.buildSlice T_Sint 1 #[(0, vI (w64 (i_7 + 1)))]) ω473 fun (ρ558 : Sl) ω559 =>
  pr.load1 .sl a109 ω559 fun (ξ560 : Sl) =>
  pr.sem1 .sl PP (Builtin.append_ #[T_Sint, T_Sint] T_Sint #[Sl.v ξ560, Sl.v ρ472]) ω559 fun (ρ561 : Sl) ω562 =>
  pr.sem1 .sl PP (Builtin.append_ #[T_Sint, T_Sint] T_Sint #[Sl.v ξ536, Sl.v ρ558]) ω562 fun (ρ563 : Sl) ω564 =>
  pr.idxK 1 a_5 row_9 fun (a565 : Addr) =>
  pr.storeC a565 (Sl.v ρ561) ω564 fun ω566 =>
  pr.idxK 1 b_6 row_9 fun (a567 : Addr) =>
  pr.storeC a567 (Sl.v ρ563) ω566 fun ω568 =>
  k (emb5 a_5 b_6 t16 t17 (w64 (t18 + 1))) ω568)) ∧
  (pr.sem1 .sl PP (Instr.buildSlice T_Sint 1 #[(0, vI (w64 (i_7 + 1)))]) ω473 fun (ρ569 : Sl) ω570 =>
  (pr.load1 .sl a109 ω570 fun (ξ571 : Sl) =>
  (pr.sem1 .sl PP (Builtin.append_ #[T_Sint, T_Sint] T_Sint #[Sl.v ξ571, Sl.v ρ472]) ω570 fun (ρ572 : Sl) ω573 =>
  pr.load1 .sl a110 ω573 fun (ξ574 : Sl) =>
  pr.sem1 .sl PP (Builtin.append_ #[T_Sint, T_Sint] T_Sint #[Sl.v ξ574, Sl.v ρ569]) ω573 fun (ρ575 : Sl) ω576 =>
  pr.idxK 1 a_5 row_9 fun (a577 : Addr) =>
  pr.storeC a577 (Sl.v ρ572) ω576 fun ω578 =>
  pr.idxK 1 b_6 row_9 fun (a579 : Addr) =>
  pr.storeC a579 (Sl.v ρ575) ω578 fun ω580 =>
  k (emb5 a_5 b_6 t16 t17 (w64 (t18 + 1))) ω580) ∧
  (pr.load1 .sl a110 ω570 fun (ξ581 : Sl) =>
  pr.sem1 .sl PP (Builtin.append_ #[T_Sint, T_Sint] T_Sint #[Sl.v ξ571, Sl.v ρ472]) ω570 fun (ρ582 : Sl) ω583 =>
  pr.sem1 .sl PP (Builtin.append_ #[T_Sint, T_Sint] T_Sint #[Sl.v ξ581, Sl.v ρ569]) ω583 fun (ρ584 : Sl) ω585 =>
  pr.idxK 1 a_5 row_9 fun (a586 : Addr) =>
  pr.storeC a586 (Sl.v ρ582) ω585 fun ω587 =>
  pr.idxK 1 b_6 row_9 fun (a588 : Addr) =>
  pr.storeC a588 (Sl.v ρ584) ω587 fun ω589 =>
  k (emb5 a_5 b_6 t16 t17 (w64 (t18 + 1))) ω589)) ∧
  (pr.load1 .sl a110 ω570 fun (ξ590 : Sl) =>
  pr.load1 .sl a109 ω570 fun (ξ591 : Sl) =>
  pr.sem1 .sl PP (Builtin.append_ #[T_Sint, T_Sint] T_Sint #[Sl.v ξ591, Sl.v ρ472]) ω570 fun (ρ592 : Sl) ω593 =>
  pr.sem1 .sl PP (Builtin.append_ #[T_Sint, T_Sint] T_Sint #[Sl.v ξ590, Sl.v ρ569]) ω593 fun (ρ594 : Sl) ω595 =>
  pr.idxK 1 a_5 row_9 fun (a596 : Addr) =>
  pr.storeC a596 (Sl.v ρ592) ω595 fun ω597 =>
  pr.idxK 1 b_6 row_9 fun (a598 : Addr) =>
  pr.storeC a598 (Sl.v ρ594) ω597 fun ω599 =>
  k (emb5 a_5 b_6 t16 t17 (w64 (t18 + 1))) ω599))) ∧
  (pr.load1 .sl a110 ω108 fun (ξ600 : Sl) =>
  (pr.load1 .sl a109 ω108 fun (ξ601 : Sl) =>
  (pr.sem1 .sl PP (Instr.buildSlice T_Sint 1 #[(0, vI ξ339)]) ω108 fun (ρ602 : Sl) ω603 =>
  (pr.sem1 .sl PP (Builtin.append_ #[T_Sint, T_Sint] T_Sint #[Sl.v ξ601, Sl.v ρ602]) ω603 fun (ρ604 : Sl) ω605 =>
  pr.sem1 .sl PP (Instr.buildSlice T_Sint 1 #[(0, vI (w64 (i_7 + 1)))]) ω605 fun (ρ606 : Sl) ω607 =>
  pr.sem1 .sl PP (Builtin.append_ #[T_Sint, T_Sint] T_Sint #[Sl.v ξ600, Sl.v ρ606]) ω607 fun (ρ608 : Sl) ω609 =>
  pr.idxK 1 a_5 row_9 fun (a610 : Addr) =>
  pr.storeC a610 (Sl.v ρ604) ω609 fun ω611 =>
  pr.idxK 1 b_6 row_9 fun (a612 : Addr) =>
  pr.storeC a612 (Sl.v ρ608) ω611 fun ω613 =>
  k (emb5 a_5 b_6 t16 t17 (w64 (t18 + 1))) ω613) ∧
  (pr.sem1 .sl PP (Instr.buildSlice T_Sint 1 #[(0, vI (w64 (i_7 + 1)))]) ω603 fun (ρ614 : Sl) ω615 =>
  pr.sem1 .sl PP (Builtin.append_ #[T_Sint, T_Sint] T_Sint #[Sl.v ξ601, Sl.v ρ602]) ω615 fun (ρ616 : Sl) ω617 =>
  pr.sem1 .sl PP (Builtin.append_ #[T_Sint, T_Sint] T_Sint #[Sl.v ξ600, Sl.v ρ614]) ω617 fun (ρ618 : Sl) ω619 =>
  pr.idxK 1 a_5 row_9 fun (a620 : Addr) =>
  pr.storeC a620 (Sl.v ρ616) ω619 fun ω621 =>
  pr.idxK 1 b_6 row_9 fun (a622 : Addr) =>
  pr.storeC a622 (Sl.v ρ618) ω621 fun ω623 =>
  k (emb5 a_5 b_6 t16 t17 (w64 (t18 + 1))) ω623)) ∧
  (pr.sem1 .sl PP (Instr.buildSlice T_Sint 1 #[(0, vI (w64 (i_7 + 1)))]) ω108 fun (ρ624 : Sl) ω625 =>
  pr.sem1 .sl PP (Instr.buildSlice T_Sint 1 #[(0, vI ξ339)]) ω625 fun (ρ626 : Sl) ω627 =>
  pr.sem1 .sl PP (Builtin.append_ #[T_Sint, T_Sint] T_Sint #[Sl.v ξ601, Sl.v ρ626]) ω627 fun (ρ628 : Sl) ω629 =>
  pr.sem1 .sl PP (Builtin.append_ #[T_Sint, T_Sint] T_Sint #[Sl.v ξ600, Sl.v ρ624]) ω629 fun (ρ630 : Sl) ω631 =>
  pr.idxK 1 a_5 row_9 fun (a632 : Addr) =>
  pr.storeC a632 (Sl.v ρ628) ω631 fun ω633 =>
  pr.idxK 1 b_6 row_9 fun (a634 : Addr) =>
  pr.storeC a634 (Sl.v ρ630) ω633 fun ω635 =>
  k (emb5 a_5 b_6 t16 t17 (w64 (t18 + 1))) ω635)) ∧
  (pr.sem1 .sl PP (Instr.buildSlice T_Sint 1 #[(0, vI ξ339)]) ω108 fun (ρ636 : Sl) ω637 =>
  (pr.load1 .sl a109 ω637 fun (ξ638 : Sl) =>
  (pr.sem1 .sl PP (Builtin.append_ #[T_Sint, T_Sint] T_Sint #[Sl.v ξ638, Sl.v ρ636]) ω637 fun (ρ639 : Sl) ω640 =>
  pr.sem1 .sl PP (Instr.buildSlice T_Sint 1 #[(0, vI (w64 (i_7 + 1)))]) ω640 fun (ρ641 : Sl) ω642 =>
  pr.sem1 .sl PP (Builtin.append_ #[T_Sint, T_Sint] T_Sint #[Sl.v ξ600, Sl.v ρ641]) ω642 fun (ρ643 : Sl) ω644 =>
  pr.idxK 1 a_5 row_9 fun (a645 : Addr) =>
  pr.storeC a645 (Sl.v ρ639) ω644 fun ω646 =>
  pr.idxK 1 b_6 row_9 fun (a647 : Addr) =>
  pr.storeC a647 (Sl.v ρ643) ω646 fun ω648 =>
  k (emb5 a_5 b_6 t16 t17 (w64 (t18 + 1))) ω648) ∧
  (pr.sem1 .sl PP (Instr.buildSlice T_Sint 1 #[(0, vI (w64 (i_7 + 1)))]) ω637 fun (ρ649 : Sl) ω650 =>
  pr.sem1 .sl PP (Builtin.append_ #[T_Sint, T_Sint] T_Sint #[Sl.v ξ638, Sl.v ρ636]) ω650 fun (ρ651 : Sl) ω652 =>
  pr.sem1 .sl PP (Builtin.append_ #[T_Sint, T_Sint] T_Sint #[Sl.v ξ600, Sl.v ρ649]) ω652 fun (ρ653 : Sl) ω654 =>
  pr.idxK 1 a_5 row_9 fun (a655 : Addr) =>
  pr.storeC a655 (Sl.v ρ651) ω654 fun ω656 =>
  pr.idxK 1 b_6 row_9 fun (a657 : Addr) =>
  pr.storeC a657 (Sl.v ρ653) ω656 fun ω658 =>
  k (emb5 a_5 b_6 t16 t17 (w64 (t18 + 1))) ω658)) ∧
  (pr.sem1 .sl PP (Instr.buildSlice T_Sint 1 #[(0, vI (w64 (i_7 + 1)))]) ω637 fun (ρ659 : Sl) ω660 =>
  pr.load1 .sl a109 ω660 fun (ξ661 : Sl) =>
  pr.sem1 .sl PP (Builtin.append_ #[T_Sint, T_Sint] T_Sint #[Sl.v ξ661, Sl.v ρ636]) ω660 fun (ρ662 : Sl) ω663 =>
  pr.sem1 .sl PP (Builtin.append_ #[T_Sint, T_Sint] T_Sint #[Sl.v ξ600, Sl.v ρ659]) ω663 fun (ρ664 : Sl) ω665 =>
  pr.idxK 1 a_5 row_9 fun (a666 : Addr) =>
  pr.storeC a666 (Sl.v ρ662) ω665 fun ω667 =>
  pr.idxK 1 b_6 row_9 fun (a668 : Addr) =>
  pr.storeC a668 (Sl.v ρ664) ω667 fun ω669 =>
  k (emb5 a_5 b_6 t16 t17 (w64 (t18 + 1))) ω669)) ∧
  (pr.sem1 .sl PP (Instr.buildSlice T_Sint 1 #[(0, vI (w64 (i_7 + 1)))]) ω108 fun (ρ670 : Sl) ω671 =>
  (pr.load1 .sl a109 ω671 fun (ξ672 : Sl) =>
  pr.sem1 .sl PP (Instr.buildSlice T_Sint 1 #[(0, vI ξ339)]) ω671 fun (ρ673 : Sl) ω674 =>
  pr.sem1 .sl PP (Builtin.append_ #[T_Sint, T_Sint] T_Sint #[Sl.v ξ672, Sl.v ρ673]) ω674 fun (ρ675 : Sl) ω676 =>
  pr.sem1 .sl PP (Builtin.append_ #[T_Sint, T_Sint] T_Sint #[Sl.v ξ600, Sl.v ρ670]) ω676 fun (ρ677 : Sl) ω678 =>
  pr.idxK 1 a_5 row_9 fun (a679 : Addr) =>
  pr.storeC a679 (Sl.v ρ675) ω678 fun ω680 =>
  pr.idxK 1 b_6 row_9 fun (a681 : Addr) =>
  pr.storeC a681 (Sl.v ρ677) ω680 fun ω682 =>
  k (emb5 a_5 b_6 t16 t17 (w64 (t18 + 1))) ω682) ∧
  (pr.sem1 .sl PP (Instr.buildSlice T_Sint 1 #[(0, vI ξ339)]) ω671 fun (ρ683 : Sl) ω684 =>
  pr.load1 .sl a109 ω684 fun (ξ685 : Sl) =>
  pr.sem1 .sl PP (Builtin.append_ #[T_Sint, T_Sint] T_Sint #[Sl.v ξ685, Sl.v ρ683]) ω684 fun (ρ686 : Sl) ω687 =>
  pr.sem1 .sl PP (Builtin.append_ #[T_Sint, T_Sint] T_Sint #[Sl.v ξ600, Sl.v ρ670]) ω687 fun (ρ688 : Sl) ω689 =>
  pr.idxK 1 a_5 row_9 fun (a690 : Addr) =>
  pr.storeC a690 (Sl.v ρ686) ω689 fun ω691 =>
  pr.idxK 1 b_6 row_9 fun (a692 : Addr) =>
  pr.storeC a692 (Sl.v ρ688) ω691 fun ω693 =>
  k (emb5 a_5 b_6 t16 t17 (w64 (t18 + 1))) ω693))) ∧
  (pr.sem1 .sl PP (Instr.buildSlice T_Sint 1 #[(0, vI (w64 (i_7 + 1)))]) ω108 fun (ρ694 : Sl) ω695 =>
  (pr.load1 .sl a109 ω695 fun (ξ696 : Sl) =>
  (pr.sem1 .sl PP (Instr.buildSlice T_Sint 1 #[(0, vI ξ339)]) ω695 fun (ρ697 : Sl) ω698 =>
  (pr.sem1 .sl PP (Builtin.append_ #[T_Sint, T_Sint] T_Sint #[Sl.v ξ696, Sl.v ρ697]) ω698 fun (ρ699 : Sl) ω700 =>
  pr.load1 .sl a110 ω700 fun (ξ701 : Sl) =>
  pr.sem1 .sl PP (Builtin.append_ #[T_Sint, T_Sint] T_Sint #[Sl.v ξ701, Sl.v ρ694]) ω700 fun (ρ702 : Sl) ω703 =>
  pr.idxK 1 a_5 row_9 fun (a704 : Addr) =>
  pr.storeC a704 (Sl.v ρ699) ω703 fun ω705 =>
  pr.idxK 1 b_6 row_9 fun (a706 : Addr) =>
  pr.storeC a706 (Sl.v ρ702) ω705 fun ω707 =>
  k (emb5 a_5 b_6 t16 t17 (w64 (t18 + 1))) ω707) ∧
  (pr.load1 .sl a110 ω698 fun (ξ708 : Sl) =>
  pr.sem1 .sl PP (Builtin.append_ #[T_Sint, T_Sint] T_Sint #[Sl.v ξ696, Sl.v ρ697]) ω698 fun (ρ709 : Sl) ω710 =>
  pr.sem1 .sl PP (Builtin.append_ #[T_Sint, T_Sint] T_Sint #[Sl.v ξ708, Sl.v ρ694]) ω710 fun (ρ711 : Sl) ω712 =>
  pr.idxK 1 a_5 row_9 fun (a713 : Addr) =>
  pr.storeC a713 (Sl.v ρ709) ω712 fun ω714 =>
  pr.idxK 1 b_6 row_9 fun (a715 : Addr) =>
  pr.storeC a715 (Sl.v ρ711) ω714 fun ω716 =>
  k (emb5 a_5 b_6 t16 t17 (w64 (t18 + 1))) ω716)) ∧
  (pr.load1 .sl a110 ω695 fun (ξ717 : Sl) =>
  pr.sem1 .sl PP (Instr.buildSlice T_Sint 1 #[(0, vI ξ339)]) ω695 fun (ρ718 : Sl) ω719 =>
  pr.sem1 .sl PP (Builtin.append_ #[T_Sint, T_Sint] T_Sint #[Sl.v ξ696, Sl.v ρ718]) ω719 fun (ρ720 : Sl) ω721 =>
  pr.sem1 .sl PP (Builtin.append_ #[T_Sint, T_Sint] T_Sint #[Sl.v ξ717, Sl.v ρ694]) ω721 fun (ρ722 : Sl) ω723 =>
  pr.idxK 1 a_5 row_9 fun (a724 : Addr) =>
  pr.storeC a724 (Sl.v ρ720) ω723 fun ω725 =>
  pr.idxK 1 b_6 row_9 fun (a726 : Addr) =>
  pr.storeC a726 (Sl.v ρ722) ω725 fun ω727 =>
  k (emb5 a_5 b_6 t16 t17 (w64 (t18 + 1))) ω727)) ∧
  (pr.sem1 .sl PP (Instr.buildSlice T_Sint 1 #[(0, vI ξ339)]) ω695 fun (ρ728 : Sl) ω729 =>
  (pr.load1 .sl a109 ω729 fun (ξ730 : Sl) =>
  (pr.sem1 .sl PP (Builtin.append_ #[T_Sint, T_Sint] T_Sint #[Sl.v ξ730, Sl.v ρ728]) ω729 fun (ρ731 : Sl) ω732 =>
  pr.load1 .sl a110 ω732 fun (ξ733 : Sl) =>
  pr.sem1 .sl PP (Builtin.append_ #[T_Sint, T_Sint] T_Sint #[Sl.v ξ733, Sl.v ρ694]) ω732 fun (ρ734 : Sl) ω735 =>
  pr.idxK 1 a_5 row_9 fun (a736 : Addr) =>
  pr.storeC a736 (Sl.v ρ731) ω735 fun ω737 =>
  pr.idxK 1 b_6 row_9 fun (a738 : Addr) =>
  pr.storeC a738 (Sl.v ρ734) ω737 fun ω739 =>
  k (emb5 a_5 b_6 t16 t17 (w64 (t18 + 1))) ω739) ∧
  (pr.load1 .sl a110 ω729 fun (ξ740 : Sl) =>
  pr.sem1 .sl PP (Builtin.append_ #[T_Sint, T_Sint] T_Sint #[Sl.v ξ730, Sl.v ρ728]) ω729 fun (ρ741 : Sl) ω742 =>
  pr.sem1 .sl PP (Builtin.append_ #[T_Sint, T_Sint] T_Sint #[Sl.v ξ740, Sl.v ρ694]) ω742 fun (ρ743 : Sl) ω744 =>
  pr.idxK 1 a_5 row_9 fun (a745 : Addr) =>
  pr.storeC a745 (Sl.v ρ741) ω744 fun ω746 =>
  pr.idxK 1 b_6 row_9 fun (a747 : Addr) =>
  pr.storeC a747 (Sl.v ρ743) ω746 fun ω748 =>
  k (emb5 a_5 b_6 t16 t17 (w64 (t18 + 1))) ω748)) ∧
  (pr.load1 .sl a110 ω729 fun (ξ749 : Sl) =>
  pr.load1 .sl a109 ω729 fun (ξ750 : Sl) =>
  pr.sem1 .sl PP (Builtin.append_ #[T_Sint, T_Sint] T_Sint #[Sl.v ξ750, Sl.v ρ728]) ω729 fun (ρ751 : Sl) ω752 =>
  pr.sem1 .sl PP (Builtin.append_ #[T_Sint, T_Sint] T_Sint #[Sl.v ξ749, Sl.v ρ694]) ω752 fun (ρ753 : Sl) ω754 =>
  pr.idxK 1 a_5 row_9 fun (a755 : Addr) =>
  pr.storeC a755 (Sl.v ρ751) ω754 fun ω756 =>
  pr.idxK 1 b_6 row_9 fun (a757 : Addr) =>
  pr.storeC a757 (Sl.v ρ753) ω756 fun ω758 =>
  k (emb5 a_5 b_6 t16 t17 (w64 (t18 + 1))) ω758)) ∧
  (pr.load1 .sl a110 ω695 fun (ξ759 : Sl) =>
  (pr.load1 .sl a109 ω695 fun (ξ760 : Sl) =>
  pr.sem1 .sl PP (Instr.buildSlice T_Sint 1 #[(0, vI ξ339)]) ω695 fun (ρ761 : Sl) ω762 =>
  pr.sem1 .sl PP (Builtin.append_ #[T_Sint, T_Sint] T_Sint #[Sl.v ξ760, Sl.v ρ761]) ω762 fun (ρ763 : Sl) ω764 =>
  pr.sem1 .sl PP (Builtin.append_ #[T_Sint, T_Sint] T_Sint #[Sl.v ξ759, Sl.v ρ694]) ω764 fun (ρ765 : Sl) ω766 =>
  pr.idxK 1 a_5 row_9 fun (a767 : Addr) =>
  pr.storeC a767 (Sl.v ρ763) ω766 fun ω768 =>
  pr.idxK 1 b_6 row_9 fun (a769 : Addr) =>
  pr.storeC a769 (Sl.v ρ765) ω768 fun ω770 =>
  k (emb5 a_5 b_6 t16 t17 (w64 (t18 + 1))) ω770) ∧
  (pr.sem1 .sl PP (Instr.buildSlice T_Sint 1 #[(0, vI ξ339)]) ω695 fun (ρ771 : Sl) ω772 =>
  pr.load1 .sl a109 ω772 fun (ξ773 : Sl) =>
  pr.sem1 .sl PP (Builtin.append_ #[T_Sint, T_Sint] T_Sint #[Sl.v ξ773, Sl.v ρ771]) ω772 fun (ρ774 : Sl) ω775 =>
  pr.sem1 .sl PP (Builtin.append_ #[T_Sint, T_Sint] T_Sint #[Sl.v ξ759, Sl.v ρ694]) ω775 fun (ρ776 : Sl) ω777 =>
  pr.idxK 1 a_5 row_9 fun (a778 : Addr) =>
  pr.storeC a778 (Sl.v ρ774) ω777 fun ω779 =>
  pr.idxK 1 b_6 row_9 fun (a780 : Addr) =>
  pr.storeC a780 (Sl.v ρ776) ω779 fun ω781 =>
  k (emb5 a_5 b_6 t16 t17 (w64 (t18 + 1))) ω781)))) ∧
  (pr.load1 .sl a110 ω108 fun (ξ782 : Sl) =>
  (pr.load1 .sl a109 ω108 fun (ξ783 : Sl) =>
  (pr.load1 (.int .i64) v_8 ω108 fun (ξ784 : Int) =>
  (pr.sem1 .sl PP (Instr.buildSlice T_Sint 1 #[(0, vI ξ784)]) ω108 fun (ρ785 : Sl) ω786 =>
  (pr.sem1 .sl PP (Builtin.append_ #[T_Sint, T_Sint] T_Sint #[Sl.v ξ783, Sl.v ρ785]) ω786 fun (ρ787 : Sl) ω788 =>
  pr.sem1 .sl PP (Instr.buildSlice T_Sint 1 #[(0, vI (w64 (i_7 + 1)))]) ω788 fun (ρ789 : Sl) ω790 =>
  pr.sem1 .sl PP (Builtin.append_ #[T_Sint, T_Sint] T_Sint #[Sl.v ξ782, Sl.v ρ789]) ω790 fun (ρ791 : Sl) ω792 =>
  pr.idxK 1 a_5 row_9 fun (a793 : Addr) =>
  pr.storeC a793 (Sl.v ρ787) ω792 fun ω794 =>
  pr.idxK 1 b_6 row_9 fun (a795 : Addr) =>
  pr.storeC a795 (Sl.v ρ791) ω794 fun ω796 =>
  k (emb5 a_5 b_6 t16 t17 (w64 (t18 + 1))) ω796) ∧
  (pr.sem1 .sl PP (Instr.buildSlice T_Sint 1 #[(0, vI (w64 (i_7 + 1)))]) ω786 fun (ρ797 : Sl) ω798 =>
  pr.sem1 .sl PP (Builtin.append_ #[T_Sint, T_Sint] T_Sint #[Sl.v ξ783, Sl.v ρ785]) ω798 fun (ρ799 : Sl) ω800 =>
  pr.sem1 .sl PP (Builtin.append_ #[T_Sint, T_Sint] T_Sint #[Sl.v ξ782, Sl.v ρ797]) ω800 fun (ρ801 : Sl) ω802 =>
  pr.idxK 1 a_5 row_9 fun (a803 : Addr) =>
  pr.storeC a803 (Sl.v ρ799) ω802 fun ω804 =>
  pr.idxK 1 b_6 row_9 fun (a805 : Addr) =>
  pr.storeC a805 (Sl.v ρ801) ω804 fun ω806 =>
  k (emb5 a_5 b_6 t16 t17 (w64 (t18 + 1))) ω806)) ∧
  (pr.sem1 .sl PP (Instr.buildSlice T_Sint 1 #[(0, vI (w64 (i_7 + 1)))]) ω108 fun (ρ807 : Sl) ω808 =>
  pr.sem1 .sl PP (Instr.buildSlice T_Sint 1 #[(0, vI ξ784)]) ω808 fun (ρ809 : Sl) ω810 =>
  pr.sem1 .sl PP (Builtin.append_ #[T_Sint, T_Sint] T_Sint #[Sl.v ξ783, Sl.v ρ809]) ω810 fun (ρ811 : Sl) ω812 =>
  pr.sem1 .sl PP (Builtin.append_ #[T_Sint, T_Sint] T_Sint #[Sl.v ξ782, Sl.v ρ807]) ω812 fun (ρ813 : Sl) ω814 =>
  pr.idxK 1 a_5 row_9 fun (a815 : Addr) =>
  pr.storeC a815 (Sl.v ρ811) ω814 fun ω816 =>
  pr.idxK 1 b_6 row_9 fun (a817 : Addr) =>
  pr.storeC a817 (Sl.v ρ813) ω816 fun ω818 =>
  k (emb5 a_5 b_6 t16 t17 (w64 (t18 + 1))) ω818)) ∧
  (pr.sem1 .sl PP (Instr.buildSlice T_Sint 1 #[(0, vI (w64 (i_7 + 1)))]) ω108 fun (ρ819 : Sl) ω820 =>
  pr.load1 (.int .i64) v_8 ω820 fun (ξ821 : Int) =>
  pr.sem1 .sl PP (Instr.buildSlice T_Sint 1 #[(0, vI ξ821)]) ω820 fun (ρ822 : Sl) ω823 =>
  pr.sem1 .sl PP (Builtin.append_ #[T_Sint, T_Sint] T_Sint #[Sl.v ξ783, Sl.v ρ822]) ω823 fun (ρ824 : Sl) ω825 =>
  pr.sem1 .sl PP (Builtin.append_ #[T_Sint, T_Sint] T_Sint #[Sl.v ξ782, Sl.v ρ819]) ω825 fun (ρ826 : Sl) ω827 =>
  pr.idxK 1 a_5 row_9 fun (a828 : Addr) =>
  pr.storeC a828 (Sl.v ρ824) ω827 fun ω829 =>
  pr.idxK 1 b_6 row_9 fun (a830 : Addr) =>
  pr.storeC a830 (Sl.v ρ826) ω829 fun ω831 =>
  k (emb5 a_5 b_6 t16 t17 (w64 (t18 + 1))) ω831)) ∧
  (pr.load1 (.int .i64) v_8 ω108 fun (ξ832 : Int) =>
  (pr.load1 .sl a109 ω108 fun (ξ833 : Sl) =>
  (pr.sem1 .sl PP (Instr.buildSlice T_Sint 1 #[(0, vI ξ832)]) ω108 fun (ρ834 : Sl) ω835 =>
  (pr.sem1 .sl PP (Builtin.append_ #[T_Sint, T_Sint] T_Sint #[Sl.v ξ833, Sl.v ρ834]) ω835 fun (ρ836 : Sl) ω837 =>
  pr.sem1 .sl PP (Instr.buildSlice T_Sint 1 #[(0, vI (w64 (i_7 + 1)))]) ω837 fun (ρ838 : Sl) ω839 =>
  pr.sem1 .sl PP (Builtin.append_ #[T_Sint, T_Sint] T_Sint #[Sl.v ξ782, Sl.v ρ838]) ω839 fun (ρ840 : Sl) ω841 =>
  pr.idxK 1 a_5 row_9 fun (a842 : Addr) =>
  pr.storeC a842 (Sl.v ρ836) ω841 fun ω843 =>
  pr.idxK 1 b_6 row_9 fun (a844 : Addr) =>
  pr.storeC a844 (Sl.v ρ840) ω843 fun ω845 =>
  k (emb5 a_5 b_6 t16 t17 (w64 (t18 + 1))) ω845) ∧
  (pr.sem1 .sl PP (Instr.buildSlice T_Sint 1 #[(0, vI (w64 (i_7 + 1)))]) ω835 fun (ρ846 : Sl) ω847 =>
  pr.sem1 .sl PP (Builtin.append_ #[T_Sint, T_Sint] T_Sint #[Sl.v ξ833, Sl.v ρ834]) ω847 fun (ρ848 : Sl) ω849 =>
  pr.sem1 .sl PP (Builtin.append_ #[T_Sint, T_Sint] T_Sint #[Sl.v ξ782, Sl.v ρ846]) ω849 fun (ρ850 : Sl) ω851 =>
  pr.idxK 1 a_5 row_9 fun (a852 : Addr) =>
  pr.storeC a852 (Sl.v ρ848) ω851 fun ω853 =>
  pr.idxK 1 b_6 row_9 fun (a854 : Addr) =>
  pr.storeC a854 (Sl.v ρ850) ω853 fun ω855 =>
  k (emb5 a_5 b_6 t16 t17 (w64 (t18 + 1))) ω855)) ∧
  (pr.sem1 .sl PP (Instr.buildSlice T_Sint 1 #[(0, vI (w64 (i_7 + 1)))]) ω108 fun (ρ856 : Sl) ω857 =>
  pr.sem1 .sl PP (Instr.buildSlice T_Sint 1 #[(0, vI ξ832)]) ω857 fun (ρ858 : Sl) ω859 =>
  pr.sem1 .sl PP (Builtin.append_ #[T_Sint, T_Sint] T_Sint #[Sl.v ξ833, Sl.v ρ858]) ω859 fun (ρ860 : Sl) ω861 =>
  pr.sem1 .sl PP (Builtin.append_ #[T_Sint, T_Sint] T_Sint #[Sl.v ξ782, Sl.v ρ856]) ω861 fun (ρ862 : Sl) ω863 =>
  pr.idxK 1 a_5 row_9 fun (a864 : Addr) =>
  pr.storeC a864 (Sl.v ρ860) ω863 fun ω865 =>
  pr.idxK 1 b_6 row_9 fun (a866 : Addr) =>
  pr.storeC a866 (Sl.v ρ862) ω865 fun ω867 =>
  k (emb5 a_5 b_6 t16 t17 (w64 (t18 + 1))) ω867)) ∧
  (pr.sem1 .sl PP (Instr.buildSlice T_Sint 1 #[(0, vI ξ832)]) ω108 fun (ρ868 : Sl) ω869 =>
  (pr.load1 .sl a109 ω869 fun (ξ870 : Sl) =>
  (pr.sem1 .sl PP (Builtin.append_ #[T_Sint, T_Sint] T_Sint #[Sl.v ξ870, Sl.v ρ868]) ω869 fun (ρ871 : Sl) ω872 =>
  pr.sem1 .sl PP (Instr.buildSlice T_Sint 1 #[(0, vI (w64 (i_7 + 1)))]) ω872 fun (ρ873 : Sl) ω874 =>
  pr.sem1 .sl PP (Builtin.append_ #[T_Sint, T_Sint] T_Sint #[Sl.v ξ782, Sl.v ρ873]) ω874 fun (ρ875 : Sl) ω876 =>
  pr.idxK 1 a_5 row_9 fun (a877 : Addr) =>
  pr.storeC a877 (Sl.v ρ871) ω876 fun ω878 =>
  pr.idxK 1 b_6 row_9 fun (a879 : Addr) =>
  pr.storeC a879 (Sl.v ρ875) ω878 fun ω880 =>
  k (emb5 a_5 b_6 t16 t17 (w64 (t18 + 1))) ω880) ∧
  (pr.sem1 .sl PP (Instr.buildSlice T_Sint 1 #[(0, vI (w64 (i_7 + 1)))]) ω869 fun (ρ881 : Sl) ω882 =>
  pr.sem1 .sl PP (Builtin.append_ #[T_Sint, T_Sint] T_Sint #[Sl.v ξ870, Sl.v ρ868]) ω882 fun (ρ883 : Sl) ω884 =>
  pr.sem1 .sl PP (Builtin.append_ #[T_Sint, T_Sint] T_Sint #[Sl.v ξ782, Sl.v ρ881]) ω884 fun (ρ885 : Sl) ω886 =>
  pr.idxK 1 a_5 row_9 fun (a887 : Addr) =>
  pr.storeC a887 (Sl.v ρ883) ω886 fun ω888 =>
  pr.idxK 1 b_6 row_9 fun (a889 : Addr) =>
  pr.storeC a889 (Sl.v ρ885) ω888 fun ω890 =>
  k (emb5 a_5 b_6 t16 t17 (w64 (t18 + 1))) ω890)) ∧
  (pr.sem1 .sl PP (Instr.buildSlice T_Sint 1 #[(0, vI (w64 (i_7 + 1)))]) ω869 fun (ρ891 : Sl) ω892 =>
  pr.load1 .sl a109 ω892 fun (ξ893 : Sl) =>
  pr.sem1 .sl PP (Builtin.append_ #[T_Sint, T_Sint] T_Sint #[Sl.v ξ893, Sl.v ρ868]) ω892 fun (ρ894 : Sl) ω895 =>
  pr.sem1 .sl PP (Builtin.append_ #[T_Sint, T_Sint] T_Sint #[Sl.v ξ782, Sl.v ρ891]) ω895 fun (ρ896 : Sl) ω897 =>
  pr.idxK 1 a_5 row_9 fun (a898 : Addr) =>
  pr.storeC a898 (Sl.v ρ894) ω897 fun ω899 =>
  pr.idxK 1 b_6 row_9 fun (a900 : Addr) =>
  pr.storeC a900 (Sl.v ρ896) ω899 fun ω901 =>
  k (emb5 a_5 b_6 t16 t17 (w64 (t18 + 1))) ω901)) ∧
  (pr.sem1 .sl PP (Instr.buildSlice T_Sint 1 #[(0, vI (w64 (i_7 + 1)))]) ω108 fun (ρ902 : Sl) ω903 =>
  (pr.load1 .sl a109 ω903 fun (ξ904 : Sl) =>
  pr.sem1 .sl PP (Instr.buildSlice T_Sint 1 #[(0, vI ξ832)]) ω903 fun (ρ905 : Sl) ω906 =>
  pr.sem1 .sl PP (Builtin.append_ #[T_Sint, T_Sint] T_Sint #[Sl.v ξ904, Sl.v ρ905]) ω906 fun (ρ907 : Sl) ω908 =>
  pr.sem1 .sl PP (Builtin.append_ #[T_Sint, T_Sint] T_Sint #[Sl.v ξ782, Sl.v ρ902]) ω908 fun (ρ909 : Sl) ω910 =>
  pr.idxK 1 a_5 row_9 fun (a911 : Addr) =>
  pr.storeC a911 (Sl.v ρ907) ω910 fun ω912 =>
  pr.idxK 1 b_6 row_9 fun (a913 : Addr) =>
  pr.storeC a913 (Sl.v ρ909) ω912 fun ω914 =>
  k (emb5 a_5 b_6 t16 t17 (w64 (t18 + 1))) ω914) ∧
  (pr.sem1 .sl PP (Instr.buildSlice T_Sint 1 #[(0, vI ξ832)]) ω903 fun (ρ915 : Sl) ω916 =>
  pr.load1 .sl a109 ω916 fun (ξ917 : Sl) =>
  pr.sem1 .sl PP (Builtin.append_ #[T_Sint, T_Sint] T_Sint #[Sl.v ξ917, Sl.v ρ915]) ω916 fun (ρ918 : Sl) ω919 =>
  pr.sem1 .sl PP (Builtin.append_ #[T_Sint, T_Sint] T_Sint #[Sl.v ξ782, Sl.v ρ902]) ω919 fun (ρ920 : Sl) ω921 =>
  pr.idxK 1 a_5 row_9 fun (a922 : Addr) =>
  pr.storeC a922 (Sl.v ρ918) ω921 fun ω923 =>
  pr.idxK 1 b_6 row_9 fun (a924 : Addr) =>
  pr.storeC a924 (Sl.v ρ920) ω923 fun ω925 =>
  k (emb5 a_5 b_6 t16 t17 (w64 (t18 + 1))) ω925))) ∧
  (pr.sem1 .sl PP (Instr.buildSlice T_Sint 1 #[(0, vI (w64 (i_7 + 1)))]) ω108 fun (ρ926 : Sl) ω927 =>
  (pr.load1 .sl a109 ω927 fun (ξ928 : Sl) =>
  pr.load1 (.int .i64) v_8 ω927 fun (ξ929 : Int) =>
  pr.sem1 .sl PP (Instr.buildSlice T_Sint 1 #[(0, vI ξ929)]) ω927 fun (ρ930 : Sl) ω931 =>
  pr.sem1 .sl PP (Builtin.append_ #[T_Sint, T_Sint] T_Sint #[Sl.v ξ928, Sl.v ρ930]) ω931 fun (ρ932 : Sl) ω933 =>
  pr.sem1 .sl PP (Builtin.append_ #[T_Sint, T_Sint] T_Sint #[Sl.v ξ782, Sl.v ρ926]) ω933 fun (ρ934 : Sl) ω935 =>
  pr.idxK 1 a_5 row_9 fun (a936 : Addr) =>
  pr.storeC a936 (Sl.v ρ932) ω935 fun ω937 =>
  pr.idxK 1 b_6 row_9 fun (a938 : Addr) =>
  pr.storeC a938 (Sl.v ρ934) ω937 fun ω939 =>
  k (emb5 a_5 b_6 t16 t17 (w64 (t18 + 1))) ω939) ∧
  (pr.load1 (.int .i64) v_8 ω927 fun (ξ940 : Int) =>
  (pr.load1 .sl a109 ω927 fun (ξ941 : Sl) =>
  pr.sem1 .sl PP (Instr.buildSlice T_Sint 1 #[(0, vI ξ940)]) ω927 fun (ρ942 : Sl) ω943 =>
  pr.sem1 .sl PP (Builtin.append_ #[T_Sint, T_Sint] T_Sint #[Sl.v ξ941, Sl.v ρ942]) ω943 fun (ρ944 : Sl) ω945 =>
  pr.sem1 .sl PP (Builtin.append_ #[T_Sint, T_Sint] T_Sint #[Sl.v ξ782, Sl.v ρ926]) ω945 fun (ρ946 : Sl) ω947 =>
  pr.idxK 1 a_5 row_9 fun (a948 : Addr) =>
  pr.storeC a948 (Sl.v ρ944) ω947 fun ω949 =>
  pr.idxK 1 b_6 row_9 fun (a950 : Addr) =>
  pr.storeC a950 (Sl.v ρ946) ω949 fun ω951 =>
  k (emb5 a_5 b_6 t16 t17 (w64 (t18 + 1))) ω951) ∧
  (pr.sem1 .sl PP (Instr.buildSlice T_Sint 1 #[(0, vI ξ940)]) ω927 fun (ρ952 : Sl) ω953 =>
  pr.load1 .sl a109 ω953 fun (ξ954 : Sl) =>
  pr.sem1 .sl PP (Builtin.append_ #[T_Sint, T_Sint] T_Sint #[Sl.v ξ954, Sl.v ρ952]) ω953 fun (ρ955 : Sl) ω956 =>
  pr.sem1 .sl PP (Builtin.append_ #[T_Sint, T_Sint] T_Sint #[Sl.v ξ782, Sl.v ρ926]) ω956 fun (ρ957 : Sl) ω958 =>
  pr.idxK 1 a_5 row_9 fun (a959 : Addr) =>
  pr.storeC a959 (Sl.v ρ955) ω958 fun ω960 =>
  pr.idxK 1 b_6 row_9 fun (a961 : Addr) =>
  pr.storeC a961 (Sl.v ρ957) ω960 fun ω962 =>
  k (emb5 a_5 b_6 t16 t17 (w64 (t18 + 1))) ω962)))) ∧
  (pr.sem1 .sl PP (Instr.buildSlice T_Sint 1 #[(0, vI (w64 (i_7 + 1)))]) ω108 fun (ρ963 : Sl) ω964 =>
  (pr.load1 .sl a109 ω964 fun (ξ965 : Sl) =>
  (pr.load1 (.int .i64) v_8 ω964 fun (ξ966 : Int) =>
  (pr.sem1 .sl PP (Instr.buildSlice T_Sint 1 #[(0, vI ξ966)]) ω964 fun (ρ967 : Sl) ω968 =>
  (pr.sem1 .sl PP (Builtin.append_ #[T_Sint, T_Sint] T_Sint #[Sl.v ξ965, Sl.v ρ967]) ω968 fun (ρ969 : Sl) ω970 =>
  pr.load1 .sl a110 ω970 fun (ξ971 : Sl) =>
  pr.sem1 .sl PP (Builtin.append_ #[T_Sint, T_Sint] T_Sint #[Sl.v ξ971, Sl.v ρ963]) ω970 fun (ρ972 : Sl) ω973 =>
  pr.idxK 1 a_5 row_9 fun (a974 : Addr) =>
  pr.storeC a974 (Sl.v ρ969) ω973 fun ω975 =>
  pr.idxK 1 b_6 row_9 fun (a976 : Addr) =>
  pr.storeC a976 (Sl.v ρ972) ω975 fun ω977 =>
  k (emb5 a_5 b_6 t16 t17 (w64 (t18 + 1))) ω977) ∧
  (pr.load1 .sl a110 ω968 fun (ξ978 : Sl) =>
  pr.sem1 .sl PP (Builtin.append_ #[T_Sint, T_Sint] T_Sint #[Sl.v ξ965, Sl.v ρ967]) ω968 fun (ρ979 : Sl) ω980 =>
  pr.sem1 .sl PP (Builtin.append_ #[T_Sint, T_Sint] T_Sint #[Sl.v ξ978, Sl.v ρ963]) ω980 fun (ρ981 : Sl) ω982 =>
  pr.idxK 1 a_5 row_9 fun (a983 : Addr) =>
  pr.storeC a983 (Sl.v ρ979) ω982 fun ω984 =>
  pr.idxK 1 b_6 row_9 fun (a985 : Addr) =>
  pr.storeC a985 (Sl.v ρ981) ω984 fun ω986 =>
  k (emb5 a_5 b_6 t16 t17 (w64 (t18 + 1))) ω986)) ∧
  (pr.load1 .sl a110 ω964 fun (ξ987 : Sl) =>
  pr.sem1 .sl PP (Instr.buildSlice T_Sint 1 #[(0, vI ξ966)]) ω964 fun (ρ988 : Sl) ω989 =>
  pr.sem1 .sl PP (Builtin.append_ #[T_Sint, T_Sint] T_Sint #[Sl.v ξ965, Sl.v ρ988]) ω989 fun (ρ990 : Sl) ω991 =>
  pr.sem1 .sl PP (Builtin.append_ #[T_Sint, T_Sint] T_Sint #[Sl.v ξ987, Sl.v ρ963]) ω991 fun (ρ992 : Sl) ω993 =>
  pr.idxK 1 a_5 row_9 fun (a994 : Addr) =>
  pr.storeC a994 (Sl.v ρ990) ω993 fun ω995 =>
  pr.idxK 1 b_6 row_9 fun (a996 : Addr) =>
  pr.storeC a996 (Sl.v ρ992) ω995 fun ω997 =>
  k (emb5 a_5 b_6 t16 t17 (w64 (t18 + 1))) ω997)) ∧
  (pr.load1 .sl a110 ω964 fun (ξ998 : Sl) =>
  pr.load1 (.int .i64) v_8 ω964 fun (ξ999 : Int) =>
  pr.sem1 .sl PP (Instr.buildSlice T_Sint 1 #[(0, vI ξ999)]) ω964 fun (ρ1000 : Sl) ω1001 =>
  pr.sem1 .sl PP (Builtin.append_ #[T_Sint, T_Sint] T_Sint #[Sl.v ξ965, Sl.v ρ1000]) ω1001 fun (ρ1002 : Sl) ω1003 =>
  pr.sem1 .sl PP (Builtin.append_ #[T_Sint, T_Sint] T_Sint #[Sl.v ξ998, Sl.v ρ963]) ω1003 fun (ρ1004 : Sl) ω1005 =>
  pr.idxK 1 a_5 row_9 fun (a1006 : Addr) =>
  pr.storeC a1006 (Sl.v ρ1002) ω1005 fun ω1007 =>
  pr.idxK 1 b_6 row_9 fun (a1008 : Addr) =>
  pr.storeC a1008 (Sl.v ρ1004) ω1007 fun ω1009 =>
  k (emb5 a_5 b_6 t16 t17 (w64 (t18 + 1))) ω1009)) ∧
  (pr.load1 (.int .i64) v_8 ω964 fun (ξ1010 : Int) =>
  (pr.load1 .sl a109 ω964 fun (ξ1011 : Sl) =>
  (pr.sem1 .sl PP (Instr.buildSlice T_Sint 1 #[(0, vI ξ1010)]) ω964 fun (ρ1012 : Sl) ω1013 =>
  (pr.sem1 .sl PP (Builtin.append_ #[T_Sint, T_Sint] T_Sint #[Sl.v ξ1011, Sl.v ρ1012]) ω1013 fun (ρ1014 : Sl) ω1015 =>
  pr.load1 .sl a110 ω1015 fun (ξ1016 : Sl) =>
  pr.sem1 .sl PP (Builtin.append_ #[T_Sint, T_Sint] T_Sint #[Sl.v ξ1016, Sl.v ρ963]) ω1015 fun (ρ1017 : Sl) ω1018 =>
  pr.idxK 1 a_5 row_9 fun (a1019 : Addr) =>
  pr.storeC a1019 (Sl.v ρ1014) ω1018 fun ω1020 =>
  pr.idxK 1 b_6 row_9 fun (a1021 : Addr) =>
  pr.storeC a1021 (Sl.v ρ1017) ω1020 fun ω1022 =>
  k (emb5 a_5 b_6 t16 t17 (w64 (t18 + 1))) ω1022) ∧
  (pr.load1 .sl a110 ω1013 fun (ξ1023 : Sl) =>
  pr.sem1 .sl PP (Builtin.append_ #[T_Sint, T_Sint] T_Sint #[Sl.v ξ1011, Sl.v ρ1012]) ω1013 fun (ρ1024 : Sl) ω1025 =>
  pr.sem1 .sl PP (Builtin.append_ #[T_Sint, T_Sint] T_Sint #[Sl.v ξ1023, Sl.v ρ963]) ω1025 fun (ρ1026 : Sl) ω1027 =>
  pr.idxK 1 a_5 row_9 fun (a1028 : Addr) =>
  pr.storeC a1028 (Sl.v ρ1024) ω1027 fun ω1029 =>
  pr.idxK 1 b_6 row_9 fun (a1030 : Addr) =>
  pr.storeC a1030 (Sl.v ρ1026) ω1029 fun ω1031 =>
  k (emb5 a_5 b_6 t16 t17 (w64 (t18 + 1))) ω1031)) ∧
  (pr.load1 .sl a110 ω964 fun (ξ1032 : Sl) =>
  pr.sem1 .sl PP (Instr.buildSlice T_Sint 1 #[(0, vI ξ1010)]) ω964 fun (ρ1033 : Sl) ω1034 =>
  pr.sem1 .sl PP (Builtin.append_ #[T_Sint, T_Sint] T_Sint #[Sl.v ξ1011, Sl.v ρ1033]) ω1034 fun (ρ1035 : Sl) ω1036 =>
  pr.sem1 .sl PP (Builtin.append_ #[T_Sint, T_Sint] T_Sint #[Sl.v ξ1032, Sl.v ρ963]) ω1036 fun (ρ1037 : Sl) ω1038 =>
  pr.idxK 1 a_5 row_9 fun (a1039 : Addr) =>
  pr.storeC a1039 (Sl.v ρ1035) ω1038 fun ω1040 =>
  pr.idxK 1 b_6 row_9 fun (a1041 : Addr) =>
  pr.storeC a1041 (Sl.v ρ1037) ω1040 fun ω1042 =>
  k (emb5 a_5 b_6 t16 t17 (w64 (t18 + 1))) ω1042)) ∧
  (pr.sem1 .sl PP (Instr.buildSlice T_Sint 1 #[(0, vI ξ1010)]) ω964 fun (ρ1043 : Sl) ω1044 =>
  (pr.load1 .sl a109 ω1044 fun (ξ1045 : Sl) =>
  (pr.sem1 .sl PP (Builtin.append_ #[T_Sint, T_Sint] T_Sint #[Sl.v ξ1045, Sl.v ρ1043]) ω1044 fun (ρ1046 : Sl) ω1047 =>
  pr.load1 .sl a110 ω1047 fun (ξ1048 : Sl) =>
  pr.sem1 .sl PP (Builtin.append_ #[T_Sint, T_Sint] T_Sint #[Sl.v ξ1048, Sl.v ρ963]) ω1047 fun (ρ1049 : Sl) ω1050 =>
  pr.idxK 1 a_5 row_9 fun (a1051 : Addr) =>
  pr.storeC a1051 (Sl.v ρ1046) ω1050 fun ω1052 =>
  pr.idxK 1 b_6 row_9 fun (a1053 : Addr) =>
  pr.storeC a1053 (Sl.v ρ1049) ω1052 fun ω1054 =>
  k (emb5 a_5 b_6 t16 t17 (w64 (t18 + 1))) ω1054) ∧
  (pr.load1 .sl a110 ω1044 fun (ξ1055 : Sl) =>
  pr.sem1 .sl PP (Builtin.append_ #[T_Sint, T_Sint] T_Sint #[Sl.v ξ1045, Sl.v ρ1043]) ω1044 fun (ρ1056 : Sl) ω1057 =>
  pr.sem1 .sl PP (Builtin.append_ #[T_Sint, T_Sint] T_Sint #[Sl.v ξ1055, Sl.v ρ963]) ω1057 fun (ρ1058 : Sl) ω1059 =>
  pr.idxK 1 a_5 row_9 fun (a1060 : Addr) =>
  pr.storeC a1060 (Sl.v ρ1056) ω1059 fun ω1061 =>
  pr.idxK 1 b_6 row_9 fun (a1062 : Addr) =>
  pr.storeC a1062 (Sl.v ρ1058) ω1061 fun ω1063 =>
  k (emb5 a_5 b_6 t16 t17 (w64 (t18 + 1))) ω1063)) ∧
  (pr.load1 .sl a110 ω1044 fun (ξ1064 : Sl) =>
  pr.load1 .sl a109 ω1044 fun (ξ1065 : Sl) =>
  pr.sem1 .sl PP (Builtin.append_ #[T_Sint, T_Sint] T_Sint #[Sl.v ξ1065, Sl.v ρ1043]) ω1044 fun (ρ1066 : Sl) ω1067 =>
  pr.sem1 .sl PP (Builtin.append_ #[T_Sint, T_Sint] T_Sint #[Sl.v ξ1064, Sl.v ρ963]) ω1067 fun (ρ1068 : Sl) ω1069 =>
  pr.idxK 1 a_5 row_9 fun (a1070 : Addr) =>
  pr.storeC a1070 (Sl.v ρ1066) ω1069 fun ω1071 =>
  pr.idxK 1 b_6 row_9 fun (a1072 : Addr) =>
  pr.storeC a1072 (Sl.v ρ1068) ω1071 fun ω1073 =>
  k (emb5 a_5 b_6 t16 t17 (w64 (t18 + 1))) ω1073)) ∧
  (pr.load1 .sl a110 ω964 fun (ξ1074 : Sl) =>
  (pr.load1 .sl a109 ω964 fun (ξ1075 : Sl) =>
  pr.sem1 .sl PP (Instr.buildSlice T_Sint 1 #[(0, vI ξ1010)]) ω964 fun (ρ1076 : Sl) ω1077 =>
  pr.sem1 .sl PP (Builtin.append_ #[T_Sint, T_Sint] T_Sint #[Sl.v ξ1075, Sl.v ρ1076]) ω1077 fun (ρ1078 : Sl) ω1079 =>
  pr.sem1 .sl PP (Builtin.append_ #[T_Sint, T_Sint] T_Sint #[Sl.v ξ1074, Sl.v ρ963]) ω1079 fun (ρ1080 : Sl) ω1081 =>
  pr.idxK 1 a_5 row_9 fun (a1082 : Addr) =>
  pr.storeC a1082 (Sl.v ρ1078) ω1081 fun ω1083 =>
  pr.idxK 1 b_6 row_9 fun (a1084 : Addr) =>
  pr.storeC a1084 (Sl.v ρ1080) ω1083 fun ω1085 =>
  k (emb5 a_5 b_6 t16 t17 (w64 (t18 + 1))) ω1085) ∧
  (pr.sem1 .sl PP (Instr.buildSlice T_Sint 1 #[(0, vI ξ1010)]) ω964 fun (ρ1086 : Sl) ω1087 =>
  pr.load1 .sl a109 ω1087 fun (ξ1088 : Sl) =>
  pr.sem1 .sl PP (Builtin.append_ #[T_Sint, T_Sint] T_Sint #[Sl.v ξ1088, Sl.v ρ1086]) ω1087 fun (ρ1089 : Sl) ω1090 =>
  pr.sem1 .sl PP (Builtin.append_ #[T_Sint, T_Sint] T_Sint #[Sl.v ξ1074, Sl.v ρ963]) ω1090 fun (ρ1091 : Sl) ω1092 =>
  pr.idxK 1 a_5 row_9 fun (a1093 : Addr) =>
  pr.storeC a1093 (Sl.v ρ1089) ω1092 fun ω1094 =>
  pr.idxK 1 b_6 row_9 fun (a1095 : Addr) =>
  pr.storeC a1095 (Sl.v ρ1091) ω1094 fun ω1096 =>
  k (emb5 a_5 b_6 t16 t17 (w64 (t18 + 1))) ω1096))) ∧
  (pr.load1 .sl a110 ω964 fun (ξ1097 : Sl) =>
  (pr.load1 .sl a109 ω964 fun (ξ1098 : Sl) =>
  pr.load1 (.int .i64) v_8 ω964 fun (ξ1099 : Int) =>
  pr.sem1 .sl PP (Instr.buildSlice T_Sint 1 #[(0, vI ξ1099)]) ω964 fun (ρ1100 : Sl) ω1101 =>
  pr.sem1 .sl PP (Builtin.append_ #[T_Sint, T_Sint] T_Sint #[Sl.v ξ1098, Sl.v ρ1100]) ω1101 fun (ρ1102 : Sl) ω1103 =>
  pr.sem1 .sl PP (Builtin.append_ #[T_Sint, T_Sint] T_Sint #[Sl.v ξ1097, Sl.v ρ963]) ω1103 fun (ρ1104 : Sl) ω1105 =>
  pr.idxK 1 a_5 row_9 fun (a1106 : Addr) =>
  pr.storeC a1106 (Sl.v ρ1102) ω1105 fun ω1107 =>
  pr.idxK 1 b_6 row_9 fun (a1108 : Addr) =>
  pr.storeC a1108 (Sl.v ρ1104) ω1107 fun ω1109 =>
  k (emb5 a_5 b_6 t16 t17 (w64 (t18 + 1))) ω1109) ∧
  (pr.load1 (.int .i64) v_8 ω964 fun (ξ1110 : Int) =>
  (pr.load1 .sl a109 ω964 fun (ξ1111 : Sl) =>
  pr.sem1 .sl PP (Instr.buildSlice T_Sint 1 #[(0, vI ξ1110)]) ω964 fun (ρ1112 : Sl) ω1113 =>
  pr.sem1 .sl PP (Builtin.append_ #[T_Sint, T_Sint] T_Sint #[Sl.v ξ1111, Sl.v ρ1112]) ω1113 fun (ρ1114 : Sl) ω1115 =>
  pr.sem1 .sl PP (Builtin.append_ #[T_Sint, T_Sint] T_Sint #[Sl.v ξ1097, Sl.v ρ963]) ω1115 fun (ρ1116 : Sl) ω1117 =>
  pr.idxK 1 a_5 row_9 fun (a1118 : Addr) =>
  pr.storeC a1118 (Sl.v ρ1114) ω1117 fun ω1119 =>
  pr.idxK 1 b_6 row_9 fun (a1120 : Addr) =>
  pr.storeC a1120 (Sl.v ρ1116) ω1119 fun ω1121 =>
  k (emb5 a_5 b_6 t16 t17 (w64 (t18 + 1))) ω1121) ∧
  (pr.sem1 .sl PP (Instr.buildSlice T_Sint 1 #[(0, vI ξ1110)]) ω964 fun (ρ1122 : Sl) ω1123 =>
  pr.load1 .sl a109 ω1123 fun (ξ1124 : Sl) =>
  pr.sem1 .sl PP (Builtin.append_ #[T_Sint, T_Sint] T_Sint #[Sl.v ξ1124, Sl.v ρ1122]) ω1123 fun (ρ1125 : Sl) ω1126 =>
  pr.sem1 .sl PP (Builtin.append_ #[T_Sint, T_Sint] T_Sint #[Sl.v ξ1097, Sl.v ρ963]) ω1126 fun (ρ1127 : Sl) ω1128 =>
  pr.idxK 1 a_5 row_9 fun (a1129 : Addr) =>
  pr.storeC a1129 (Sl.v ρ1125) ω1128 fun ω1130 =>
  pr.idxK 1 b_6 row_9 fun (a1131 : Addr) =>
  pr.storeC a1131 (Sl.v ρ1127) ω1130 fun ω1132 =>
  k (emb5 a_5 b_6 t16 t17 (w64 (t18 + 1))) ω1132))))) := by kernel_rfl
theorem J15_s (a_5 : Sl) (b_6 : Sl) (i_7 : Int) (v_8 : Addr) (row_9 : Int) (t16 : Sl) (t17 : Int) (t18 : Int) (w : World) (k : Env → World → Prop) (Q : Exit → Env → World → Prop) : J15 std a_5 b_6 i_7 v_8 row_9 t16 t17 t18 w k Q = (
  drewAll w fun ω108 =>
  idxK 1 a_5 row_9 fun (a109 : Addr) =>
  idxK 1 b_6 row_9 fun (a110 : Addr) =>
  (load1 .sl a109 ω108 fun (ξ111 : Sl) =>
  (load1 (.int .i64) v_8 ω108 fun (ξ112 : Int) =>
  (sem1 .sl PP (Instr.buildSlice T_Sint 1 #[(0, vI ξ112)]) ω108 fun (ρ113 : Sl) ω114 =>
  (sem1 .sl PP (Builtin.append_ #[T_Sint, T_Sint] T_Sint #[Sl.v ξ111, Sl.v ρ113]) ω114 fun (ρ115 : Sl) ω116 =>
  (load1 .sl a110 ω116 fun (ξ117 : Sl) =>
  sem1 .sl PP (Instr.buildSlice T_Sint 1 #[(0, vI (w64 (i_7 + 1)))]) ω116 fun (ρ118 : Sl) ω119 =>
  sem1 .sl PP (Builtin.append_ #[T_Sint, T_Sint] T_Sint #[Sl.v ξ117, Sl.v ρ118]) ω119 fun (ρ120 : Sl) ω121 =>
  idxK 1 a_5 row_9 fun (a122 : Addr) =>
  storeC a122 (Sl.v ρ115) ω121 fun ω123 =>
  idxK 1 b_6 row_9 fun (a124 : Addr) =>
  storeC a124 (Sl.v ρ120) ω123 fun ω125 =>
  k (emb5 a_5 b_6 t16 t17 (w64 (t18 + 1))) ω125) ∧
  (sem1 .sl PP (Instr.buildSlice T_Sint 1 #[(0, vI (w64 (i_7 + 1)))]) ω116 fun (ρ126 : Sl) ω127 =>
  load1 .sl a110 ω127 fun (ξ128 : Sl) =>
  sem1 .sl PP (Builtin.append_ #[T_Sint, T_Sint] T_Sint #[Sl.v ξ128, Sl.v ρ126]) ω127 fun (ρ129 : Sl) ω130 =>
  idxK 1 a_5 row_9 fun (a131 : Addr) =>
  storeC a131 (Sl.v ρ115) ω130 fun ω132 =>
  idxK 1 b_6 row_9 fun (a133 : Addr) =>
  storeC a133 (Sl.v ρ129) ω132 fun ω134 =>
  k (emb5 a_5 b_6 t16 t17 (w64 (t18 + 1))) ω134)) ∧
  (load1 .sl a110 ω114 fun (ξ135 : Sl) =>
  (sem1 .sl PP (Builtin.append_ #[T_Sint, T_Sint] T_Sint #[Sl.v ξ111, Sl.v ρ113]) ω114 fun (ρ136 : Sl) ω137 =>
  sem1 .sl PP (Instr.buildSlice T_Sint 1 #[(0, vI (w64 (i_7 + 1)))]) ω137 fun (ρ138 : Sl) ω139 =>
  sem1 .sl PP (Builtin.append_ #[T_Sint, T_Sint] T_Sint #[Sl.v ξ135, Sl.v ρ138]) ω139 fun (ρ140 : Sl) ω141 =>
  idxK 1 a_5 row_9 fun (a142 : Addr) =>
  storeC a142 (Sl.v ρ136) ω141 fun ω143 =>
  idxK 1 b_6 row_9 fun (a144 : Addr) =>
  storeC a144 (Sl.v ρ140) ω143 fun ω145 =>
  k (emb5 a_5 b_6 t16 t17 (w64 (t18 + 1))) ω145) ∧
  (sem1 .sl PP (Instr.buildSlice T_Sint 1 #[(0, vI (w64 (i_7 + 1)))]) ω114 fun (ρ146 : Sl) ω147 =>
  sem1 .sl PP (Builtin.append_ #[T_Sint, T_Sint] T_Sint #[Sl.v ξ111, Sl.v ρ113]) ω147 fun (ρ148 : Sl) ω149 =>
  sem1 .sl PP (Builtin.append_ #[T_Sint, T_Sint] T_Sint #[Sl.v ξ135, Sl.v ρ146]) ω149 fun (ρ150 : Sl) ω151 =>
  idxK 1 a_5 row_9 fun (a152 : Addr) =>
  storeC a152 (Sl.v ρ148) ω151 fun ω153 =>
  idxK 1 b_6 row_9 fun (a154 : Addr) =>
  storeC a154 (Sl.v ρ150) ω153 fun ω155 =>
  k (emb5 a_5 b_6 t16 t17 (w64 (t18 + 1))) ω155)) ∧
  (sem1 .sl PP (Instr.buildSlice T_Sint 1 #[(0, vI (w64 (i_7 + 1)))]) ω114 fun (ρ156 : Sl) ω157 =>
  (sem1 .sl PP (Builtin.append_ #[T_Sint, T_Sint] T_Sint #[Sl.v ξ111, Sl.v ρ113]) ω157 fun (ρ158 : Sl) ω159 =>
  load1 .sl a110 ω159 fun (ξ160 : Sl) =>
  sem1 .sl PP (Builtin.append_ #[T_Sint, T_Sint] T_Sint #[Sl.v ξ160, Sl.v ρ156]) ω159 fun (ρ161 : Sl) ω162 =>
  idxK 1 a_5 row_9 fun (a163 : Addr) =>
  storeC a163 (Sl.v ρ158) ω162 fun ω164 =>
  idxK 1 b_6 row_9 fun (a165 : Addr) =>
  storeC a165 (Sl.v ρ161) ω164 fun ω166 =>
  k (emb5 a_5 b_6 t16 t17 (w64 (t18 + 1))) ω166) ∧
  (load1 .sl a110 ω157 fun (ξ167 : Sl) =>
  sem1 .sl PP (Builtin.append_ #[T_Sint, T_Sint] T_Sint #[Sl.v ξ111, Sl.v ρ113]) ω157 fun (ρ168 : Sl) ω169 =>
  sem1 .sl PP (Builtin.append_ #[T_Sint, T_Sint] T_Sint #[Sl.v ξ167, Sl.v ρ156]) ω169 fun (ρ170 : Sl) ω171 =>
  idxK 1 a_5 row_9 fun (a172 : Addr) =>
  storeC a172 (Sl.v ρ168) ω171 fun ω173 =>
  idxK 1 b_6 row_9 fun (a174 : Addr) =>
  storeC a174 (Sl.v ρ170) ω173 fun ω175 =>
  k (emb5 a_5 b_6 t16 t17 (w64 (t18 + 1))) ω175))) ∧
  (load1 .sl a110 ω108 fun (ξ176 : Sl) =>
  (sem1 .sl PP (Instr.buildSlice T_Sint 1 #[(0, vI ξ112)]) ω108 fun (ρ177 : Sl) ω178 =>
  (sem1 .sl PP (Builtin.append_ #[T_Sint, T_Sint] T_Sint #[Sl.v ξ111, Sl.v ρ177]) ω178 fun (ρ179 : Sl) ω180 =>
  sem1 .sl PP (Instr.buildSlice T_Sint 1 #[(0, vI (w64 (i_7 + 1)))]) ω180 fun (ρ181 : Sl) ω182 =>
  sem1 .sl PP (Builtin.append_ #[T_Sint, T_Sint] T_Sint #[Sl.v ξ176, Sl.v ρ181]) ω182 fun (ρ183 : Sl) ω184 =>
  idxK 1 a_5 row_9 fun (a185 : Addr) =>
  storeC a185 (Sl.v ρ179) ω184 fun ω186 =>
  idxK 1 b_6 row_9 fun (a187 : Addr) =>
  storeC a187 (Sl.v ρ183) ω186 fun ω188 =>
  k (emb5 a_5 b_6 t16 t17 (w64 (t18 + 1))) ω188) ∧
  (sem1 .sl PP (Instr.buildSlice T_Sint 1 #[(0, vI (w64 (i_7 + 1)))]) ω178 fun (ρ189 : Sl) ω190 =>
  sem1 .sl PP (Builtin.append_ #[T_Sint, T_Sint] T_Sint #[Sl.v ξ111, Sl.v ρ177]) ω190 fun (ρ191 : Sl) ω192 =>
  sem1 .sl PP (Builtin.append_ #[T_Sint, T_Sint] T_Sint #[Sl.v ξ176, Sl.v ρ189]) ω192 fun (ρ193 : Sl) ω194 =>
  idxK 1 a_5 row_9 fun (a195 : Addr) =>
  storeC a195 (Sl.v ρ191) ω194 fun ω196 =>
  idxK 1 b_6 row_9 fun (a197 : Addr) =>
  storeC a197 (Sl.v ρ193) ω196 fun ω198 =>
  k (emb5 a_5 b_6 t16 t17 (w64 (t18 + 1))) ω198)) ∧
  (sem1 .sl PP (Instr.buildSlice T_Sint 1 #[(0, vI (w64 (i_7 + 1)))]) ω108 fun (ρ199 : Sl) ω200 =>
  sem1 .sl PP (Instr.buildSlice T_Sint 1 #[(0, vI ξ112)]) ω200 fun (ρ201 : Sl) ω202 =>
  sem1 .sl PP (Builtin.append_ #[T_Sint, T_Sint] T_Sint #[Sl.v ξ111, Sl.v ρ201]) ω202 fun (ρ203 : Sl) ω204 =>
  sem1 .sl PP (Builtin.append_ #[T_Sint, T_Sint] T_Sint #[Sl.v ξ176, Sl.v ρ199]) ω204 fun (ρ205 : Sl) ω206 =>
  idxK 1 a_5 row_9 fun (a207 : Addr) =>
  storeC a207 (Sl.v ρ203) ω206 fun ω208 =>
  idxK 1 b_6 row_9 fun (a209 : Addr) =>
  storeC a209 (Sl.v ρ205) ω208 fun ω210 =>
  k (emb5 a_5 b_6 t16 t17 (w64 (t18 + 1))) ω210)) ∧
  (sem1 .sl PP (Instr.buildSlice T_Sint 1 #[(0, vI (w64 (i_7 + 1)))]) ω108 fun (ρ211 : Sl) ω212 =>
  (sem1 .sl PP (Instr.buildSlice T_Sint 1 #[(0, vI ξ112)]) ω212 fun (ρ213 : Sl) ω214 =>
  (sem1 .sl PP (Builtin.append_ #[T_Sint, T_Sint] T_Sint #[Sl.v ξ111, Sl.v ρ213]) ω214 fun (ρ215 : Sl) ω216 =>
  load1 .sl a110 ω216 fun (ξ217 : Sl) =>
  sem1 .sl PP (Builtin.append_ #[T_Sint, T_Sint] T_Sint #[Sl.v ξ217, Sl.v ρ211]) ω216 fun (ρ218 : Sl) ω219 =>
  idxK 1 a_5 row_9 fun (a220 : Addr) =>
  storeC a220 (Sl.v ρ215) ω219 fun ω221 =>
  idxK 1 b_6 row_9 fun (a222 : Addr) =>
  storeC a222 (Sl.v ρ218) ω221 fun ω223 =>
  k (emb5 a_5 b_6 t16 t17 (w64 (t18 + 1))) ω223) ∧
  (load1 .sl a110 ω214 fun (ξ224 : Sl) =>
  sem1 .sl PP (Builtin.append_ #[T_Sint, T_Sint] T_Sint #[Sl.v ξ111, Sl.v ρ213]) ω214 fun (ρ225 : Sl) ω226 =>
  sem1 .sl PP (Builtin.append_ #[T_Sint, T_Sint] T_Sint #[Sl.v ξ224, Sl.v ρ211]) ω226 fun (ρ227 : Sl) ω228 =>
  idxK 1 a_5 row_9 fun (a229 : Addr) =>
  storeC a229 (Sl.v ρ225) ω228 fun ω230 =>
  idxK 1 b_6 row_9 fun (a231 : Addr) =>
  storeC a231 (Sl.v ρ227) ω230 fun ω232 =>
  k (emb5 a_5 b_6 t16 t17 (w64 (t18 + 1))) ω232)) ∧
  (load1 .sl a110 ω212 fun (ξ233 : Sl) =>
  sem1 .sl PP (Instr.buildSlice T_Sint 1 #[(0, vI ξ112)]) ω212 fun (ρ234 : Sl) ω235 =>
  sem1 .sl PP (Builtin.append_ #[T_Sint, T_Sint] T_Sint #[Sl.v ξ111, Sl.v ρ234]) ω235 fun (ρ236 : Sl) ω237 =>
  sem1 .sl PP (Builtin.append_ #[T_Sint, T_Sint] T_Sint #[Sl.v ξ233, Sl.v ρ211]) ω237 fun (ρ238 : Sl) ω239 =>
  idxK 1 a_5 row_9 fun (a240 : Addr) =>
  storeC a240 (Sl.v ρ236) ω239 fun ω241 =>
  idxK 1 b_6 row_9 fun (a242 : Addr) =>
  storeC a242 (Sl.v ρ238) ω241 fun ω243 =>
  k (emb5 a_5 b_6 t16 t17 (w64 (t18 + 1))) ω243))) ∧
  (load1 .sl a110 ω108 fun (ξ244 : Sl) =>
  (load1 (.int .i64) v_8 ω108 fun (ξ245 : Int) =>
  (sem1 .sl PP (Instr.buildSlice T_Sint 1 #[(0, vI ξ245)]) ω108 fun (ρ246 : Sl) ω247 =>
  (sem1 .sl PP (Builtin.append_ #[T_Sint, T_Sint] T_Sint #[Sl.v ξ111, Sl.v ρ246]) ω247 fun (ρ248 : Sl) ω249 =>
  sem1 .sl PP (Instr.buildSlice T_Sint 1 #[(0, vI (w64 (i_7 + 1)))]) ω249 fun (ρ250 : Sl) ω251 =>
  sem1 .sl PP (Builtin.append_ #[T_Sint, T_Sint] T_Sint #[Sl.v ξ244, Sl.v ρ250]) ω251 fun (ρ252 : Sl) ω253 =>
  idxK 1 a_5 row_9 fun (a254 : Addr) =>
  storeC a254 (Sl.v ρ248) ω253 fun ω255 =>
  idxK 1 b_6 row_9 fun (a256 : Addr) =>
  storeC a256 (Sl.v ρ252) ω255 fun ω257 =>
  k (emb5 a_5 b_6 t16 t17 (w64 (t18 + 1))) ω257) ∧
  (sem1 .sl PP (Instr.buildSlice T_Sint 1 #[(0, vI (w64 (i_7 + 1)))]) ω247 fun (ρ258 : Sl) ω259 =>
  sem1 .sl PP (Builtin.append_ #[T_Sint, T_Sint] T_Sint #[Sl.v ξ111, Sl.v ρ246]) ω259 fun (ρ260 : Sl) ω261 =>
  sem1 .sl PP (Builtin.append_ #[T_Sint, T_Sint] T_Sint #[Sl.v ξ244, Sl.v ρ258]) ω261 fun (ρ262 : Sl) ω263 =>
  idxK 1 a_5 row_9 fun (a264 : Addr) =>
  storeC a264 (Sl.v ρ260) ω263 fun ω265 =>
  idxK 1 b_6 row_9 fun (a266 : Addr) =>
  storeC a266 (Sl.v ρ262) ω265 fun ω267 =>
  k (emb5 a_5 b_6 t16 t17 (w64 (t18 + 1))) ω267)) ∧
  (sem1 .sl PP (Instr.buildSlice T_Sint 1 #[(0, vI (w64 (i_7 + 1)))]) ω108 fun (ρ268 : Sl) ω269 =>
  sem1 .sl PP (Instr.buildSlice T_Sint 1 #[(0, vI ξ245)]) ω269 fun (ρ270 : Sl) ω271 =>
  sem1 .sl PP (Builtin.append_ #[T_Sint, T_Sint] T_Sint #[Sl.v ξ111, Sl.v ρ270]) ω271 fun (ρ272 : Sl) ω273 =>
  sem1 .sl PP (Builtin.append_ #[T_Sint, T_Sint] T_Sint #[Sl.v ξ244, Sl.v ρ268]) ω273 fun (ρ274 : Sl) ω275 =>
  idxK 1 a_5 row_9 fun (a276 : Addr) =>
  storeC a276 (Sl.v ρ272) ω275 fun ω277 =>
  idxK 1 b_6 row_9 fun (a278 : Addr) =>
  storeC a278 (Sl.v ρ274) ω277 fun ω279 =>
  k (emb5 a_5 b_6 t16 t17 (w64 (t18 + 1))) ω279)) ∧
  (sem1 .sl PP (Instr.buildSlice T_Sint 1 #[(0, vI (w64 (i_7 + 1)))]) ω108 fun (ρ280 : Sl) ω281 =>
  load1 (.int .i64) v_8 ω281 fun (ξ282 : Int) =>
  sem1 .sl PP (Instr.buildSlice T_Sint 1 #[(0, vI ξ282)]) ω281 fun (ρ283 : Sl) ω284 =>
  sem1 .sl PP (Builtin.append_ #[T_Sint, T_Sint] T_Sint #[Sl.v ξ111, Sl.v ρ283]) ω284 fun (ρ285 : Sl) ω286 =>
  sem1 .sl PP (Builtin.append_ #[T_Sint, T_Sint] T_Sint #[Sl.v ξ244, Sl.v ρ280]) ω286 fun (ρ287 : Sl) ω288 =>
  idxK 1 a_5 row_9 fun (a289 : Addr) =>
  storeC a289 (Sl.v ρ285) ω288 fun ω290 =>
  idxK 1 b_6 row_9 fun (a291 : Addr) =>
  storeC a291 (Sl.v ρ287) ω290 fun ω292 =>
  k (emb5 a_5 b_6 t16 t17 (w64 (t18 + 1))) ω292)) ∧
  (sem1 .sl PP (Instr.buildSlice T_Sint 1 #[(0, vI (w64 (i_7 + 1)))]) ω108 fun (ρ293 : Sl) ω294 =>
  (load1 (.int .i64) v_8 ω294 fun (ξ295 : Int) =>
  (sem1 .sl PP (Instr.buildSlice T_Sint 1 #[(0, vI ξ295)]) ω294 fun (ρ296 : Sl) ω297 =>
  (sem1 .sl PP (Builtin.append_ #[T_Sint, T_Sint] T_Sint #[Sl.v ξ111, Sl.v ρ296]) ω297 fun (ρ298 : Sl) ω299 =>
  load1 .sl a110 ω299 fun (ξ300 : Sl) =>
  sem1 .sl PP (Builtin.append_ #[T_Sint, T_Sint] T_Sint #[Sl.v ξ300, Sl.v ρ293]) ω299 fun (ρ301 : Sl) ω302 =>
  idxK 1 a_5 row_9 fun (a303 : Addr) =>
  storeC a303 (Sl.v ρ298) ω302 fun ω304 =>
  idxK 1 b_6 row_9 fun (a305 : Addr) =>
  storeC a305 (Sl.v ρ301) ω304 fun ω306 =>
  k (emb5 a_5 b_6 t16 t17 (w64 (t18 + 1))) ω306) ∧
  (load1 .sl a110 ω297 fun (ξ307 : Sl) =>
  sem1 .sl PP (Builtin.append_ #[T_Sint, T_Sint] T_Sint #[Sl.v ξ111, Sl.v ρ296]) ω297 fun (ρ308 : Sl) ω309 =>
  sem1 .sl PP (Builtin.append_ #[T_Sint, T_Sint] T_Sint #[Sl.v ξ307, Sl.v ρ293]) ω309 fun (ρ310 : Sl) ω311 =>
  idxK 1 a_5 row_9 fun (a312 : Addr) =>
  storeC a312 (Sl.v ρ308) ω311 fun ω313 =>
  idxK 1 b_6 row_9 fun (a314 : Addr) =>
  storeC a314 (Sl.v ρ310) ω313 fun ω315 =>
  k (emb5 a_5 b_6 t16 t17 (w64 (t18 + 1))) ω315)) ∧
  (load1 .sl a110 ω294 fun (ξ316 : Sl) =>
  sem1 .sl PP (Instr.buildSlice T_Sint 1 #[(0, vI ξ295)]) ω294 fun (ρ317 : Sl) ω318 =>
  sem1 .sl PP (Builtin.append_ #[T_Sint, T_Sint] T_Sint #[Sl.v ξ111, Sl.v ρ317]) ω318 fun (ρ319 : Sl) ω320 =>
  sem1 .sl PP (Builtin.append_ #[T_Sint, T_Sint] T_Sint #[Sl.v ξ316, Sl.v ρ293]) ω320 fun (ρ321 : Sl) ω322 =>
  idxK 1 a_5 row_9 fun (a323 : Addr) =>
  storeC a323 (Sl.v ρ319) ω322 fun ω324 =>
  idxK 1 b_6 row_9 fun (a325 : Addr) =>
  storeC a325 (Sl.v ρ321) ω324 fun ω326 =>
  k (emb5 a_5 b_6 t16 t17 (w64 (t18 + 1))) ω326)) ∧
  (load1 .sl a110 ω294 fun (ξ327 : Sl) =>
  load1 (.int .i64) v_8 ω294 fun (ξ328 : Int) =>
  sem1 .sl PP (Instr.buildSlice T_Sint 1 #[(0, vI ξ328)]) ω294 fun (ρ329 : Sl) ω330 =>
  sem1 .sl PP (Builtin.append_ #[T_Sint, T_Sint] T_Sint #[Sl.v ξ111, Sl.v ρ329]) ω330 fun (ρ331 : Sl) ω332 =>
  sem1 .sl PP (Builtin.append_ #[T_Sint, T_Sint] T_Sint #[Sl.v ξ327, Sl.v ρ293]) ω332 fun (ρ333 : Sl) ω334 =>
  idxK 1 a_5 row_9 fun (a335 : Addr) =>
  storeC a335 (Sl.v ρ331) ω334 fun ω336 =>
  idxK 1 b_6 row_9 fun (a337 : Addr) =>
  storeC a337 (Sl.v ρ333) ω336 fun ω338 =>
  k (emb5 a_5 b_6 t16 t17 (w64 (t18 + 1))) ω338))) ∧
  (load1 (.int .i64) v_8 ω108 fun (ξ339 : Int) =>
  (load1 .sl a109 ω108 fun (ξ340 : Sl) =>
  (sem1 .sl PP (Instr.buildSlice T_Sint 1 #[(0, vI ξ339)]) ω108 fun (ρ341 : Sl) ω342 =>
  (sem1 .sl PP (Builtin.append_ #[T_Sint, T_Sint] T_Sint #[Sl.v ξ340, Sl.v ρ341]) ω342 fun (ρ343 : Sl) ω344 =>
  (load1 .sl a110 ω344 fun (ξ345 : Sl) =>
  sem1 .sl PP (Instr.buildSlice T_Sint 1 #[(0, vI (w64 (i_7 + 1)))]) ω344 fun (ρ346 : Sl) ω347 =>
  sem1 .sl PP (Builtin.append_ #[T_Sint, T_Sint] T_Sint #[Sl.v ξ345, Sl.v ρ346]) ω347 fun (ρ348 : Sl) ω349 =>
  idxK 1 a_5 row_9 fun (a350 : Addr) =>
  storeC a350 (Sl.v ρ343) ω349 fun ω351 =>
  idxK 1 b_6 row_9 fun (a352 : Addr) =>
  storeC a352 (Sl.v ρ348) ω351 fun ω353 =>
  k (emb5 a_5 b_6 t16 t17 (w64 (t18 + 1))) ω353) ∧
  (sem1 .sl PP (Instr.buildSlice T_Sint 1 #[(0, vI (w64 (i_7 + 1)))]) ω344 fun (ρ354 : Sl) ω355 =>
  load1 .sl a110 ω355 fun (ξ356 : Sl) =>
  sem1 .sl PP (Builtin.append_ #[T_Sint, T_Sint] T_Sint #[Sl.v ξ356, Sl.v ρ354]) ω355 fun (ρ357 : Sl) ω358 =>
  idxK 1 a_5 row_9 fun (a359 : Addr) =>
  storeC a359 (Sl.v ρ343) ω358 fun ω360 =>
  idxK 1 b_6 row_9 fun (a361 : Addr) =>
  storeC a361 (Sl.v ρ357) ω360 fun ω362 =>
  k (emb5 a_5 b_6 t16 t17 (w64 (t18 + 1))) ω362)) ∧
  (load1 .sl a110 ω342 fun (ξ363 : Sl) =>
  (sem1 .sl PP (Builtin.append_ #[T_Sint, T_Sint] T_Sint #[Sl.v ξ340, Sl.v ρ341]) ω342 fun (ρ364 : Sl) ω365 =>
  sem1 .sl PP (Instr.buildSlice T_Sint 1 #[(0, vI (w64 (i_7 + 1)))]) ω365 fun (ρ366 : Sl) ω367 =>
  sem1 .sl PP (Builtin.append_ #[T_Sint, T_Sint] T_Sint #[Sl.v ξ363, Sl.v ρ366]) ω367 fun (ρ368 : Sl) ω369 =>
  idxK 1 a_5 row_9 fun (a370 : Addr) =>
  storeC a370 (Sl.v ρ364) ω369 fun ω371 =>
  idxK 1 b_6 row_9 fun (a372 : Addr) =>
  storeC a372 (Sl.v ρ368) ω371 fun ω373 =>
  k (emb5 a_5 b_6 t16 t17 (w64 (t18 + 1))) ω373) ∧
  (sem1 .sl PP (Instr.buildSlice T_Sint 1 #[(0, vI (w64 (i_7 + 1)))]) ω342 fun (ρ374 : Sl) ω375 =>
  sem1 .sl PP (Builtin.append_ #[T_Sint, T_Sint] T_Sint #[Sl.v ξ340, Sl.v ρ341]) ω375 fun (ρ376 : Sl) ω377 =>
  sem1 .sl PP (Builtin.append_ #[T_Sint, T_Sint] T_Sint #[Sl.v ξ363, Sl.v ρ374]) ω377 fun (ρ378 : Sl) ω379 =>
  idxK 1 a_5 row_9 fun (a380 : Addr) =>
  storeC a380 (Sl.v ρ376) ω379 fun ω381 =>
  idxK 1 b_6 row_9 fun (a382 : Addr) =>
  storeC a382 (Sl.v ρ378) ω381 fun ω383 =>
  k (emb5 a_5 b_6 t16 t17 (w64 (t18 + 1))) ω383)) ∧
  (sem1 .sl PP (Instr.buildSlice T_Sint 1 #[(0, vI (w64 (i_7 + 1)))]) ω342 fun (ρ384 : Sl) ω385 =>
  (sem1 .sl PP (Builtin.append_ #[T_Sint, T_Sint] T_Sint #[Sl.v ξ340, Sl.v ρ341]) ω385 fun (ρ386 : Sl) ω387 =>
  load1 .sl a110 ω387 fun (ξ388 : Sl) =>
  sem1 .sl PP (Builtin.append_ #[T_Sint, T_Sint] T_Sint #[Sl.v ξ388, Sl.v ρ384]) ω387 fun (ρ389 : Sl) ω390 =>
  idxK 1 a_5 row_9 fun (a391 : Addr) =>
  storeC a391 (Sl.v ρ386) ω390 fun ω392 =>
  idxK 1 b_6 row_9 fun (a393 : Addr) =>
  storeC a393 (Sl.v ρ389) ω392 fun ω394 =>
  k (emb5 a_5 b_6 t16 t17 (w64 (t18 + 1))) ω394) ∧
  (load1 .sl a110 ω385 fun (ξ395 : Sl) =>
  sem1 .sl PP (Builtin.append_ #[T_Sint, T_Sint] T_Sint #[Sl.v ξ340, Sl.v ρ341]) ω385 fun (ρ396 : Sl) ω397 =>
  sem1 .sl PP (Builtin.append_ #[T_Sint, T_Sint] T_Sint #[Sl.v ξ395, Sl.v ρ384]) ω397 fun (ρ398 : Sl) ω399 =>
  idxK 1 a_5 row_9 fun (a400 : Addr) =>
  storeC a400 (Sl.v ρ396) ω399 fun ω401 =>
  idxK 1 b_6 row_9 fun (a402 : Addr) =>
  storeC a402 (Sl.v ρ398) ω401 fun ω403 =>
  k (emb5 a_5 b_6 t16 t17 (w64 (t18 + 1))) ω403))) ∧
  (load1 .sl a110 ω108 fun (ξ404 : Sl) =>
  (sem1 .sl PP (Instr.buildSlice T_Sint 1 #[(0, vI ξ339)]) ω108 fun (ρ405 : Sl) ω406 =>
  (sem1 .sl PP (Builtin.append_ #[T_Sint, T_Sint] T_Sint #[Sl.v ξ340, Sl.v ρ405]) ω406 fun (ρ407 : Sl) ω408 =>
  sem1 .sl PP (Instr.buildSlice T_Sint 1 #[(0, vI (w64 (i_7 + 1)))]) ω408 fun (ρ409 : Sl) ω410 =>
  sem1 .sl PP (Builtin.append_ #[T_Sint, T_Sint] T_Sint #[Sl.v ξ404, Sl.v ρ409]) ω410 fun (ρ411 : Sl) ω412 =>
  idxK 1 a_5 row_9 fun (a413 : Addr) =>
  storeC a413 (Sl.v ρ407) ω412 fun ω414 =>
  idxK 1 b_6 row_9 fun (a415 : Addr) =>
  storeC a415 (Sl.v ρ411) ω414 fun ω416 =>
  k (emb5 a_5 b_6 t16 t17 (w64 (t18 + 1))) ω416) ∧
  (sem1 .sl PP (Instr.buildSlice T_Sint 1 #[(0, vI (w64 (i_7 + 1)))]) ω406 fun (ρ417 : Sl) ω418 =>
  sem1 .sl PP (Builtin.append_ #[T_Sint, T_Sint] T_Sint #[Sl.v ξ340, Sl.v ρ405]) ω418 fun (ρ419 : Sl) ω420 =>
  sem1 .sl PP (Builtin.append_ #[T_Sint, T_Sint] T_Sint #[Sl.v ξ404, Sl.v ρ417]) ω420 fun (ρ421 : Sl) ω422 =>
  idxK 1 a_5 row_9 fun (a423 : Addr) =>
  storeC a423 (Sl.v ρ419) ω422 fun ω424 =>
  idxK 1 b_6 row_9 fun (a425 : Addr) =>
  storeC a425 (Sl.v ρ421) ω424 fun ω426 =>
  k (emb5 a_5 b_6 t16 t17 (w64 (t18 + 1))) ω426)) ∧
  (sem1 .sl PP (Instr.buildSlice T_Sint 1 #[(0, vI (w64 (i_7 + 1)))]) ω108 fun (ρ427 : Sl) ω428 =>
  sem1 .sl PP (Instr.buildSlice T_Sint 1 #[(0, vI ξ339)]) ω428 fun (ρ429 : Sl) ω430 =>
  sem1 .sl PP (Builtin.append_ #[T_Sint, T_Sint] T_Sint #[Sl.v ξ340, Sl.v ρ429]) ω430 fun (ρ431 : Sl) ω432 =>
  sem1 .sl PP (Builtin.append_ #[T_Sint, T_Sint] T_Sint #[Sl.v ξ404, Sl.v ρ427]) ω432 fun (ρ433 : Sl) ω434 =>
  idxK 1 a_5 row_9 fun (a435 : Addr) =>
  storeC a435 (Sl.v ρ431) ω434 fun ω436 =>
  idxK 1 b_6 row_9 fun (a437 : Addr) =>
  storeC a437 (Sl.v ρ433) ω436 fun ω438 =>
  k (emb5 a_5 b_6 t16 t17 (w64 (t18 + 1))) ω438)) ∧
  (sem1 .sl PP (Instr.buildSlice T_Sint 1 #[(0, vI (w64 (i_7 + 1)))]) ω108 fun (ρ439 : Sl) ω440 =>
  (sem1 .sl PP (Instr.buildSlice T_Sint 1 #[(0, vI ξ339)]) ω440 fun (ρ441 : Sl) ω442 =>
  (sem1 .sl PP (Builtin.append_ #[T_Sint, T_Sint] T_Sint #[Sl.v ξ340, Sl.v ρ441]) ω442 fun (ρ443 : Sl) ω444 =>
  load1 .sl a110 ω444 fun (ξ445 : Sl) =>
  sem1 .sl PP (Builtin.append_ #[T_Sint, T_Sint] T_Sint #[Sl.v ξ445, Sl.v ρ439]) ω444 fun (ρ446 : Sl) ω447 =>
  idxK 1 a_5 row_9 fun (a448 : Addr) =>
  storeC a448 (Sl.v ρ443) ω447 fun ω449 =>
  idxK 1 b_6 row_9 fun (a450 : Addr) =>
  storeC a450 (Sl.v ρ446) ω449 fun ω451 =>
  k (emb5 a_5 b_6 t16 t17 (w64 (t18 + 1))) ω451) ∧
  (load1 .sl a110 ω442 fun (ξ452 : Sl) =>
  sem1 .sl PP (Builtin.append_ #[T_Sint, T_Sint] T_Sint #[Sl.v ξ340, Sl.v ρ441]) ω442 fun (ρ453 : Sl) ω454 =>
  sem1 .sl PP (Builtin.append_ #[T_Sint, T_Sint] T_Sint #[Sl.v ξ452, Sl.v ρ439]) ω454 fun (ρ455 : Sl) ω456 =>
  idxK 1 a_5 row_9 fun (a457 : Addr) =>
  storeC a457 (Sl.v ρ453) ω456 fun ω458 =>
  idxK 1 b_6 row_9 fun (a459 : Addr) =>
  storeC a459 (Sl.v ρ455) ω458 fun ω460 =>
  k (emb5 a_5 b_6 t16 t17 (w64 (t18 + 1))) ω460)) ∧
  (load1 .sl a110 ω440 fun (ξ461 : Sl) =>
  sem1 .sl PP (Instr.buildSlice T_Sint 1 #[(0, vI ξ339)]) ω440 fun (ρ462 : Sl) ω463 =>
  sem1 .sl PP (Builtin.append_ #[T_Sint, T_Sint] T_Sint #[Sl.v ξ340, Sl.v ρ462]) ω463 fun (ρ464 : Sl) ω465 =>
  sem1 .sl PP (Builtin.append_ #[T_Sint, T_Sint] T_Sint #[Sl.v ξ461, Sl.v ρ439]) ω465 fun (ρ466 : Sl) ω467 =>
  idxK 1 a_5 row_9 fun (a468 : Addr) =>
  storeC a468 (Sl.v ρ464) ω467 fun ω469 =>
  idxK 1 b_6 row_9 fun (a470 : Addr) =>
  storeC a470 (Sl.v ρ466) ω469 fun ω471 =>
  k (emb5 a_5 b_6 t16 t17 (w64 (t18 + 1))) ω471))) ∧
  (sem1 .sl PP (Instr.buildSlice T_Sint 1 #[(0, vI ξ339)]) ω108 fun (ρ472 : Sl) ω473 =>
  (load1 .sl a109 ω473 fun (ξ474 : Sl) =>
  (sem1 .sl PP (Builtin.append_ #[T_Sint, T_Sint] T_Sint #[Sl.v ξ474, Sl.v ρ472]) ω473 fun (ρ475 : Sl) ω476 =>
  (load1 .sl a110 ω476 fun (ξ477 : Sl) =>
  sem1 .sl PP (Instr.buildSlice T_Sint 1 #[(0, vI (w64 (i_7 + 1)))]) ω476 fun (ρ478 : Sl) ω479 =>
  sem1 .sl PP (Builtin.append_ #[T_Sint, T_Sint] T_Sint #[Sl.v ξ477, Sl.v ρ478]) ω479 fun (ρ480 : Sl) ω481 =>
  idxK 1 a_5 row_9 fun (a482 : Addr) =>
  storeC a482 (Sl.v ρ475) ω481 fun ω483 =>
  idxK 1 b_6 row_9 fun (a484 : Addr) =>
  storeC a484 (Sl.v ρ480) ω483 fun ω485 =>
  k (emb5 a_5 b_6 t16 t17 (w64 (t18 + 1))) ω485) ∧
  (sem1 .sl PP (Instr.buildSlice T_Sint 1 #[(0, vI (w64 (i_7 + 1)))]) ω476 fun (ρ486 : Sl) ω487 =>
  load1 .sl a110 ω487 fun (ξ488 : Sl) =>
  sem1 .sl PP (Builtin.append_ #[T_Sint, T_Sint] T_Sint #[Sl.v ξ488, Sl.v ρ486]) ω487 fun (ρ489 : Sl) ω490 =>
  idxK 1 a_5 row_9 fun (a491 : Addr) =>
  storeC a491 (Sl.v ρ475) ω490 fun ω492 =>
  idxK 1 b_6 row_9 fun (a493 : Addr) =>
  storeC a493 (Sl.v ρ489) ω492 fun ω494 =>
  k (emb5 a_5 b_6 t16 t17 (w64 (t18 + 1))) ω494)) ∧
  (load1 .sl a110 ω473 fun (ξ495 : Sl) =>
  (sem1 .sl PP (Builtin.append_ #[T_Sint, T_Sint] T_Sint #[Sl.v ξ474, Sl.v ρ472]) ω473 fun (ρ496 : Sl) ω497 =>
  sem1 .sl PP (Instr.buildSlice T_Sint 1 #[(0, vI (w64 (i_7 + 1)))]) ω497 fun (ρ498 : Sl) ω499 =>
  sem1 .sl PP (Builtin.append_ #[T_Sint, T_Sint] T_Sint #[Sl.v ξ495, Sl.v ρ498]) ω499 fun (ρ500 : Sl) ω501 =>
  idxK 1 a_5 row_9 fun (a502 : Addr) =>
  storeC a502 (Sl.v ρ496) ω501 fun ω503 =>
  idxK 1 b_6 row_9 fun (a504 : Addr) =>
  storeC a504 (Sl.v ρ500) ω503 fun ω505 =>
  k (emb5 a_5 b_6 t16 t17 (w64 (t18 + 1))) ω505) ∧
  (sem1 .sl PP (Instr.buildSlice T_Sint 1 #[(0, vI (w64 (i_7 + 1)))]) ω473 fun (ρ506 : Sl) ω507 =>
  sem1 .sl PP (Builtin.append_ #[T_Sint, T_Sint] T_Sint #[Sl.v ξ474, Sl.v ρ472]) ω507 fun (ρ508 : Sl) ω509 =>
  sem1 .sl PP (Builtin.append_ #[T_Sint, T_Sint] T_Sint #[Sl.v ξ495, Sl.v ρ506]) ω509 fun (ρ510 : Sl) ω511 =>
  idxK 1 a_5 row_9 fun (a512 : Addr) =>
  storeC a512 (Sl.v ρ508) ω511 fun ω513 =>
  idxK 1 b_6 row_9 fun (a514 : Addr) =>
  storeC a514 (Sl.v ρ510) ω513 fun ω515 =>
  k (emb5 a_5 b_6 t16 t17 (w64 (t18 + 1))) ω515)) ∧
  (sem1 .sl PP (Instr.buildSlice T_Sint 1 #[(0, vI (w64 (i_7 + 1)))]) ω473 fun (ρ516 : Sl) ω517 =>
  (sem1 .sl PP (Builtin.append_ #[T_Sint, T_Sint] T_Sint #[Sl.v ξ474, Sl.v ρ472]) ω517 fun (ρ518 : Sl) ω519 =>
  load1 .sl a110 ω519 fun (ξ520 : Sl) =>
  sem1 .sl PP (Builtin.append_ #[T_Sint, T_Sint] T_Sint #[Sl.v ξ520, Sl.v ρ516]) ω519 fun (ρ521 : Sl) ω522 =>
  idxK 1 a_5 row_9 fun (a523 : Addr) =>
  storeC a523 (Sl.v ρ518) ω522 fun ω524 =>
  idxK 1 b_6 row_9 fun (a525 : Addr) =>
  storeC a525 (Sl.v ρ521) ω524 fun ω526 =>
  k (emb5 a_5 b_6 t16 t17 (w64 (t18 + 1))) ω526) ∧
  (load1 .sl a110 ω517 fun (ξ527 : Sl) =>
  sem1 .sl PP (Builtin.append_ #[T_Sint, T_Sint] T_Sint #[Sl.v ξ474, Sl.v ρ472]) ω517 fun (ρ528 : Sl) ω529 =>
  sem1 .sl PP (Builtin.append_ #[T_Sint, T_Sint] T_Sint #[Sl.v ξ527, Sl.v ρ516]) ω529 fun (ρ530 : Sl) ω531 =>
  idxK 1 a_5 row_9 fun (a532 : Addr) =>
  storeC a532 (Sl.v ρ528) ω531 fun ω533 =>
  idxK 1 b_6 row_9 fun (a534 : Addr) =>
  storeC a534 (Sl.v ρ530) ω533 fun ω535 =>
  k (emb5 a_5 b_6 t16 t17 (w64 (t18 + 1))) ω535))) ∧
  (load1 .sl a110 ω473 fun (ξ536 : Sl) =>
  (load1 .sl a109 ω473 fun (ξ537 : Sl) =>
  (sem1 .sl PP (Builtin.append_ #[T_Sint, T_Sint] T_Sint #[Sl.v ξ537, Sl.v ρ472]) ω473 fun (ρ538 : Sl) ω539 =>
  sem1 .sl PP (Instr.buildSlice T_Sint 1 #[(0, vI (w64 (i_7 + 1)))]) ω539 fun (ρ540 : Sl) ω541 =>
  sem1 .sl PP (Builtin.append_ #[T_Sint, T_Sint] T_Sint #[Sl.v ξ536, Sl.v ρ540]) ω541 fun (ρ542 : Sl) ω543 =>
  idxK 1 a_5 row_9 fun (a544 : Addr) =>
  storeC a544 (Sl.v ρ538) ω543 fun ω545 =>
  idxK 1 b_6 row_9 fun (a546 : Addr) =>
  storeC a546 (Sl.v ρ542) ω545 fun ω547 =>
  k (emb5 a_5 b_6 t16 t17 (w64 (t18 + 1))) ω547) ∧
  (sem1 .sl PP (Instr.buildSlice T_Sint 1 #[(0, vI (w64 (i_7 + 1)))]) ω473 fun (ρ548 : Sl) ω549 =>
  sem1 .sl PP (Builtin.append_ #[T_Sint, T_Sint] T_Sint #[Sl.v ξ537, Sl.v ρ472]) ω549 fun (ρ550 : Sl) ω551 =>
  sem1 .sl PP (Builtin.append_ #[T_Sint, T_Sint] T_Sint #[Sl.v ξ536, Sl.v ρ548]) ω551 fun (ρ552 : Sl) ω553 =>
  idxK 1 a_5 row_9 fun (a554 : Addr) =>
  storeC a554 (Sl.v ρ550) ω553 fun ω555 =>
  idxK 1 b_6 row_9 fun (a556 : Addr) =>
  storeC a556 (Sl.v ρ552) ω555 fun ω557 =>
  k (emb5 a_5 b_6 t16 t17 (w64 (t18 + 1))) ω557)) ∧
  (sem1 .sl PP (Instr.buildSlice T_Sint 1 #[(0, vI (w64 (i_7 + 1)))]) ω473 fun (ρ558 : Sl) ω559 =>
  load1 .sl a109 ω559 fun (ξ560 : Sl) =>
  sem1 .sl PP (Builtin.append_ #[T_Sint, T_Sint] T_Sint #[Sl.v ξ560, Sl.v ρ472]) ω559 fun (ρ561 : Sl) ω562 =>
  sem1 .sl PP (Builtin.append_ #[T_Sint, T_Sint] T_Sint #[Sl.v ξ536, Sl.v ρ558]) ω562 fun (ρ563 : Sl) ω564 =>
  idxK 1 a_5 row_9 fun (a565 : Addr) =>
  storeC a565 (Sl.v ρ561) ω564 fun ω566 =>
  idxK 1 b_6 row_9 fun (a567 : Addr) =>
  storeC a567 (Sl.v ρ563) ω566 fun ω568 =>
  k (emb5 a_5 b_6 t16 t17 (w64 (t18 + 1))) ω568)) ∧
  (sem1 .sl PP (Instr.buildSlice T_Sint 1 #[(0, vI (w64 (i_7 + 1)))]) ω473 fun (ρ569 : Sl) ω570 =>
  (load1 .sl a109 ω570 fun (ξ571 : Sl) =>
  (sem1 .sl PP (Builtin.append_ #[T_Sint, T_Sint] T_Sint #[Sl.v ξ571, Sl.v ρ472]) ω570 fun (ρ572 : Sl) ω573 =>
  load1 .sl a110 ω573 fun (ξ574 : Sl) =>
  sem1 .sl PP (Builtin.append_ #[T_Sint, T_Sint] T_Sint #[Sl.v ξ574, Sl.v ρ569]) ω573 fun (ρ575 : Sl) ω576 =>
  idxK 1 a_5 row_9 fun (a577 : Addr) =>
  storeC a577 (Sl.v ρ572) ω576 fun ω578 =>
  idxK 1 b_6 row_9 fun (a579 : Addr) =>
  storeC a579 (Sl.v ρ575) ω578 fun ω580 =>
  k (emb5 a_5 b_6 t16 t17 (w64 (t18 + 1))) ω580) ∧
  (load1 .sl a110 ω570 fun (ξ581 : Sl) =>
  sem1 .sl PP (Builtin.append_ #[T_Sint, T_Sint] T_Sint #[Sl.v ξ571, Sl.v ρ472]) ω570 fun (ρ582 : Sl) ω583 =>
  sem1 .sl PP (Builtin.append_ #[T_Sint, T_Sint] T_Sint #[Sl.v ξ581, Sl.v ρ569]) ω583 fun (ρ584 : Sl) ω585 =>
  idxK 1 a_5 row_9 fun (a586 : Addr) =>
  storeC a586 (Sl.v ρ582) ω585 fun ω587 =>
  idxK 1 b_6 row_9 fun (a588 : Addr) =>
  storeC a588 (Sl.v ρ584) ω587 fun ω589 =>
  k (emb5 a_5 b_6 t16 t17 (w64 (t18 + 1))) ω589)) ∧
  (load1 .sl a110 ω570 fun (ξ590 : Sl) =>
  load1 .sl a109 ω570 fun (ξ591 : Sl) =>
  sem1 .sl PP (Builtin.append_ #[T_Sint, T_Sint] T_Sint #[Sl.v ξ591, Sl.v ρ472]) ω570 fun (ρ592 : Sl) ω593 =>
  sem1 .sl PP (Builtin.append_ #[T_Sint, T_Sint] T_Sint #[Sl.v ξ590, Sl.v ρ569]) ω593 fun (ρ594 : Sl) ω595 =>
  idxK 1 a_5 row_9 fun (a596 : Addr) =>
  storeC a596 (Sl.v ρ592) ω595 fun ω597 =>
  idxK 1 b_6 row_9 fun (a598 : Addr) =>
  storeC a598 (Sl.v ρ594) ω597 fun ω599 =>
  k (emb5 a_5 b_6 t16 t17 (w64 (t18 + 1))) ω599))) ∧
  (load1 .sl a110 ω108 fun (ξ600 : Sl) =>
  (load1 .sl a109 ω108 fun (ξ601 : Sl) =>
  (sem1 .sl PP (Instr.buildSlice T_Sint 1 #[(0, vI ξ339)]) ω108 fun (ρ602 : Sl) ω603 =>
  (sem1 .sl PP (Builtin.append_ #[T_Sint, T_Sint] T_Sint #[Sl.v ξ601, Sl.v ρ602]) ω603 fun (ρ604 : Sl) ω605 =>
  sem1 .sl PP (Instr.buildSlice T_Sint 1 #[(0, vI (w64 (i_7 + 1)))]) ω605 fun (ρ606 : Sl) ω607 =>
  sem1 .sl PP (Builtin.append_ #[T_Sint, T_Sint] T_Sint #[Sl.v ξ600, Sl.v ρ606]) ω607 fun (ρ608 : Sl) ω609 =>
  idxK 1 a_5 row_9 fun (a610 : Addr) =>
  storeC a610 (Sl.v ρ604) ω609 fun ω611 =>
  idxK 1 b_6 row_9 fun (a612 : Addr) =>
  storeC a612 (Sl.v ρ608) ω611 fun ω613 =>
  k (emb5 a_5 b_6 t16 t17 (w64 (t18 + 1))) ω613) ∧
  (sem1 .sl PP (Instr.buildSlice T_Sint 1 #[(0, vI (w64 (i_7 + 1)))]) ω603 fun (ρ614 : Sl) ω615 =>
  sem1 .sl PP (Builtin.append_ #[T_Sint, T_Sint] T_Sint #[Sl.v ξ601, Sl.v ρ602]) ω615 fun (ρ616 : Sl) ω617 =>
  sem1 .sl PP (Builtin.append_ #[T_Sint, T_Sint] T_Sint #[Sl.v ξ600, Sl.v ρ614]) ω617 fun (ρ618 : Sl) ω619 =>
  idxK 1 a_5 row_9 fun (a620 : Addr) =>
  storeC a620 (Sl.v ρ616) ω619 fun ω621 =>
  idxK 1 b_6 row_9 fun (a622 : Addr) =>
  storeC a622 (Sl.v ρ618) ω621 fun ω623 =>
  k (emb5 a_5 b_6 t16 t17 (w64 (t18 + 1))) ω623)) ∧
  (sem1 .sl PP (Instr.buildSlice T_Sint 1 #[(0, vI (w64 (i_7 + 1)))]) ω108 fun (ρ624 : Sl) ω625 =>
  sem1 .sl PP (Instr.buildSlice T_Sint 1 #[(0, vI ξ339)]) ω625 fun (ρ626 : Sl) ω627 =>
  sem1 .sl PP (Builtin.append_ #[T_Sint, T_Sint] T_Sint #[Sl.v ξ601, Sl.v ρ626]) ω627 fun (ρ628 : Sl) ω629 =>
  sem1 .sl PP (Builtin.append_ #[T_Sint, T_Sint] T_Sint #[Sl.v ξ600, Sl.v ρ624]) ω629 fun (ρ630 : Sl) ω631 =>
  idxK 1 a_5 row_9 fun (a632 : Addr) =>
  storeC a632 (Sl.v ρ628) ω631 fun ω633 =>
  idxK 1 b_6 row_9 fun (a634 : Addr) =>
  storeC a634 (Sl.v ρ630) ω633 fun ω635 =>
  k (emb5 a_5 b_6 t16 t17 (w64 (t18 + 1))) ω635)) ∧
  (sem1 .sl PP (Instr.buildSlice T_Sint 1 #[(0, vI ξ339)]) ω108 fun (ρ636 : Sl) ω637 =>
  (load1 .sl a109 ω637 fun (ξ638 : Sl) =>
  (sem1 .sl PP (Builtin.append_ #[T_Sint, T_Sint] T_Sint #[Sl.v ξ638, Sl.v ρ636]) ω637 fun (ρ639 : Sl) ω640 =>
  sem1 .sl PP (Instr.buildSlice T_Sint 1 #[(0, vI (w64 (i_7 + 1)))]) ω640 fun (ρ641 : Sl) ω642 =>
  sem1 .sl PP (Builtin.append_ #[T_Sint, T_Sint] T_Sint #[Sl.v ξ600, Sl.v ρ641]) ω642 fun (ρ643 : Sl) ω644 =>
  idxK 1 a_5 row_9 fun (a645 : Addr) =>
  storeC a645 (Sl.v ρ639) ω644 fun ω646 =>
  idxK 1 b_6 row_9 fun (a647 : Addr) =>
  storeC a647 (Sl.v ρ643) ω646 fun ω648 =>
  k (emb5 a_5 b_6 t16 t17 (w64 (t18 + 1))) ω648) ∧
  (sem1 .sl PP (Instr.buildSlice T_Sint 1 #[(0, vI (w64 (i_7 + 1)))]) ω637 fun (ρ649 : Sl) ω650 =>
  sem1 .sl PP (Builtin.append_ #[T_Sint, T_Sint] T_Sint #[Sl.v ξ638, Sl.v ρ636]) ω650 fun (ρ651 : Sl) ω652 =>
  sem1 .sl PP (Builtin.append_ #[T_Sint, T_Sint] T_Sint #[Sl.v ξ600, Sl.v ρ649]) ω652 fun (ρ653 : Sl) ω654 =>
  idxK 1 a_5 row_9 fun (a655 : Addr) =>
  storeC a655 (Sl.v ρ651) ω654 fun ω656 =>
  idxK 1 b_6 row_9 fun (a657 : Addr) =>
  storeC a657 (Sl.v ρ653) ω656 fun ω658 =>
  k (emb5 a_5 b_6 t16 t17 (w64 (t18 + 1))) ω658)) ∧
  (sem1 .sl PP (Instr.buildSlice T_Sint 1 #[(0, vI (w64 (i_7 + 1)))]) ω637 fun (ρ659 : Sl) ω660 =>
  load1 .sl a109 ω660 fun (ξ661 : Sl) =>
  sem1 .sl PP (Builtin.append_ #[T_Sint, T_Sint] T_Sint #[Sl.v ξ661, Sl.v ρ636]) ω660 fun (ρ662 : Sl) ω663 =>
  sem1 .sl PP (Builtin.append_ #[T_Sint, T_Sint] T_Sint #[Sl.v ξ600, Sl.v ρ659]) ω663 fun (ρ664 : Sl) ω665 =>
  idxK 1 a_5 row_9 fun (a666 : Addr) =>
  storeC a666 (Sl.v ρ662) ω665 fun ω667 =>
  idxK 1 b_6 row_9 fun (a668 : Addr) =>
  storeC a668 (Sl.v ρ664) ω667 fun ω669 =>
  k (emb5 a_5 b_6 t16 t17 (w64 (t18 + 1))) ω669)) ∧
  (sem1 .sl PP (Instr.buildSlice T_Sint 1 #[(0, vI (w64 (i_7 + 1)))]) ω108 fun (ρ670 : Sl) ω671 =>
  (load1 .sl a109 ω671 fun (ξ672 : Sl) =>
  sem1 .sl PP (Instr.buildSlice T_Sint 1 #[(0, vI ξ339)]) ω671 fun (ρ673 : Sl) ω674 =>
  sem1 .sl PP (Builtin.append_ #[T_Sint, T_Sint] T_Sint #[Sl.v ξ672, Sl.v ρ673]) ω674 fun (ρ675 : Sl) ω676 =>
  sem1 .sl PP (Builtin.append_ #[T_Sint, T_Sint] T_Sint #[Sl.v ξ600, Sl.v ρ670]) ω676 fun (ρ677 : Sl) ω678 =>
  idxK 1 a_5 row_9 fun (a679 : Addr) =>
  storeC a679 (Sl.v ρ675) ω678 fun ω680 =>
  idxK 1 b_6 row_9 fun (a681 : Addr) =>
  storeC a681 (Sl.v ρ677) ω680 fun ω682 =>
  k (emb5 a_5 b_6 t16 t17 (w64 (t18 + 1))) ω682) ∧
  (sem1 .sl PP (Instr.buildSlice T_Sint 1 #[(0, vI ξ339)]) ω671 fun (ρ683 : Sl) ω684 =>
  load1 .sl a109 ω684 fun (ξ685 : Sl) =>
  sem1 .sl PP (Builtin.append_ #[T_Sint, T_Sint] T_Sint #[Sl.v ξ685, Sl.v ρ683]) ω684 fun (ρ686 : Sl) ω687 =>
  sem1 .sl PP (Builtin.append_ #[T_Sint, T_Sint] T_Sint #[Sl.v ξ600, Sl.v ρ670]) ω687 fun (ρ688 : Sl) ω689 =>
  idxK 1 a_5 row_9 fun (a690 : Addr) =>
  storeC a690 (Sl.v ρ686) ω689 fun ω691 =>
  idxK 1 b_6 row_9 fun (a692 : Addr) =>
  storeC a692 (Sl.v ρ688) ω691 fun ω693 =>
  k (emb5 a_5 b_6 t16 t17 (w64 (t18 + 1))) ω693))) ∧
  (sem1 .sl PP (Instr.buildSlice T_Sint 1 #[(0, vI (w64 (i_7 + 1)))]) ω108 fun (ρ694 : Sl) ω695 =>
  (load1 .sl a109 ω695 fun (ξ696 : Sl) =>
  (sem1 .sl PP (Instr.buildSlice T_Sint 1 #[(0, vI ξ339)]) ω695 fun (ρ697 : Sl) ω698 =>
  (sem1 .sl PP (Builtin.append_ #[T_Sint, T_Sint] T_Sint #[Sl.v ξ696, Sl.v ρ697]) ω698 fun (ρ699 : Sl) ω700 =>
  load1 .sl a110 ω700 fun (ξ701 : Sl) =>
  sem1 .sl PP (Builtin.append_ #[T_Sint, T_Sint] T_Sint #[Sl.v ξ701, Sl.v ρ694]) ω700 fun (ρ702 : Sl) ω703 =>
  idxK 1 a_5 row_9 fun (a704 : Addr) =>
  storeC a704 (Sl.v ρ699) ω703 fun ω705 =>
  idxK 1 b_6 row_9 fun (a706 : Addr) =>
  storeC a706 (Sl.v ρ702) ω705 fun ω707 =>
  k (emb5 a_5 b_6 t16 t17 (w64 (t18 + 1))) ω707) ∧
  (load1 .sl a110 ω698 fun (ξ708 : Sl) =>
  sem1 .sl PP (Builtin.append_ #[T_Sint, T_Sint] T_Sint #[Sl.v ξ696, Sl.v ρ697]) ω698 fun (ρ709 : Sl) ω710 =>
  sem1 .sl PP (Builtin.append_ #[T_Sint, T_Sint] T_Sint #[Sl.v ξ708, Sl.v ρ694]) ω710 fun (ρ711 : Sl) ω712 =>
  idxK 1 a_5 row_9 fun (a713 : Addr) =>
  storeC a713 (Sl.v ρ709) ω712 fun ω714 =>
  idxK 1 b_6 row_9 fun (a715 : Addr) =>
  storeC a715 (Sl.v ρ711) ω714 fun ω716 =>
  k (emb5 a_5 b_6 t16 t17 (w64 (t18 + 1))) ω716)) ∧
  (load1 .sl a110 ω695 fun (ξ717 : Sl) =>
  sem1 .sl PP (Instr.buildSlice T_Sint 1 #[(0, vI ξ339)]) ω695 fun (ρ718 : Sl) ω719 =>
  sem1 .sl PP (Builtin.append_ #[T_Sint, T_Sint] T_Sint #[Sl.v ξ696, Sl.v ρ718]) ω719 fun (ρ720 : Sl) ω721 =>
  sem1 .sl PP (Builtin.append_ #[T_Sint, T_Sint] T_Sint #[Sl.v ξ717, Sl.v ρ694]) ω721 fun (ρ722 : Sl) ω723 =>
  idxK 1 a_5 row_9 fun (a724 : Addr) =>
  storeC a724 (Sl.v ρ720) ω723 fun ω725 =>
  idxK 1 b_6 row_9 fun (a726 : Addr) =>
  storeC a726 (Sl.v ρ722) ω725 fun ω727 =>
  k (emb5 a_5 b_6 t16 t17 (w64 (t18 + 1))) ω727)) ∧
  (sem1 .sl PP (Instr.buildSlice T_Sint 1 #[(0, vI ξ339)]) ω695 fun (ρ728 : Sl) ω729 =>
  (load1 .sl a109 ω729 fun (ξ730 : Sl) =>
  (sem1 .sl PP (Builtin.append_ #[T_Sint, T_Sint] T_Sint #[Sl.v ξ730, Sl.v ρ728]) ω729 fun (ρ731 : Sl) ω732 =>
  load1 .sl a110 ω732 fun (ξ733 : Sl) =>
  sem1 .sl PP (Builtin.append_ #[T_Sint, T_Sint] T_Sint #[Sl.v ξ733, Sl.v ρ694]) ω732 fun (ρ734 : Sl) ω735 =>
  idxK 1 a_5 row_9 fun (a736 : Addr) =>
  storeC a736 (Sl.v ρ731) ω735 fun ω737 =>
  idxK 1 b_6 row_9 fun (a738 : Addr) =>
  storeC a738 (Sl.v ρ734) ω737 fun ω739 =>
  k (emb5 a_5 b_6 t16 t17 (w64 (t18 + 1))) ω739) ∧
  (load1 .sl a110 ω729 fun (ξ740 : Sl) =>
  sem1 .sl PP (Builtin.append_ #[T_Sint, T_Sint] T_Sint #[Sl.v ξ730, Sl.v ρ728]) ω729 fun (ρ741 : Sl) ω742 =>
  sem1 .sl PP (Builtin.append_ #[T_Sint, T_Sint] T_Sint #[Sl.v ξ740, Sl.v ρ694]) ω742 fun (ρ743 : Sl) ω744 =>
  idxK 1 a_5 row_9 fun (a745 : Addr) =>
  storeC a745 (Sl.v ρ741) ω744 fun ω746 =>
  idxK 1 b_6 row_9 fun (a747 : Addr) =>
  storeC a747 (Sl.v ρ743) ω746 fun ω748 =>
  k (emb5 a_5 b_6 t16 t17 (w64 (t18 + 1))) ω748)) ∧
  (load1 .sl a110 ω729 fun (ξ749 : Sl) =>
  load1 .sl a109 ω729 fun (ξ750 : Sl) =>
  sem1 .sl PP (Builtin.append_ #[T_Sint, T_Sint] T_Sint #[Sl.v ξ750, Sl.v ρ728]) ω729 fun (ρ751 : Sl) ω752 =>
  sem1 .sl PP (Builtin.append_ #[T_Sint, T_Sint] T_Sint #[Sl.v ξ749, Sl.v ρ694]) ω752 fun (ρ753 : Sl) ω754 =>
  idxK 1 a_5 row_9 fun (a755 : Addr) =>
  storeC a755 (Sl.v ρ751) ω754 fun ω756 =>
  idxK 1 b_6 row_9 fun (a757 : Addr) =>
  storeC a757 (Sl.v ρ753) ω756 fun ω758 =>
  k (emb5 a_5 b_6 t16 t17 (w64 (t18 + 1))) ω758)) ∧
  (load1 .sl a110 ω695 fun (ξ759 : Sl) =>
  (load1 .sl a109 ω695 fun (ξ760 : Sl) =>
  sem1 .sl PP (Instr.buildSlice T_Sint 1 #[(0, vI ξ339)]) ω695 fun (ρ761 : Sl) ω762 =>
  sem1 .sl PP (Builtin.append_ #[T_Sint, T_Sint] T_Sint #[Sl.v ξ760, Sl.v ρ761]) ω762 fun (ρ763 : Sl) ω764 =>
  sem1 .sl PP (Builtin.append_ #[T_Sint, T_Sint] T_Sint #[Sl.v ξ759, Sl.v ρ694]) ω764 fun (ρ765 : Sl) ω766 =>
  idxK 1 a_5 row_9 fun (a767 : Addr) =>
  storeC a767 (Sl.v ρ763) ω766 fun ω768 =>
  idxK 1 b_6 row_9 fun (a769 : Addr) =>
  storeC a769 (Sl.v ρ765) ω768 fun ω770 =>
  k (emb5 a_5 b_6 t16 t17 (w64 (t18 + 1))) ω770) ∧
  (sem1 .sl PP (Instr.buildSlice T_Sint 1 #[(0, vI ξ339)]) ω695 fun (ρ771 : Sl) ω772 =>
  load1 .sl a109 ω772 fun (ξ773 : Sl) =>
  sem1 .sl PP (Builtin.append_ #[T_Sint, T_Sint] T_Sint #[Sl.v ξ773, Sl.v ρ771]) ω772 fun (ρ774 : Sl) ω775 =>
  sem1 .sl PP (Builtin.append_ #[T_Sint, T_Sint] T_Sint #[Sl.v ξ759, Sl.v ρ694]) ω775 fun (ρ776 : Sl) ω777 =>
  idxK 1 a_5 row_9 fun (a778 : Addr) =>
  storeC a778 (Sl.v ρ774) ω777 fun ω779 =>
  idxK 1 b_6 row_9 fun (a780 : Addr) =>
  storeC a780 (Sl.v ρ776) ω779 fun ω781 =>
  k (emb5 a_5 b_6 t16 t17 (w64 (t18 + 1))) ω781)))) ∧
  (load1 .sl a110 ω108 fun (ξ782 : Sl) =>
  (load1 .sl a109 ω108 fun (ξ783 : Sl) =>
  (load1 (.int .i64) v_8 ω108 fun (ξ784 : Int) =>
  (sem1 .sl PP (Instr.buildSlice T_Sint 1 #[(0, vI ξ784)]) ω108 fun (ρ785 : Sl) ω786 =>
  (sem1 .sl PP (Builtin.append_ #[T_Sint, T_Sint] T_Sint #[Sl.v ξ783, Sl.v ρ785]) ω786 fun (ρ787 : Sl) ω788 =>
  sem1 .sl PP (Instr.buildSlice T_Sint 1 #[(0, vI (w64 (i_7 + 1)))]) ω788 fun (ρ789 : Sl) ω790 =>
  sem1 .sl PP (Builtin.append_ #[T_Sint, T_Sint] T_Sint #[Sl.v ξ782, Sl.v ρ789]) ω790 fun (ρ791 : Sl) ω792 =>
  idxK 1 a_5 row_9 fun (a793 : Addr) =>
  storeC a793 (Sl.v ρ787) ω792 fun ω794 =>
  idxK 1 b_6 row_9 fun (a795 : Addr) =>
  storeC a795 (Sl.v ρ791) ω794 fun ω796 =>
  k (emb5 a_5 b_6 t16 t17 (w64 (t18 + 1))) ω796) ∧
  (sem1 .sl PP (Instr.buildSlice T_Sint 1 #[(0, vI (w64 (i_7 + 1)))]) ω786 fun (ρ797 : Sl) ω798 =>
  sem1 .sl PP (Builtin.append_ #[T_Sint, T_Sint] T_Sint #[Sl.v ξ783, Sl.v ρ785]) ω798 fun (ρ799 : Sl) ω800 =>
  sem1 .sl PP (Builtin.append_ #[T_Sint, T_Sint] T_Sint #[Sl.v ξ782, Sl.v ρ797]) ω800 fun (ρ801 : Sl) ω802 =>
  idxK 1 a_5 row_9 fun (a803 : Addr) =>
  storeC a803 (Sl.v ρ799) ω802 fun ω804 =>
  idxK 1 b_6 row_9 fun (a805 : Addr) =>
  storeC a805 (Sl.v ρ801) ω804 fun ω806 =>
  k (emb5 a_5 b_6 t16 t17 (w64 (t18 + 1))) ω806)) ∧
  (sem1 .sl PP (Instr.buildSlice T_Sint 1 #[(0, vI (w64 (i_7 + 1)))]) ω108 fun (ρ807 : Sl) ω808 =>
  sem1 .sl PP (Instr.buildSlice T_Sint 1 #[(0, vI ξ784)]) ω808 fun (ρ809 : Sl) ω810 =>
  sem1 .sl PP (Builtin.append_ #[T_Sint, T_Sint] T_Sint #[Sl.v ξ783, Sl.v ρ809]) ω810 fun (ρ811 : Sl) ω812 =>
  sem1 .sl PP (Builtin.append_ #[T_Sint, T_Sint] T_Sint #[Sl.v ξ782, Sl.v ρ807]) ω812 fun (ρ813 : Sl) ω814 =>
  idxK 1 a_5 row_9 fun (a815 : Addr) =>
  storeC a815 (Sl.v ρ811) ω814 fun ω816 =>
  idxK 1 b_6 row_9 fun (a817 : Addr) =>
  storeC a817 (Sl.v ρ813) ω816 fun ω818 =>
  k (emb5 a_5 b_6 t16 t17 (w64 (t18 + 1))) ω818)) ∧
  (sem1 .sl PP (Instr.buildSlice T_Sint 1 #[(0, vI (w64 (i_7 + 1)))]) ω108 fun (ρ819 : Sl) ω820 =>
  load1 (.int .i64) v_8 ω820 fun (ξ821 : Int) =>
  sem1 .sl PP (Instr.buildSlice T_Sint 1 #[(0, vI ξ821)]) ω820 fun (ρ822 : Sl) ω823 =>
  sem1 .sl PP (Builtin.append_ #[T_Sint, T_Sint] T_Sint #[Sl.v ξ783, Sl.v ρ822]) ω823 fun (ρ824 : Sl) ω825 =>
  sem1 .sl PP (Builtin.append_ #[T_Sint, T_Sint] T_Sint #[Sl.v ξ782, Sl.v ρ819]) ω825 fun (ρ826 : Sl) ω827 =>
  idxK 1 a_5 row_9 fun (a828 : Addr) =>
  storeC a828 (Sl.v ρ824) ω827 fun ω829 =>
  idxK 1 b_6 row_9 fun (a830 : Addr) =>
  storeC a830 (Sl.v ρ826) ω829 fun ω831 =>
  k (emb5 a_5 b_6 t16 t17 (w64 (t18 + 1))) ω831)) ∧
  (load1 (.int .i64) v_8 ω108 fun (ξ832 : Int) =>
  (load1 .sl a109 ω108 fun (ξ833 : Sl) =>
  (sem1 .sl PP (Instr.buildSlice T_Sint 1 #[(0, vI ξ832)]) ω108 fun (ρ834 : Sl) ω835 =>
  (sem1 .sl PP (Builtin.append_ #[T_Sint, T_Sint] T_Sint #[Sl.v ξ833, Sl.v ρ834]) ω835 fun (ρ836 : Sl) ω837 =>
  sem1 .sl PP (Instr.buildSlice T_Sint 1 #[(0, vI (w64 (i_7 + 1)))]) ω837 fun (ρ838 : Sl) ω839 =>
  sem1 .sl PP (Builtin.append_ #[T_Sint, T_Sint] T_Sint #[Sl.v ξ782, Sl.v ρ838]) ω839 fun (ρ840 : Sl) ω841 =>
  idxK 1 a_5 row_9 fun (a842 : Addr) =>
  storeC a842 (Sl.v ρ836) ω841 fun ω843 =>
  idxK 1 b_6 row_9 fun (a844 : Addr) =>
  storeC a844 (Sl.v ρ840) ω843 fun ω845 =>
  k (emb5 a_5 b_6 t16 t17 (w64 (t18 + 1))) ω845) ∧
  (sem1 .sl PP (Instr.buildSlice T_Sint 1 #[(0, vI (w64 (i_7 + 1)))]) ω835 fun (ρ846 : Sl) ω847 =>
  sem1 .sl PP (Builtin.append_ #[T_Sint, T_Sint] T_Sint #[Sl.v ξ833, Sl.v ρ834]) ω847 fun (ρ848 : Sl) ω849 =>
  sem1 .sl PP (Builtin.append_ #[T_Sint, T_Sint] T_Sint #[Sl.v ξ782, Sl.v ρ846]) ω849 fun (ρ850 : Sl) ω851 =>
  idxK 1 a_5 row_9 fun (a852 : Addr) =>
  storeC a852 (Sl.v ρ848) ω851 fun ω853 =>
  idxK 1 b_6 row_9 fun (a854 : Addr) =>
  storeC a854 (Sl.v ρ850) ω853 fun ω855 =>
  k (emb5 a_5 b_6 t16 t17 (w64 (t18 + 1))) ω855)) ∧
  (sem1 .sl PP (Instr.buildSlice T_Sint 1 #[(0, vI (w64 (i_7 + 1)))]) ω108 fun (ρ856 : Sl) ω857 =>
  sem1 .sl PP (Instr.buildSlice T_Sint 1 #[(0, vI ξ832)]) ω857 fun (ρ858 : Sl) ω859 =>
  sem1 .sl PP (Builtin.append_ #[T_Sint, T_Sint] T_Sint #[Sl.v ξ833, Sl.v ρ858]) ω859 fun (ρ860 : Sl) ω861 =>
  sem1 .sl PP (Builtin.append_ #[T_Sint, T_Sint] T_Sint #[Sl.v ξ782, Sl.v ρ856]) ω861 fun (ρ862 : Sl) ω863 =>
  idxK 1 a_5 row_9 fun (a864 : Addr) =>
  storeC a864 (Sl.v ρ860) ω863 fun ω865 =>
  idxK 1 b_6 row_9 fun (a866 : Addr) =>
  storeC a866 (Sl.v ρ862) ω865 fun ω867 =>
  k (emb5 a_5 b_6 t16 t17 (w64 (t18 + 1))) ω867)) ∧
  (sem1 .sl PP (Instr.buildSlice T_Sint 1 #[(0, vI ξ832)]) ω108 fun (ρ868 : Sl) ω869 =>
  (load1 .sl a109 ω869 fun (ξ870 : Sl) =>
  (sem1 .sl PP (Builtin.append_ #[T_Sint, T_Sint] T_Sint #[Sl.v ξ870, Sl.v ρ868]) ω869 fun (ρ871 : Sl) ω872 =>
  sem1 .sl PP (Instr.buildSlice T_Sint 1 #[(0, vI (w64 (i_7 + 1)))]) ω872 fun (ρ873 : Sl) ω874 =>
  sem1 .sl PP (Builtin.append_ #[T_Sint, T_Sint] T_Sint #[Sl.v ξ782, Sl.v ρ873]) ω874 fun (ρ875 : Sl) ω876 =>
  idxK 1 a_5 row_9 fun (a877 : Addr) =>
  storeC a877 (Sl.v ρ871) ω876 fun ω878 =>
  idxK 1 b_6 row_9 fun (a879 : Addr) =>
  storeC a879 (Sl.v ρ875) ω878 fun ω880 =>
  k (emb5 a_5 b_6 t16 t17 (w64 (t18 + 1))) ω880) ∧
  (sem1 .sl PP (Instr.buildSlice T_Sint 1 #[(0, vI (w64 (i_7 + 1)))]) ω869 fun (ρ881 : Sl) ω882 =>
  sem1 .sl PP (Builtin.append_ #[T_Sint, T_Sint] T_Sint #[Sl.v ξ870, Sl.v ρ868]) ω882 fun (ρ883 : Sl) ω884 =>
  sem1 .sl PP (Builtin.append_ #[T_Sint, T_Sint] T_Sint #[Sl.v ξ782, Sl.v ρ881]) ω884 fun (ρ885 : Sl) ω886 =>
  idxK 1 a_5 row_9 fun (a887 : Addr) =>
  storeC a887 (Sl.v ρ883) ω886 fun ω888 =>
  idxK 1 b_6 row_9 fun (a889 : Addr) =>
  storeC a889 (Sl.v ρ885) ω888 fun ω890 =>
  k (emb5 a_5 b_6 t16 t17 (w64 (t18 + 1))) ω890)) ∧
  (sem1 .sl PP (Instr.buildSlice T_Sint 1 #[(0, vI (w64 (i_7 + 1)))]) ω869 fun (ρ891 : Sl) ω892 =>
  load1 .sl a109 ω892 fun (ξ893 : Sl) =>
  sem1 .sl PP (Builtin.append_ #[T_Sint, T_Sint] T_Sint #[Sl.v ξ893, Sl.v ρ868]) ω892 fun (ρ894 : Sl) ω895 =>
  sem1 .sl PP (Builtin.append_ #[T_Sint, T_Sint] T_Sint #[Sl.v ξ782, Sl.v ρ891]) ω895 fun (ρ896 : Sl) ω897 =>
  idxK 1 a_5 row_9 fun (a898 : Addr) =>
  storeC a898 (Sl.v ρ894) ω897 fun ω899 =>
  idxK 1 b_6 row_9 fun (a900 : Addr) =>
  storeC a900 (Sl.v ρ896) ω899 fun ω901 =>
  k (emb5 a_5 b_6 t16 t17 (w64 (t18 + 1))) ω901)) ∧
  (sem1 .sl PP (Instr.buildSlice T_Sint 1 #[(0, vI (w64 (i_7 + 1)))]) ω108 fun (ρ902 : Sl) ω903 =>
  (load1 .sl a109 ω903 fun (ξ904 : Sl) =>
  sem1 .sl PP (Instr.buildSlice T_Sint 1 #[(0, vI ξ832)]) ω903 fun (ρ905 : Sl) ω906 =>
  sem1 .sl PP (Builtin.append_ #[T_Sint, T_Sint] T_Sint #[Sl.v ξ904, Sl.v ρ905]) ω906 fun (ρ907 : Sl) ω908 =>
  sem1 .sl PP (Builtin.append_ #[T_Sint, T_Sint] T_Sint #[Sl.v ξ782, Sl.v ρ902]) ω908 fun (ρ909 : Sl) ω910 =>
  idxK 1 a_5 row_9 fun (a911 : Addr) =>
  storeC a911 (Sl.v ρ907) ω910 fun ω912 =>
  idxK 1 b_6 row_9 fun (a913 : Addr) =>
  storeC a913 (Sl.v ρ909) ω912 fun ω914 =>
  k (emb5 a_5 b_6 t16 t17 (w64 (t18 + 1))) ω914) ∧
  (sem1 .sl PP (Instr.buildSlice T_Sint 1 #[(0, vI ξ832)]) ω903 fun (ρ915 : Sl) ω916 =>
  load1 .sl a109 ω916 fun (ξ917 : Sl) =>
  sem1 .sl PP (Builtin.append_ #[T_Sint, T_Sint] T_Sint #[Sl.v ξ917, Sl.v ρ915]) ω916 fun (ρ918 : Sl) ω919 =>
  sem1 .sl PP (Builtin.append_ #[T_Sint, T_Sint] T_Sint #[Sl.v ξ782, Sl.v ρ902]) ω919 fun (ρ920 : Sl) ω921 =>
  idxK 1 a_5 row_9 fun (a922 : Addr) =>
  storeC a922 (Sl.v ρ918) ω921 fun ω923 =>
  idxK 1 b_6 row_9 fun (a924 : Addr) =>
  storeC a924 (Sl.v ρ920) ω923 fun ω925 =>
  k (emb5 a_5 b_6 t16 t17 (w64 (t18 + 1))) ω925))) ∧
  (sem1 .sl PP (Instr.buildSlice T_Sint 1 #[(0, vI (w64 (i_7 + 1)))]) ω108 fun (ρ926 : Sl) ω927 =>
  (load1 .sl a109 ω927 fun (ξ928 : Sl) =>
  load1 (.int .i64) v_8 ω927 fun (ξ929 : Int) =>
  sem1 .sl PP (Instr.buildSlice T_Sint 1 #[(0, vI ξ929)]) ω927 fun (ρ930 : Sl) ω931 =>
  sem1 .sl PP (Builtin.append_ #[T_Sint, T_Sint] T_Sint #[Sl.v ξ928, Sl.v ρ930]) ω931 fun (ρ932 : Sl) ω933 =>
  sem1 .sl PP (Builtin.append_ #[T_Sint, T_Sint] T_Sint #[Sl.v ξ782, Sl.v ρ926]) ω933 fun (ρ934 : Sl) ω935 =>
  idxK 1 a_5 row_9 fun (a936 : Addr) =>
  storeC a936 (Sl.v ρ932) ω935 fun ω937 =>
  idxK 1 b_6 row_9 fun (a938 : Addr) =>
  storeC a938 (Sl.v ρ934) ω937 fun ω939 =>
  k (emb5 a_5 b_6 t16 t17 (w64 (t18 + 1))) ω939) ∧
  (load1 (.int .i64) v_8 ω927 fun (ξ940 : Int) =>
  (load1 .sl a109 ω927 fun (ξ941 : Sl) =>
  sem1 .sl PP (Instr.buildSlice T_Sint 1 #[(0, vI ξ940)]) ω927 fun (ρ942 : Sl) ω943 =>
  sem1 .sl PP (Builtin.append_ #[T_Sint, T_Sint] T_Sint #[Sl.v ξ941, Sl.v ρ942]) ω943 fun (ρ944 : Sl) ω945 =>
  sem1 .sl PP (Builtin.append_ #[T_Sint, T_Sint] T_Sint #[Sl.v ξ782, Sl.v ρ926]) ω945 fun (ρ946 : Sl) ω947 =>
  idxK 1 a_5 row_9 fun (a948 : Addr) =>
  storeC a948 (Sl.v ρ944) ω947 fun ω949 =>
  idxK 1 b_6 row_9 fun (a950 : Addr) =>
  storeC a950 (Sl.v ρ946) ω949 fun ω951 =>
  k (emb5 a_5 b_6 t16 t17 (w64 (t18 + 1))) ω951) ∧
  (sem1 .sl PP (Instr.buildSlice T_Sint 1 #[(0, vI ξ940)]) ω927 fun (ρ952 : Sl) ω953 =>
  load1 .sl a109 ω953 fun (ξ954 : Sl) =>
  sem1 .sl PP (Builtin.append_ #[T_Sint, T_Sint] T_Sint #[Sl.v ξ954, Sl.v ρ952]) ω953 fun (ρ955 : Sl) ω956 =>
  sem1 .sl PP (Builtin.append_ #[T_Sint, T_Sint] T_Sint #[Sl.v ξ782, Sl.v ρ926]) ω956 fun (ρ957 : Sl) ω958 =>
  idxK 1 a_5 row_9 fun (a959 : Addr) =>
  storeC a959 (Sl.v ρ955) ω958 fun ω960 =>
  idxK 1 b_6 row_9 fun (a961 : Addr) =>
  storeC a961 (Sl.v ρ957) ω960 fun ω962 =>
  k (emb5 a_5 b_6 t16 t17 (w64 (t18 + 1))) ω962)))) ∧
  (sem1 .sl PP (Instr.buildSlice T_Sint 1 #[(0, vI (w64 (i_7 + 1)))]) ω108 fun (ρ963 : Sl) ω964 =>
  (load1 .sl a109 ω964 fun (ξ965 : Sl) =>
  (load1 (.int .i64) v_8 ω964 fun (ξ966 : Int) =>
  (sem1 .sl PP (Instr.buildSlice T_Sint 1 #[(0, vI ξ966)]) ω964 fun (ρ967 : Sl) ω968 =>
  (sem1 .sl PP (Builtin.append_ #[T_Sint, T_Sint] T_Sint #[Sl.v ξ965, Sl.v ρ967]) ω968 fun (ρ969 : Sl) ω970 =>
  load1 .sl a110 ω970 fun (ξ971 : Sl) =>
  sem1 .sl PP (Builtin.append_ #[T_Sint, T_Sint] T_Sint #[Sl.v ξ971, Sl.v ρ963]) ω970 fun (ρ972 : Sl) ω973 =>
  idxK 1 a_5 row_9 fun (a974 : Addr) =>
  storeC a974 (Sl.v ρ969) ω973 fun ω975 =>
  idxK 1 b_6 row_9 fun (a976 : Addr) =>
  storeC a976 (Sl.v ρ972) ω975 fun ω977 =>
  k (emb5 a_5 b_6 t16 t17 (w64 (t18 + 1))) ω977) ∧
  (load1 .sl a110 ω968 fun (ξ978 : Sl) =>
  sem1 .sl PP (Builtin.append_ #[T_Sint, T_Sint] T_Sint #[Sl.v ξ965, Sl.v ρ967]) ω968 fun (ρ979 : Sl) ω980 =>
  sem1 .sl PP (Builtin.append_ #[T_Sint, T_Sint] T_Sint #[Sl.v ξ978, Sl.v ρ963]) ω980 fun (ρ981 : Sl) ω982 =>
  idxK 1 a_5 row_9 fun (a983 : Addr) =>
  storeC a983 (Sl.v ρ979) ω982 fun ω984 =>
  idxK 1 b_6 row_9 fun (a985 : Addr) =>
  storeC a985 (Sl.v ρ981) ω984 fun ω986 =>
  k (emb5 a_5 b_6 t16 t17 (w64 (t18 + 1))) ω986)) ∧
  (load1 .sl a110 ω964 fun (ξ987 : Sl) =>
  sem1 .sl PP (Instr.buildSlice T_Sint 1 #[(0, vI ξ966)]) ω964 fun (ρ988 : Sl) ω989 =>
  sem1 .sl PP (Builtin.append_ #[T_Sint, T_Sint] T_Sint #[Sl.v ξ965, Sl.v ρ988]) ω989 fun (ρ990 : Sl) ω991 =>
  sem1 .sl PP (Builtin.append_ #[T_Sint, T_Sint] T_Sint #[Sl.v ξ987, Sl.v ρ963]) ω991 fun (ρ992 : Sl) ω993 =>
  idxK 1 a_5 row_9 fun (a994 : Addr) =>
  storeC a994 (Sl.v ρ990) ω993 fun ω995 =>
  idxK 1 b_6 row_9 fun (a996 : Addr) =>
  storeC a996 (Sl.v ρ992) ω995 fun ω997 =>
  k (emb5 a_5 b_6 t16 t17 (w64 (t18 + 1))) ω997)) ∧
  (load1 .sl a110 ω964 fun (ξ998 : Sl) =>
  load1 (.int .i64) v_8 ω964 fun (ξ999 : Int) =>
  sem1 .sl PP (Instr.buildSlice T_Sint 1 #[(0, vI ξ999)]) ω964 fun (ρ1000 : Sl) ω1001 =>
  sem1 .sl PP (Builtin.append_ #[T_Sint, T_Sint] T_Sint #[Sl.v ξ965, Sl.v ρ1000]) ω1001 fun (ρ1002 : Sl) ω1003 =>
  sem1 .sl PP (Builtin.append_ #[T_Sint, T_Sint] T_Sint #[Sl.v ξ998, Sl.v ρ963]) ω1003 fun (ρ1004 : Sl) ω1005 =>
  idxK 1 a_5 row_9 fun (a1006 : Addr) =>
  storeC a1006 (Sl.v ρ1002) ω1005 fun ω1007 =>
  idxK 1 b_6 row_9 fun (a1008 : Addr) =>
  storeC a1008 (Sl.v ρ1004) ω1007 fun ω1009 =>
  k (emb5 a_5 b_6 t16 t17 (w64 (t18 + 1))) ω1009)) ∧
  (load1 (.int .i64) v_8 ω964 fun (ξ1010 : Int) =>
  (load1 .sl a109 ω964 fun (ξ1011 : Sl) =>
  (sem1 .sl PP (Instr.buildSlice T_Sint 1 #[(0, vI ξ1010)]) ω964 fun (ρ1012 : Sl) ω1013 =>
  (sem1 .sl PP (Builtin.append_ #[T_Sint, T_Sint] T_Sint #[Sl.v ξ1011, Sl.v ρ1012]) ω1013 fun (ρ1014 : Sl) ω1015 =>
  load1 .sl a110 ω1015 fun (ξ1016 : Sl) =>
  sem1 .sl PP (Builtin.append_ #[T_Sint, T_Sint] T_Sint #[Sl.v ξ1016, Sl.v ρ963]) ω1015 fun (ρ1017 : Sl) ω1018 =>
  idxK 1 a_5 row_9 fun (a1019 : Addr) =>
  storeC a1019 (Sl.v ρ1014) ω1018 fun ω1020 =>
  idxK 1 b_6 row_9 fun (a1021 : Addr) =>
  storeC a1021 (Sl.v ρ1017) ω1020 fun ω1022 =>
  k (emb5 a_5 b_6 t16 t17 (w64 (t18 + 1))) ω1022) ∧
  (load1 .sl a110 ω1013 fun (ξ1023 : Sl) =>
  sem1 .sl PP (Builtin.append_ #[T_Sint, T_Sint] T_Sint #[Sl.v ξ1011, Sl.v ρ1012]) ω1013 fun (ρ1024 : Sl) ω1025 =>
  sem1 .sl PP (Builtin.append_ #[T_Sint, T_Sint] T_Sint #[Sl.v ξ1023, Sl.v ρ963]) ω1025 fun (ρ1026 : Sl) ω1027 =>
  idxK 1 a_5 row_9 fun (a1028 : Addr) =>
  storeC a1028 (Sl.v ρ1024) ω1027 fun ω1029 =>
  idxK 1 b_6 row_9 fun (a1030 : Addr) =>
  storeC a1030 (Sl.v ρ1026) ω1029 fun ω1031 =>
  k (emb5 a_5 b_6 t16 t17 (w64 (t18 + 1))) ω1031)) ∧
  (load1 .sl a110 ω964 fun (ξ1032 : Sl) =>
  sem1 .sl PP (Instr.buildSlice T_Sint 1 #[(0, vI ξ1010)]) ω964 fun (ρ1033 : Sl) ω1034 =>
  sem1 .sl PP (Builtin.append_ #[T_Sint, T_Sint] T_Sint #[Sl.v ξ1011, Sl.v ρ1033]) ω1034 fun (ρ1035 : Sl) ω1036 =>
  sem1 .sl PP (Builtin.append_ #[T_Sint, T_Sint] T_Sint #[Sl.v ξ1032, Sl.v ρ963]) ω1036 fun (ρ1037 : Sl) ω1038 =>
  idxK 1 a_5 row_9 fun (a1039 : Addr) =>
  storeC a1039 (Sl.v ρ1035) ω1038 fun ω1040 =>
  idxK 1 b_6 row_9 fun (a1041 : Addr) =>
  storeC a1041 (Sl.v ρ1037) ω1040 fun ω1042 =>
  k (emb5 a_5 b_6 t16 t17 (w64 (t18 + 1))) ω1042)) ∧
  (sem1 .sl PP (Instr.buildSlice T_Sint 1 #[(0, vI ξ1010)]) ω964 fun (ρ1043 : Sl) ω1044 =>
  (load1 .sl a109 ω1044 fun (ξ1045 : Sl) =>
  (sem1 .sl PP (Builtin.append_ #[T_Sint, T_Sint] T_Sint #[Sl.v ξ1045, Sl.v ρ1043]) ω1044 fun (ρ1046 : Sl) ω1047 =>
  load1 .sl a110 ω1047 fun (ξ1048 : Sl) =>
  sem1 .sl PP (Builtin.append_ #[T_Sint, T_Sint] T_Sint #[Sl.v ξ1048, Sl.v ρ963]) ω1047 fun (ρ1049 : Sl) ω1050 =>
  idxK 1 a_5 row_9 fun (a1051 : Addr) =>
  storeC a1051 (Sl.v ρ1046) ω1050 fun ω1052 =>
  idxK 1 b_6 row_9 fun (a1053 : Addr) =>
  storeC a1053 (Sl.v ρ1049) ω1052 fun ω1054 =>
  k (emb5 a_5 b_6 t16 t17 (w64 (t18 + 1))) ω1054) ∧
  (load1 .sl a110 ω1044 fun (ξ1055 : Sl) =>
  sem1 .sl PP (Builtin.append_ #[T_Sint, T_Sint] T_Sint #[Sl.v ξ1045, Sl.v ρ1043]) ω1044 fun (ρ1056 : Sl) ω1057 =>
  sem1 .sl PP (Builtin.append_ #[T_Sint, T_Sint] T_Sint #[Sl.v ξ1055, Sl.v ρ963]) ω1057 fun (ρ1058 : Sl) ω1059 =>
  idxK 1 a_5 row_9 fun (a1060 : Addr) =>
  storeC a1060 (Sl.v ρ1056) ω1059 fun ω1061 =>
  idxK 1 b_6 row_9 fun (a1062 : Addr) =>
  storeC a1062 (Sl.v ρ1058) ω1061 fun ω1063 =>
  k (emb5 a_5 b_6 t16 t17 (w64 (t18 + 1))) ω1063)) ∧
  (load1 .sl a110 ω1044 fun (ξ1064 : Sl) =>
  load1 .sl a109 ω1044 fun (ξ1065 : Sl) =>
  sem1 .sl PP (Builtin.append_ #[T_Sint, T_Sint] T_Sint #[Sl.v ξ1065, Sl.v ρ1043]) ω1044 fun (ρ1066 : Sl) ω1067 =>
  sem1 .sl PP (Builtin.append_ #[T_Sint, T_Sint] T_Sint #[Sl.v ξ1064, Sl.v ρ963]) ω1067 fun (ρ1068 : Sl) ω1069 =>
  idxK 1 a_5 row_9 fun (a1070 : Addr) =>
  storeC a1070 (Sl.v ρ1066) ω1069 fun ω1071 =>
  idxK 1 b_6 row_9 fun (a1072 : Addr) =>
  storeC a1072 (Sl.v ρ1068) ω1071 fun ω1073 =>
  k (emb5 a_5 b_6 t16 t17 (w64 (t18 + 1))) ω1073)) ∧
  (load1 .sl a110 ω964 fun (ξ1074 : Sl) =>
  (load1 .sl a109 ω964 fun (ξ1075 : Sl) =>
  sem1 .sl PP (Instr.buildSlice T_Sint 1 #[(0, vI ξ1010)]) ω964 fun (ρ1076 : Sl) ω1077 =>
  sem1 .sl PP (Builtin.append_ #[T_Sint, T_Sint] T_Sint #[Sl.v ξ1075, Sl.v ρ1076]) ω1077 fun (ρ1078 : Sl) ω1079 =>
  sem1 .sl PP (Builtin.append_ #[T_Sint, T_Sint] T_Sint #[Sl.v ξ1074, Sl.v ρ963]) ω1079 fun (ρ1080 : Sl) ω1081 =>
  idxK 1 a_5 row_9 fun (a1082 : Addr) =>
  storeC a1082 (Sl.v ρ1078) ω1081 fun ω1083 =>
  idxK 1 b_6 row_9 fun (a1084 : Addr) =>
  storeC a1084 (Sl.v ρ1080) ω1083 fun ω1085 =>
  k (emb5 a_5 b_6 t16 t17 (w64 (t18 + 1))) ω1085) ∧
  (sem1 .sl PP (Instr.buildSlice T_Sint 1 #[(0, vI ξ1010)]) ω964 fun (ρ1086 : Sl) ω1087 =>
  load1 .sl a109 ω1087 fun (ξ1088 : Sl) =>
  sem1 .sl PP (Builtin.append_ #[T_Sint, T_Sint] T_Sint #[Sl.v ξ1088, Sl.v ρ1086]) ω1087 fun (ρ1089 : Sl) ω1090 =>
  sem1 .sl PP (Builtin.append_ #[T_Sint, T_Sint] T_Sint #[Sl.v ξ1074, Sl.v ρ963]) ω1090 fun (ρ1091 : Sl) ω1092 =>
  idxK 1 a_5 row_9 fun (a1093 : Addr) =>
  storeC a1093 (Sl.v ρ1089) ω1092 fun ω1094 =>
  idxK 1 b_6 row_9 fun (a1095 : Addr) =>
  storeC a1095 (Sl.v ρ1091) ω1094 fun ω1096 =>
  k (emb5 a_5 b_6 t16 t17 (w64 (t18 + 1))) ω1096))) ∧
  (load1 .sl a110 ω964 fun (ξ1097 : Sl) =>
  (load1 .sl a109 ω964 fun (ξ1098 : Sl) =>
  load1 (.int .i64) v_8 ω964 fun (ξ1099 : Int) =>
  sem1 .sl PP (Instr.buildSlice T_Sint 1 #[(0, vI ξ1099)]) ω964 fun (ρ1100 : Sl) ω1101 =>
  sem1 .sl PP (Builtin.append_ #[T_Sint, T_Sint] T_Sint #[Sl.v ξ1098, Sl.v ρ1100]) ω1101 fun (ρ1102 : Sl) ω1103 =>
  sem1 .sl PP (Builtin.append_ #[T_Sint, T_Sint] T_Sint #[Sl.v ξ1097, Sl.v ρ963]) ω1103 fun (ρ1104 : Sl) ω1105 =>
  idxK 1 a_5 row_9 fun (a1106 : Addr) =>
  storeC a1106 (Sl.v ρ1102) ω1105 fun ω1107 =>
  idxK 1 b_6 row_9 fun (a1108 : Addr) =>
  storeC a1108 (Sl.v ρ1104) ω1107 fun ω1109 =>
  k (emb5 a_5 b_6 t16 t17 (w64 (t18 + 1))) ω1109) ∧
  (load1 (.int .i64) v_8 ω964 fun (ξ1110 : Int) =>
  (load1 .sl a109 ω964 fun (ξ1111 : Sl) =>
  sem1 .sl PP (Instr.buildSlice T_Sint 1 #[(0, vI ξ1110)]) ω964 fun (ρ1112 : Sl) ω1113 =>
  sem1 .sl PP (Builtin.append_ #[T_Sint, T_Sint] T_Sint #[Sl.v ξ1111, Sl.v ρ1112]) ω1113 fun (ρ1114 : Sl) ω1115 =>
  sem1 .sl PP (Builtin.append_ #[T_Sint, T_Sint] T_Sint #[Sl.v ξ1097, Sl.v ρ963]) ω1115 fun (ρ1116 : Sl) ω1117 =>
  idxK 1 a_5 row_9 fun (a1118 : Addr) =>
  storeC a1118 (Sl.v ρ1114) ω1117 fun ω1119 =>
  idxK 1 b_6 row_9 fun (a1120 : Addr) =>
  storeC a1120 (Sl.v ρ1116) ω1119 fun ω1121 =>
  k (emb5 a_5 b_6 t16 t17 (w64 (t18 + 1))) ω1121) ∧
  (sem1 .sl PP (Instr.buildSlice T_Sint 1 #[(0, vI ξ1110)]) ω964 fun (ρ1122 : Sl) ω1123 =>
  load1 .sl a109 ω1123 fun (ξ1124 : Sl) =>
  sem1 .sl PP (Builtin.append_ #[T_Sint, T_Sint] T_Sint #[Sl.v ξ1124, Sl.v ρ1122]) ω1123 fun (ρ1125 : Sl) ω1126 =>
  sem1 .sl PP (Builtin.append_ #[T_Sint, T_Sint] T_Sint #[Sl.v ξ1097, Sl.v ρ963]) ω1126 fun (ρ1127 : Sl) ω1128 =>
  idxK 1 a_5 row_9 fun (a1129 : Addr) =>
  storeC a1129 (Sl.v ρ1125) ω1128 fun ω1130 =>
  idxK 1 b_6 row_9 fun (a1131 : Addr) =>
  storeC a1131 (Sl.v ρ1127) ω1130 fun ω1132 =>
  k (emb5 a_5 b_6 t16 t17 (w64 (t18 + 1))) ω1132))))) := J15_gen std a_5 b_6 i_7 v_8 row_9 t16 t17 t18 w k Q
theorem A8_2_eq (pr : Prims) (a_5 : Sl) (b_6 : Sl) (i_7 : Int) (v_8 : Addr) (row_9 : Int) (t16 : Sl) (t17 : Int) (t18 : Int) (w : World) (k : Env → World → Prop) (Q : Exit → Env → World → Prop) : (q16 pr k Q) (.exit 2) (x2 a_5 b_6 i_7 v_8 row_9 t16 t17 t18) w = (
  bif row_9 == (a_5.n : Int) then (
  pr.sem1 .sl PP (Instr.buildSlice T_SSint 1 #[(0, Sl.v Sl.nil)]) w fun (ρ100 : Sl) ω101 =>
  pr.sem1 .sl PP (Builtin.append_ #[T_SSint, T_SSint] T_SSint #[Sl.v a_5, Sl.v ρ100]) ω101 fun (ρ102 : Sl) ω103 =>
  pr.sem1 .sl PP (Instr.buildSlice T_SSint 1 #[(0, Sl.v Sl.nil)]) ω103 fun (ρ104 : Sl) ω105 =>
  pr.sem1 .sl PP (Builtin.append_ #[T_SSint, T_SSint] T_SSint #[Sl.v b_6, Sl.v ρ104]) ω105 fun (ρ106 : Sl) ω107 =>
  J15 pr ρ102 ρ106 i_7 v_8 row_9 t16 t17 t18 ω107 k Q)
  else (
  J15 pr a_5 b_6 i_7 v_8 row_9 t16 t17 t18 w k Q)) := by kernel_rfl
theorem A8_2_s (a_5 : Sl) (b_6 : Sl) (i_7 : Int) (v_8 : Addr) (row_9 : Int) (t16 : Sl) (t17 : Int) (t18 : Int) (w : World) (k : Env → World → Prop) (Q : Exit → Env → World → Prop) : (q16 std k Q) (.exit 2) (x2 a_5 b_6 i_7 v_8 row_9 t16 t17 t18) w = (
  bif row_9 == (a_5.n : Int) then (
  sem1 .sl PP (Instr.buildSlice T_SSint 1 #[(0, Sl.v Sl.nil)]) w fun (ρ100 : Sl) ω101 =>
  sem1 .sl PP (Builtin.append_ #[T_SSint, T_SSint] T_SSint #[Sl.v a_5, Sl.v ρ100]) ω101 fun (ρ102 : Sl) ω103 =>
  sem1 .sl PP (Instr.buildSlice T_SSint 1 #[(0, Sl.v Sl.nil)]) ω103 fun (ρ104 : Sl) ω105 =>
  sem1 .sl PP (Builtin.append_ #[T_SSint, T_SSint] T_SSint #[Sl.v b_6, Sl.v ρ104]) ω105 fun (ρ106 : Sl) ω107 =>
  J15 std ρ102 ρ106 i_7 v_8 row_9 t16 t17 t18 ω107 k Q)
  else (
  J15 std a_5 b_6 i_7 v_8 row_9 t16 t17 t18 w k Q)) := A8_2_eq std a_5 b_6 i_7 v_8 row_9 t16 t17 t18 w k Q
theorem B5_eq (pr : Prims) (a_5 : Sl) (b_6 : Sl) (t16 : Sl) (t17 : Int) (t18 : Int) (w : World) (k : Env → World → Prop) (Q : Exit → Env → World → Prop) : B5 pr a_5 b_6 t16 t17 t18 w k Q = (
  bif decide (t18 < t17) then (
  pr.idxK 1 t16 t18 fun (a10 : Addr) =>
  pr.load1 (.int .i64) a10 w fun (ξ11 : Int) =>
  pr.newK T_int #[vI 0] w fun (a12 : Addr) ω13 =>
  pr.storeC a12 (vI ξ11) ω13 fun ω14 =>
  L8 pr a_5 b_6 t18 a12 0 t16 t17 t18 ω14 (q16 pr k Q))
  else (
  Q (.exit 0) (x0 a_5 b_6) w)) := by kernel_rfl
theorem B5_s (a_5 : Sl) (b_6 : Sl) (t16 : Sl) (t17 : Int) (t18 : Int) (w : World) (k : Env → World → Prop) (Q : Exit → Env → World → Prop) : B5 std a_5 b_6 t16 t17 t18 w k Q = (
  bif decide (t18 < t17) then (
  idxK 1 t16 t18 fun (a10 : Addr) =>
  load1 (.int .i64) a10 w fun (ξ11 : Int) =>
  newK T_int #[vI 0] w fun (a12 : Addr) ω13 =>
  storeC a12 (vI ξ11) ω13 fun ω14 =>
  L8 std a_5 b_6 t18 a12 0 t16 t17 t18 ω14 (q16 std k Q))
  else (
  Q (.exit 0) (x0 a_5 b_6) w)) := B5_eq std a_5 b_6 t16 t17 t18 w k Q
theorem L5_rule (a_5 : Sl) (b_6 : Sl) (t16 : Sl) (t17 : Int) (t18 : Int) (w : World) (Q : Exit → Env → World → Prop) (I : Sl → Sl → Int → World → Prop) (μ : Sl → Sl → Int → World → Nat) (h0 : I a_5 b_6 t18 w)
    (h : ∀ (a_5 : Sl) (b_6 : Sl) (t18 : Int) (w' : World), I a_5 b_6 t18 w' → B5 std a_5 b_6 t16 t17 t18 w' (fun e2 w2 => ∃ a_5_n b_6_n t18_n, e2 = emb5 a_5_n b_6_n t16 t17 t18_n ∧ I a_5_n b_6_n t18_n w2 ∧ μ a_5_n b_6_n t18_n w2 < μ a_5 b_6 t18 w') Q) :
    L5 std a_5 b_6 t16 t17 t18 w Q := by
  unfold L5
  refine LoopE.intro (σ := Sl × Sl × Int) (step := S5 std Q) (fun s => emb5 s.1 s.2.1 t16 t17 s.2.2) (fun s w => I s.1 s.2.1 s.2.2 w) (fun s w => μ s.1 s.2.1 s.2.2 w) (a_5, b_6, t18) rfl h0 ?_
  intro s w' hI
  have h1 := h s.1 s.2.1 s.2.2 w' hI
  unfold B5 at h1
  simp only [Prod.exists]
  exact h1
theorem A5_0_eq (pr : Prims) (a_5 : Sl) (b_6 : Sl) (w : World) (R : Ending → World → Prop) : (q7 pr R) (.exit 0) (x0 a_5 b_6) w = (
  R (.returned (.tuple #[Sl.v a_5, Sl.v b_6, .bool true])) w) := by kernel_rfl
theorem A5_0_s (a_5 : Sl) (b_6 : Sl) (w : World) (R : Ending → World → Prop) : (q7 std R) (.exit 0) (x0 a_5 b_6) w = (
  R (.returned (.tuple #[Sl.v a_5, Sl.v b_6, .bool true])) w) := A5_0_eq std a_5 b_6 w R
theorem E_eq (pr : Prims) (p_0 : Sl) (w : World) (R : Ending → World → Prop) : E pr p_0 w R = (
  pr.call1 .bool PP F.impl_IsPerm #[Sl.v p_0] w fun (ρ0 : Bool) ω1 =>
  bif !ρ0 then (
  R (.returned (.tuple #[Sl.v Sl.nil, Sl.v Sl.nil, .bool false])) ω1)
  else (
  pr.sem1 .sl PP (Instr.buildSlice T_SSint 0 #[]) ω1 fun (ρ2 : Sl) ω3 =>
  pr.sem1 .sl PP (Instr.buildSlice T_SSint 0 #[]) ω3 fun (ρ4 : Sl) ω5 =>
  L5 pr ρ2 ρ4 p_0 (p_0.n : Int) 0 ω5 (q7 pr R))) := by kernel_rfl
theorem E_s (p_0 : Sl) (w : World) (R : Ending → World → Prop) : E std p_0 w R = (
  call1 .bool PP F.impl_IsPerm #[Sl.v p_0] w fun (ρ0 : Bool) ω1 =>
  bif !ρ0 then (
  R (.returned (.tuple #[Sl.v Sl.nil, Sl.v Sl.nil, .bool false])) ω1)
  else (
  sem1 .sl PP (Instr.buildSlice T_SSint 0 #[]) ω1 fun (ρ2 : Sl) ω3 =>
  sem1 .sl PP (Instr.buildSlice T_SSint 0 #[]) ω3 fun (ρ4 : Sl) ω5 =>
  L5 std ρ2 ρ4 p_0 (p_0.n : Int) 0 ω5 (q7 std R))) := E_eq std p_0 w R
theorem drawsOk : drawsOk PP cfg okD (codeOf Try.f48) = true := by kernel_rfl
theorem calls (p_0 : Sl) {w : World} {R : Ending → World → Prop} (h : E std p_0 w R) : Calls PP F.impl_InsertPerm #[Sl.v p_0] w R :=
  calls_of noCount mixed drawOk Try.func48 rfl (c := cfg) (args := [Sl.v p_0]) rfl (Nat.le_of_ble_eq_true (by kernel_rfl)) drawsOk h
end impl_InsertPerm

namespace impl_InsertPermL1
@[reducible] def cfg : Cfg := ⟨7, [], [], [], [3], [], [101, 107, 112, 15, 21, 124, 76, 137, 28, 115, 91, 81, 130], [138, 140, 82, 6, 86, 85, 132]⟩
def E (pr : Prims) (w_0 : Int) (t1 : Addr) (w : World) (R : Ending → World → Prop) : Prop :=
  wpC pr PP cfg (DD pr) (codeOf Try.f101) (retQ Try.f101.results.toList R) (argE 0 [vI w_0, .pointer (some t1)]) w
theorem E_eq (pr : Prims) (w_0 : Int) (t1 : Addr) (w : World) (R : Ending → World → Prop) : E pr w_0 t1 w R = (
  pr.load1 (.int .i64) t1 w fun (ξ0 : Int) =>
  R (.returned (.bool (decide (w_0 > ξ0)))) w) := by kernel_rfl
theorem E_s (w_0 : Int) (t1 : Addr) (w : World) (R : Ending → World → Prop) : E std w_0 t1 w R = (
  load1 (.int .i64) t1 w fun (ξ0 : Int) =>
  R (.returned (.bool (decide (w_0 > ξ0)))) w) := E_eq std w_0 t1 w R
theorem drawsOk : drawsOk PP cfg okD (codeOf Try.f101) = true := by kernel_rfl
theorem calls (w_0 : Int) (t1 : Addr) {w : World} {R : Ending → World → Prop} (h : E std w_0 t1 w R) : Calls PP F.impl_InsertPermL1 #[vI w_0, .pointer (some t1)] w R :=
  calls_of noCount mixed drawOk Try.func101 rfl (c := cfg) (args := [vI w_0, .pointer (some t1)]) rfl (Nat.le_of_ble_eq_true (by kernel_rfl)) drawsOk h
end impl_InsertPermL1

end Go.Proofs.Ytdchjhhpbdekeaa
