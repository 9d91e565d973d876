/- The names of the functions and types, written by a program (Gen.lean). -/
import Derived.Test.YtjnikeemcbhmkaaBase
import Derived.Test.YtjnikeemcbhmkaaProg
import Derived.KernelRfl
set_option linter.unusedVariables false
namespace Go.Proofs.Ytjnikeemcbhmkaa
open Go
namespace F
@[reducible] def main_main : FuncId := 0
@[reducible] def gosem_cut : FuncId := 1
@[reducible] def gosem_cut_init : FuncId := 2
@[reducible] def laws_FnExactFibonacciNumber : FuncId := 3
@[reducible] def laws_FnExactSchroederNumber : FuncId := 4
@[reducible] def laws_FnExactCatalanNumber : FuncId := 5
@[reducible] def laws_FnExactIsPath : FuncId := 6
@[reducible] def laws_FnExactCountReturns : FuncId := 7
@[reducible] def laws_FnExactPathHeight : FuncId := 8
@[reducible] def spec_FibonacciNumber : FuncId := 9
@[reducible] def impl_FibonacciNumber : FuncId := 10
@[reducible] def spec_SchroederNumber : FuncId := 11
@[reducible] def impl_SchroederNumber : FuncId := 12
@[reducible] def spec_CatalanNumber : FuncId := 13
@[reducible] def impl_CatalanNumber : FuncId := 14
@[reducible] def spec_IsPath : FuncId := 15
@[reducible] def impl_IsPath : FuncId := 16
@[reducible] def spec_CountReturns : FuncId := 17
@[reducible] def impl_CountReturns : FuncId := 18
@[reducible] def spec_PathHeight : FuncId := 19
@[reducible] def impl_PathHeight : FuncId := 20
@[reducible] def spec_l1In : FuncId := 21
@[reducible] def spec_Choose : FuncId := 22
@[reducible] def impl_Choose : FuncId := 23
@[reducible] def impl_heights : FuncId := 24
@[reducible] def spec_l18Heights : FuncId := 25
@[reducible] def spec_l1Bit : FuncId := 26
@[reducible] def spec_l1Max : FuncId := 27
@[reducible] def _runtime_boundsError__Error : FuncId := 28
@[reducible] def _runtime_boundsError__RuntimeError : FuncId := 29
@[reducible] def _runtime_errorString__Error : FuncId := 30
@[reducible] def _runtime_errorString__RuntimeError : FuncId := 31
@[reducible] def _runtime_plainError__Error : FuncId := 32
@[reducible] def _runtime_plainError__RuntimeError : FuncId := 33
@[reducible] def _runtime_errorAddressString__Error : FuncId := 34
@[reducible] def _runtime_errorAddressString__RuntimeError : FuncId := 35
@[reducible] def __runtime_TypeAssertionError__Error : FuncId := 36
@[reducible] def __runtime_TypeAssertionError__RuntimeError : FuncId := 37
@[reducible] def __runtime_PanicNilError__Error : FuncId := 38
@[reducible] def __runtime_PanicNilError__RuntimeError : FuncId := 39
@[reducible] def __internal_abi_Type__Align : FuncId := 40
@[reducible] def _internal_runtime_maps_unhashableTypeError__Error : FuncId := 41
@[reducible] def _internal_runtime_maps_unhashableTypeError__RuntimeError : FuncId := 42
@[reducible] def _internal_abi_Kind__String : FuncId := 43
end F
@[reducible] def T___ : TypeId := 0
@[reducible] def T_func__ : TypeId := 1
@[reducible] def T_int64 : TypeId := 2
@[reducible] def T_int : TypeId := 3
@[reducible] def T_bool : TypeId := 4
@[reducible] def T_uint8 : TypeId := 5
@[reducible] def T_abi_BoundsErrorCode : TypeId := 6
@[reducible] def T_struct___x_int64__y_int__signed_bool__code_abi_BoundsErrorCode__ : TypeId := 7
@[reducible] def T_runtime_boundsError : TypeId := 8
@[reducible] def T_string : TypeId := 9
@[reducible] def T_runtime_errorString : TypeId := 10
@[reducible] def T_runtime_plainError : TypeId := 11
@[reducible] def T_uintptr : TypeId := 12
@[reducible] def T_struct___msg_string__addr_uintptr__ : TypeId := 13
@[reducible] def T_runtime_errorAddressString : TypeId := 14
@[reducible] def T_Pruntime_TypeAssertionError : TypeId := 15
@[reducible] def T_Pruntime_PanicNilError : TypeId := 16
@[reducible] def T_Pabi_Type : TypeId := 17
@[reducible] def T_struct___typ_Pabi_Type__ : TypeId := 18
@[reducible] def T_maps_unhashableTypeError : TypeId := 19
@[reducible] def T_interface___ : TypeId := 20
@[reducible] def T_int32 : TypeId := 21
@[reducible] def T_func_int__int : TypeId := 22
@[reducible] def T_func_int__bool : TypeId := 23
@[reducible] def T_func_string__bool : TypeId := 24
@[reducible] def T_func_string__int : TypeId := 25
@[reducible] def T_func_int__int__int__bool : TypeId := 26
@[reducible] def T_Sint : TypeId := 27
@[reducible] def T_func_int__int__int : TypeId := 28
@[reducible] def T__Sint__bool_ : TypeId := 29
@[reducible] def T_func_string___Sint__bool_ : TypeId := 30
@[reducible] def T_func_string__Sint : TypeId := 31
@[reducible] def T_func_bool__int : TypeId := 32
@[reducible] def T_func___string : TypeId := 33
@[reducible] def T_struct____interface_Pabi_Type__concrete_Pabi_Type__asserted_Pabi_Type__missingMethod_string__ : TypeId := 34
@[reducible] def T_runtime_TypeAssertionError : TypeId := 35
@[reducible] def T__0_Pruntime_PanicNilError : TypeId := 36
@[reducible] def T_struct______0_Pruntime_PanicNilError__ : TypeId := 37
@[reducible] def T_runtime_PanicNilError : TypeId := 38
@[reducible] def T_func___int : TypeId := 39
@[reducible] def T_uint32 : TypeId := 40
@[reducible] def T_abi_TFlag : TypeId := 41
@[reducible] def T_abi_Kind : TypeId := 42
@[reducible] def T_func_unsafe_Pointer__unsafe_Pointer__bool : TypeId := 43
@[reducible] def T_Puint8 : TypeId := 44
@[reducible] def T_abi_NameOff : TypeId := 45
@[reducible] def T_abi_TypeOff : TypeId := 46
@[reducible] def T_struct___Size__uintptr__PtrBytes_uintptr__Hash_uint32__TFlag_abi_TFlag__Align__uint8__FieldAlign__uint8__Kind__abi_Kind__Equal_func_unsafe_Pointer__unsafe_Pointer__bool__GCData_Puint8__Str_abi_NameOff__PtrToThis_abi_TypeOff__ : TypeId := 47
@[reducible] def T_abi_Type : TypeId := 48
@[reducible] def T_unsafe_Pointer : TypeId := 49
@[reducible] noncomputable def PP : Program := Try.prog
@[reducible] def DD (pr : Prims) (id : Nat) (ops : Array Oper) (e : Env) (w : World) (K : Env → World → Prop) : Prop := False
@[reducible] def okD (id : Nat) (ops : Array Oper) : Bool := false
theorem noCountB : PP.funcs.toList.all (fun fn => !(fn.name == "runtime.NumGoroutine")) = true := by kernel_rfl
theorem noCount : NoCount PP := fun f fn h => by
  have := List.all_eq_true.1 noCountB fn (Array.mem_toList_iff.2 (Array.mem_of_getElem? h))
  simpa using this
theorem mixed : PP.follows .mixedOrders = true := by kernel_rfl
theorem drawOk {c : Cfg} : DrawOk PP c (DD std) okD := fun _ _ _ _ _ _ _ _ h => h.elim
end Go.Proofs.Ytjnikeemcbhmkaa
