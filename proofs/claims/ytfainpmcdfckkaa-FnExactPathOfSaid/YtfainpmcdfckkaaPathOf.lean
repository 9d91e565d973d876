/- PathOf: both texts. -/
import Derived.Test.YtfainpmcdfckkaaCodePo
import Derived.Test.YtfainpmcdfckkaaFind
import Derived.Test.YtfainpmcdfckkaaShelfR
import Derived.Test.YtfainpmcdfckkaaLaw1
import Derived.Test.YtfainpmcdfckkaaL1
import Derived.Test.YtfainpmcdfckkaaFnVal
import Derived.Test.YtfainpmcdfckkaaLaw2
namespace Go.Proofs.Ytfainpmcdfckkaa
open Go Go.RowKit
set_option maxRecDepth 100000

/-- Greater numbers behind place k, up to place i. -/
def laterT (L : List Int) (k : Nat) : Nat → Int
  | 0 => 0
  | m + 1 => laterT L k m + if L.getD (k + 1 + m) 0 > L.getD k 0 then 1 else 0
def laterV (L : List Int) (k : Nat) : Int := laterT L k (L.length - (k + 1))
theorem laterT_le (L : List Int) (k : Nat) : ∀ m, 0 ≤ laterT L k m ∧ laterT L k m ≤ m
  | 0 => by simp [laterT]
  | m + 1 => by
    have := laterT_le L k m
    rw [laterT]
    split <;> omega
def us (o : ByteArray) : Nat → ByteArray
  | 0 => o
  | k + 1 => us o k ++ ⟨#[85]⟩
def hV (L : List Int) : Nat → Int
  | 0 => 0
  | k + 1 => max (hV L k) (laterV L k + 1) - 1
def pV (L : List Int) : Nat → ByteArray
  | 0 => ⟨#[]⟩
  | k + 1 => us (pV L k) (laterV L k + 1 - hV L k).toNat ++ ⟨#[68]⟩
theorem us_size (o : ByteArray) : ∀ k, (us o k).size = o.size + k
  | 0 => rfl
  | k + 1 => by rw [us, ByteArray.size_append, us_size o k]; rfl
theorem hV_le {L : List Int} (k : Nat) (h8 : L.length ≤ 8) : 0 ≤ hV L k ∧ hV L k ≤ 8 := by
  induction k with
  | zero => simp [hV]
  | succ k ih =>
    have := laterT_le L k (L.length - (k + 1))
    rw [hV, laterV]; omega
theorem pV_size {L : List Int} (h8 : L.length ≤ 8) : ∀ k, (pV L k).size ≤ k * 20
  | 0 => by simp [pV]; rfl
  | k + 1 => by
    have h1 := pV_size h8 k
    have h2 := hV_le k h8
    have h3 := laterT_le L k (L.length - (k + 1))
    have h4 : (⟨#[68]⟩ : ByteArray).size = 1 := rfl
    rw [pV, ByteArray.size_append, us_size, h4, laterV]; omega
theorem us_repeat (o : ByteArray) : ∀ c, o ++ ⟨(Lib.repeatL [85] c).toArray⟩ = us o c
  | 0 => by
    rw [us]; apply ByteArray.ext; simp [Lib.repeatL]
  | c + 1 => by
    rw [us, ← us_repeat o c, Lib.repeatL_add]
    apply ByteArray.ext
    simp [Lib.repeatL]
theorem c_l18Later {w : World} {a : Sl} {L : List Int} (ha : RowI w a L) (h8 : L.length ≤ 8) {k : Nat} (hk : k < L.length) :
    Calls PP F.spec_l18Later #[a.v, vI k] w fun e w' => e = .returned (vI (laterV L k)) ∧ Below w.heap.size w w' := by
  have han : a.n = L.length := by have := ha.n; simpa using this
  refine spec_l18Later.calls a k ?_
  rw [spec_l18Later.E_s, w64_succ (n := (k : Int)) (by omega) (by omega)]
  refine spec_l18Later.L3_rule _ _ _ _ _ _ (I := fun n i w' => (k : Int) + 1 ≤ i ∧ i ≤ L.length ∧ Below w.heap.size w w' ∧ n = laterT L k (i.toNat - (k + 1))) (μ := fun _ i _ => (L.length - i).toNat)
    ⟨by omega, by omega, Below.refl _ _, by rw [show ((k : Int) + 1).toNat - (k + 1) = 0 by omega]; rfl⟩ ?_
  rintro n i w' ⟨h0, hi, hb, hn⟩
  rw [spec_l18Later.B3_s, han]
  refine bif_dec (fun h3 => ?_) (fun h3 => ?_)
  · refine RowI.get (ha.grow hb) (by omega) (by omega) ?_
    refine RowI.get (ha.grow hb) (by omega) (by omega) ?_
    refine Pure.pcall1 (s := .int .i64) (c_l1Bit _) ?_
    refine drew_intro fun w2 hd => ?_
    have hle := laterT_le L k (i.toNat - (k + 1))
    refine ⟨_, i + 1, by rw [w64_succ (n := i) (by omega) (by omega)], ⟨by omega, by omega, hb.trans (hd.below _), ?_⟩, by omega⟩
    rw [show (i + 1).toNat - (k + 1) = (i.toNat - (k + 1)) + 1 by omega, laterT, hn, show k + 1 + (i.toNat - (k + 1)) = i.toNat by omega, Int.toNat_natCast]
    by_cases h5 : L.getD i.toNat 0 > L.getD k 0
    · rw [if_pos h5, if_pos (decide_eq_true h5), w64_id (by omega) (by omega)]
    · rw [if_neg h5, if_neg (by simpa using h5), w64_id (by omega) (by omega)]
  · rw [spec_l18Later.A3_0_s]
    rw [show i.toNat = L.length by omega] at hn
    exact ⟨by rw [hn, laterV], hb⟩
theorem fill_three (z v u x : Value) (hz : z.cells = #[z]) (hv : One v) (hu : One u) (hx : One x) : Instr.fill (fun i => some (i * 1, 1)) ((Array.range (3 * 1)).map (z.cells[· % z.cells.size]!)) [(0, v), (1, u), (2, x)] = some #[v, u, x] := by
  simp [Instr.fill, hv.1, hu.1, hx.1, hz, Array.range]
  rfl
theorem lit3 {t e z} (hT : OneT t e z) {w : World} {B : Nat} (hB : B ≤ w.heap.size) {v u x : Value} (hv : One v) (hu2 : One u) (hx : One x) {K : Sl → World → Prop}
    (h : ∀ s w', Own w' B e s [v, u, x] → w.grownBy w' none → K s w') : sem1 .sl PP (Instr.buildSlice t 3 #[(0, v), (1, u), (2, x)]) w K := by
  obtain ⟨i, hu, hi, hz, hs, hb, hzc⟩ := hT
  have hrun : (Instr.buildSlice t 3 #[(0, v), (1, u), (2, x)]).run PP w = .ok (.slice (some ⟨w.heap.size, 0, none⟩) 3 3) (w.alloc (.cells #[v, u, x] e)) := by
    refine run_buildSlice w t e 3 #[(0, v), (1, u), (2, x)] #[v, u, x] i z hu hi hz (by rw [hs]; decide) (by rw [hs]; decide) ?_
    rw [hs]
    exact fill_three z v u x hzc hv hu2 hx
  exact ⟨⟨some ⟨w.heap.size, 0, none⟩, 3, 3⟩, _, hrun, h _ _ ⟨rfl, Nat.le_refl _, by simp only [maxLen]; omega, .inr ⟨_, _, rfl, hB, heap_alloc_new w _, rfl, rfl⟩⟩ (World.grownBy_alloc w _ none)⟩
def PthOk (L : List Int) : Prop := IsP L ∧ hasP L [1, 3, 2] = false
open Classical in
noncomputable def PathOfV (L : List Int) : ByteArray := if PthOk L then pV L L.length else ⟨#[]⟩
open Classical in
noncomputable def PathOfV1 (L : List Int) : Bool := decide (PthOk L)
theorem szmax {o : ByteArray} {n m : Nat} (h : o.size ≤ 1000) (hm : m ≤ 1000) : ((o.size + m : Nat) : Int) ≤ IntKind.i64.max := by
  have : IntKind.i64.max = 9223372036854775807 := by decide
  rw [this]; omega
open Classical in
theorem c_specPathOf {w : World} {a : Sl} {L : List Int} (ha : RowI w a L) (hL : L.length < 2^38) :
    Calls PP F.spec_PathOf #[a.v] w fun e w' => e = .returned (.tuple #[.string (PathOfV L), .bool (PathOfV1 L)]) ∧ Below w.heap.size w w' := by
  have han : a.n = L.length := by have := ha.n; simpa using this
  have no : ∀ w', Below w.heap.size w w' → ¬ PthOk L → (Ending.returned (.tuple #[.string ⟨#[]⟩, .bool false])) = .returned (.tuple #[.string (PathOfV L), .bool (PathOfV1 L)]) ∧ Below w.heap.size w w' := fun w' hb hn => ⟨by rw [PathOfV, PathOfV1, if_neg hn, decide_eq_false hn], hb⟩
  refine spec_PathOf.calls a ?_
  rw [spec_PathOf.E_s]
  refine Quiet.call1 (s := .bool) (c_specIsPerm ha hL) ?_
  intro w1 hd1
  have hb1 := hd1.below w.heap.size
  refine bif_intro (fun h => ?_) (fun h => ?_)
  · exact no w1 hb1 fun hh => by have := hh.1; simp [this] at h
  have hP : IsP L := by simpa using h
  have h8 := hP.1
  refine lit3 oneInt (B := w1.heap.size) (Nat.le_refl _) (One.int 1) (One.int 3) (One.int 2) ?_
  intro q w2 hq hg2
  have hb12 := below_of_grow hg2
  have hb2 := hb1.trans (hb12.mono hb1.size)
  refine (c_l7Has (Q := [1, 3, 2]) (ha.grow hb2) hq.row h8 (by simp)).mono ?_
  rintro e w3 ⟨rfl, hb23⟩
  refine ⟨_, rfl, ?_⟩
  have hb3 := hb2.trans (hb23.mono hb2.size)
  refine bif_intro (fun h => ?_) (fun h => ?_)
  · exact no w3 hb3 fun hh => by rw [hh.2] at h; cases h
  have hok : PthOk L := ⟨hP, h⟩
  rw [PathOfV, PathOfV1, if_pos hok, decide_eq_true hok]
  refine spec_PathOf.L6_rule _ _ _ _ _ _ (I := fun o h k w' => 0 ≤ k ∧ k ≤ L.length ∧ Below w.heap.size w w' ∧ o = pV L k.toNat ∧ h = hV L k.toNat) (μ := fun _ _ k _ => (L.length - k).toNat)
    ⟨by omega, by omega, hb3, rfl, rfl⟩ ?_
  rintro o h k w4 ⟨hk0, hk, hb4, rfl, rfl⟩
  rw [spec_PathOf.B6_s, han]
  refine bif_dec (fun h3 => ?_) (fun h3 => ?_)
  · obtain ⟨k, rfl⟩ : ∃ m : Nat, k = m := ⟨k.toNat, by omega⟩
    have hlt : k < L.length := by omega
    rw [Int.toNat_natCast]
    have hs := pV_size h8 k
    have hh := hV_le k h8
    have hle := laterT_le L k (L.length - (k + 1))
    have hlv : laterV L k = laterT L k (L.length - (k + 1)) := rfl
    refine spec_PathOf.L8_rule _ _ _ _ _ _ (I := fun o h w' => hV L k ≤ h ∧ h ≤ max (hV L k) (laterV L k + 1) ∧ Below w.heap.size w w' ∧ o = us (pV L k) (h - hV L k).toNat) (μ := fun _ h _ => (laterV L k + 1 - h).toNat)
      ⟨by omega, by omega, hb4, by rw [show (hV L k - hV L k).toNat = 0 by omega]; rfl⟩ ?_
    rintro o h w5 ⟨h1, h2, hb5, rfl⟩
    rw [spec_PathOf.B8_s]
    refine (c_l18Later (ha.grow hb5) h8 hlt).mono ?_
    rintro e w6 ⟨rfl, hb6⟩
    refine ⟨_, rfl, ?_⟩
    have hb56 := hb5.trans (hb6.mono hb5.size)
    have hus := us_size (pV L k) (h - hV L k).toNat
    have ew : w64 (laterV L k + 1) = laterV L k + 1 := w64_succ (by omega) (by omega)
    simp only [ew]
    refine bif_dec (fun h7 => ?_) (fun h7 => ?_)
    · refine ⟨szmax (n := 0) (by omega) (by decide), _, h + 1, by rw [w64_succ (by omega) (by omega)], ⟨by omega, by omega, hb56, ?_⟩, by omega⟩
      rw [show (h + 1 - hV L k).toNat = (h - hV L k).toNat + 1 by omega]; rfl
    · rw [spec_PathOf.A8_2_s]
      refine ⟨szmax (n := 0) (by omega) (by decide), _, _, (k : Int) + 1, by rw [w64_succ (n := (k : Int)) hk0 (by omega), w64_id (n := h - 1) (by omega) (by omega)], ⟨by omega, by omega, hb56, ?_, ?_⟩, by omega⟩
      · rw [show ((k : Int) + 1).toNat = k + 1 by omega, pV, show (h - hV L k).toNat = (laterV L k + 1 - hV L k).toNat by omega]
      · rw [show ((k : Int) + 1).toNat = k + 1 by omega, hV]; omega
  · rw [spec_PathOf.A6_0_s]
    rw [show k.toNat = L.length by omega]
    exact ⟨rfl, hb4⟩
open Classical in
theorem c_implPathOf {w : World} {a : Sl} {L : List Int} (ha : RowI w a L) (hL : L.length < 2^38) :
    Calls PP F.impl_PathOf #[a.v] w fun e w' => e = .returned (.tuple #[.string (PathOfV L), .bool (PathOfV1 L)]) ∧ Below w.heap.size w w' := by
  have han : a.n = L.length := by have := ha.n; simpa using this
  have no : ∀ w', Below w.heap.size w w' → ¬ PthOk L → (Ending.returned (.tuple #[.string ⟨#[]⟩, .bool false])) = .returned (.tuple #[.string (PathOfV L), .bool (PathOfV1 L)]) ∧ Below w.heap.size w w' := fun w' hb hn => ⟨by rw [PathOfV, PathOfV1, if_neg hn, decide_eq_false hn], hb⟩
  refine impl_PathOf.calls a ?_
  rw [impl_PathOf.E_s]
  refine (c_implIsPerm ha hL).mono ?_
  rintro e w1 ⟨rfl, hb1⟩
  refine ⟨_, rfl, ?_⟩
  refine bif_intro (fun h => ?_) (fun h => ?_)
  · exact no w1 hb1 fun hh => by have := hh.1; simp [this] at h
  have hP : IsP L := by simpa using h
  have h8 := hP.1
  refine lit3 oneInt (B := w1.heap.size) (Nat.le_refl _) (One.int 1) (One.int 3) (One.int 2) ?_
  intro q w2 hq hg2
  have hb12 := below_of_grow hg2
  have hb2 := hb1.trans (hb12.mono hb1.size)
  refine (c_has_nil (Q := [1, 3, 2]) (ha.grow hb2) hq.row (by omega) (by simp)).mono ?_
  rintro e w3 ⟨rfl, hb23⟩
  refine ⟨_, rfl, ?_⟩
  have hb3 := hb2.trans (hb23.mono hb2.size)
  refine bif_intro (fun h => ?_) (fun h => ?_)
  · exact no w3 hb3 fun hh => by rw [hh.2] at h; cases h
  have hok : PthOk L := ⟨hP, h⟩
  rw [PathOfV, PathOfV1, if_pos hok, decide_eq_true hok]
  show impl_PathOf.L6 std a _ 0 a (a.n : Int) 0 w3 _
  rw [han]
  refine impl_PathOf.L6_rule _ _ _ _ _ _ _ _ (I := fun o h k w' => 0 ≤ k ∧ k ≤ L.length ∧ Below w.heap.size w w' ∧ o = pV L k.toNat ∧ h = hV L k.toNat) (μ := fun _ _ k _ => (L.length - k).toNat)
    ⟨by omega, by omega, hb3, rfl, rfl⟩ ?_
  rintro o h k w4 ⟨hk0, hk, hb4, rfl, rfl⟩
  rw [impl_PathOf.B6_s]
  refine bif_dec (fun h3 => ?_) (fun h3 => ?_)
  · obtain ⟨k, rfl⟩ : ∃ m : Nat, k = m := ⟨k.toNat, by omega⟩
    have hlt : k < L.length := by omega
    rw [Int.toNat_natCast]
    have hs := pV_size h8 k
    have hh := hV_le k h8
    have hle := laterT_le L k (L.length - (k + 1))
    have hlv : laterV L k = laterT L k (L.length - (k + 1)) := rfl
    refine RowI.get (ha.grow hb4) hk0 (by omega) ?_
    rw [Int.toNat_natCast, w64_succ (n := (k : Int)) hk0 (by omega)]
    refine Row.cut (ha.grow hb4) (by simp <;> omega) (by simp <;> omega) (by simp <;> omega) fun t ht => ?_
    have e2 : (List.take ((none : Option Int).getD (a.n : Int)).toNat (L.map vI)).drop ((some ((k : Int) + 1)).getD 0).toNat = (L.drop (k + 1)).map vI := by
      rw [han]; simp [List.map_drop, List.take_of_length_le]
    rw [e2] at ht
    have htn : t.n = L.length - (k + 1) := by have := ht.n; simpa using this
    rw [htn]
    refine impl_PathOf.L10_rule _ _ _ _ _ _ _ _ _ _ _ _ _ (I := fun want j w' => w' = w4 ∧ 0 ≤ j ∧ j ≤ (L.length - (k + 1) : Nat) ∧ want = 1 + laterT L k j.toNat) (μ := fun _ j _ => ((L.length - (k + 1) : Nat) - j).toNat)
      ⟨rfl, by omega, by omega, rfl⟩ ?_
    rintro want j w5 ⟨rfl, hj0, hj, rfl⟩
    have hlj := laterT_le L k j.toNat
    rw [impl_PathOf.B10_s]
    refine bif_dec (fun h5 => ?_) (fun h5 => ?_)
    · refine RowI.get ht hj0 (by simp; omega) ?_
      have e3 : (L.drop (k + 1)).getD j.toNat 0 = L.getD (k + 1 + j.toNat) 0 := by simp [List.getD_eq_getElem?_getD, List.getElem?_drop]
      rw [e3]
      have ej : (j + 1).toNat = j.toNat + 1 := by omega
      refine bif_dec (fun h6 => ?_) (fun h6 => ?_)
      · refine ⟨_, j + 1, by rw [w64_succ hj0 (by omega), w64_succ (by omega) (by omega)], ⟨rfl, by omega, by omega, ?_⟩, by omega⟩
        rw [ej, laterT, if_pos h6]; omega
      · refine ⟨_, j + 1, by rw [w64_succ hj0 (by omega)], ⟨rfl, by omega, by omega, ?_⟩, by omega⟩
        rw [ej, laterT, if_neg h6]; omega
    · rw [impl_PathOf.A10_2_s]
      rw [show j.toNat = L.length - (k + 1) by omega, ← hlv]
      have hus := us_size (pV L k) (laterV L k + 1 - hV L k).toNat
      have em : (if 1 + laterV L k > hV L k then 1 + laterV L k else hV L k) = max (hV L k) (laterV L k + 1) := by split <;> omega
      refine bif_dec (fun h7 => ?_) (fun h7 => ?_)
      · obtain ⟨c, hc⟩ : ∃ c : Nat, 1 + laterV L k - hV L k = c := ⟨(1 + laterV L k - hV L k).toNat, by omega⟩
        have ec : w64 (1 + laterV L k - hV L k) = (c : Int) := by rw [w64_id (by omega) (by omega)]; exact hc
        rw [ec]
        refine (Try.strings_Repeat ⟨#[85]⟩ c w5 (by omega) (by show 1 * c ≤ _; omega)).mono ?_
        rintro e w6 ⟨rfl, hb6⟩
        refine ⟨_, rfl, ?_⟩
        have hb46 := hb4.trans (hb6.mono hb4.size)
        have eu : pV L k ++ (⟨(Lib.repeatL (⟨#[85]⟩ : ByteArray).data.toList c).toArray⟩ : ByteArray) = us (pV L k) (laterV L k + 1 - hV L k).toNat := by
          rw [show (laterV L k + 1 - hV L k).toNat = c by omega]; exact us_repeat _ c
        have hsz : (⟨(Lib.repeatL (⟨#[85]⟩ : ByteArray).data.toList c).toArray⟩ : ByteArray).size ≤ 1000 := by
          have := congrArg ByteArray.size eu
          rw [ByteArray.size_append] at this
          omega
        refine ⟨szmax (n := 0) (by omega) hsz, ?_⟩
        simp only [eu]
        rw [impl_PathOf.J17_s, em]
        refine ⟨szmax (n := 0) (by omega) (by decide), _, _, (k : Int) + 1, by rw [w64_succ (n := (k : Int)) hk0 (by omega), w64_id (n := max (hV L k) (laterV L k + 1) - 1) (by omega) (by omega)], ⟨by omega, by omega, hb46, ?_, ?_⟩, by omega⟩
        · rw [show ((k : Int) + 1).toNat = k + 1 by omega, pV]
        · rw [show ((k : Int) + 1).toNat = k + 1 by omega, hV]
      · rw [impl_PathOf.J17_s, em]
        refine ⟨szmax (n := 0) (by omega) (by decide), _, _, (k : Int) + 1, by rw [w64_succ (n := (k : Int)) hk0 (by omega), w64_id (n := max (hV L k) (laterV L k + 1) - 1) (by omega) (by omega)], ⟨by omega, by omega, hb4, ?_, ?_⟩, by omega⟩
        · rw [show ((k : Int) + 1).toNat = k + 1 by omega, pV, show (laterV L k + 1 - hV L k).toNat = 0 by omega]; rfl
        · rw [show ((k : Int) + 1).toNat = k + 1 by omega, hV]
  · rw [impl_PathOf.A6_0_s]
    rw [show k.toNat = L.length by omega]
    exact ⟨rfl, hb4⟩
theorem lawC_FnExactPathOf (a0 : Sl) (L0 : List Int) (w : World) (ha0 : RowI w a0 L0) (hbd0 : ∀ x ∈ L0, -9223372036854775808 ≤ x ∧ x ≤ 9223372036854775807) :
    Calls PP F.laws_FnExactPathOf #[a0.v] w fun e w' => e = .returned (.bool true) ∧ Below w.heap.size w w' := by
  have han0 : a0.n = L0.length := by have := ha0.n; simpa using this
  refine laws_FnExactPathOf.calls a0 ?_
  rw [laws_FnExactPathOf.E_s]
  have b_0_0 : Below w.heap.size w w := Below.refl _ _
  refine bif_dec (fun h => ⟨rfl, b_0_0⟩) (fun h0s => ?_)
  have hL0 : L0.length < 2 ^ 38 := by omega
  refine (c_toIntS (ha0.grow b_0_0) (by omega)).mono ?_
  rintro e w1 ⟨xw0, rfl, hxw0, s_0⟩
  refine ⟨xw0, rfl, ?_⟩
  have b_0_1 := b_0_0.trans (s_0.mono b_0_0.size)
  have b_1_1 : Below w1.heap.size w1 w1 := Below.refl _ _
  refine (c_specPathOf (hxw0.row.grow b_1_1) (by omega)).mono ?_
  rintro e w2 ⟨rfl, s_1⟩
  refine ⟨_, _, rfl, ?_⟩
  have b_0_2 := b_0_1.trans (s_1.mono b_0_1.size)
  have b_1_2 := b_1_1.trans (s_1.mono b_1_1.size)
  have b_2_2 : Below w2.heap.size w2 w2 := Below.refl _ _
  refine (c_toIntS (ha0.grow b_0_2) (by omega)).mono ?_
  rintro e w3 ⟨xx0, rfl, hxx0, s_2⟩
  refine ⟨xx0, rfl, ?_⟩
  have b_0_3 := b_0_2.trans (s_2.mono b_0_2.size)
  have b_1_3 := b_1_2.trans (s_2.mono b_1_2.size)
  have b_2_3 := b_2_2.trans (s_2.mono b_2_2.size)
  have b_3_3 : Below w3.heap.size w3 w3 := Below.refl _ _
  refine (c_implPathOf (hxx0.row.grow b_3_3) (by omega)).mono ?_
  rintro e w4 ⟨rfl, s_3⟩
  refine ⟨_, _, rfl, ?_⟩
  have b_0_4 := b_0_3.trans (s_3.mono b_0_3.size)
  have b_1_4 := b_1_3.trans (s_3.mono b_1_3.size)
  have b_2_4 := b_2_3.trans (s_3.mono b_2_3.size)
  have b_3_4 := b_3_3.trans (s_3.mono b_3_3.size)
  have b_4_4 : Below w4.heap.size w4 w4 := Below.refl _ _
  refine bif_f (by simp) ?_
  refine bif_f (by simp) ?_
  refine (c_toIntS (ha0.grow b_0_4) (by omega)).mono ?_
  rintro e w5 ⟨y0, rfl, hy0, s_4⟩
  refine ⟨y0, rfl, ?_⟩
  have b_0_5 := b_0_4.trans (s_4.mono b_0_4.size)
  have b_1_5 := b_1_4.trans (s_4.mono b_1_4.size)
  have b_2_5 := b_2_4.trans (s_4.mono b_2_4.size)
  have b_3_5 := b_3_4.trans (s_4.mono b_3_4.size)
  have b_4_5 := b_4_4.trans (s_4.mono b_4_4.size)
  refine Quiet.call1 (s := .bool) (c_eqIntS (hxx0.row.grow b_3_5) hy0.row (by omega)) ?_
  intro w6 hd6
  have s_5 : Below w5.heap.size w5 w6 := hd6.below _
  have b_0_6 := b_0_5.trans (s_5.mono b_0_5.size)
  have b_1_6 := b_1_5.trans (s_5.mono b_1_5.size)
  have b_2_6 := b_2_5.trans (s_5.mono b_2_5.size)
  have b_3_6 := b_3_5.trans (s_5.mono b_3_5.size)
  have b_4_6 := b_4_5.trans (s_5.mono b_4_5.size)
  refine bif_f (by simp) ?_
  exact ⟨rfl, b_0_6⟩
end Go.Proofs.Ytfainpmcdfckkaa
