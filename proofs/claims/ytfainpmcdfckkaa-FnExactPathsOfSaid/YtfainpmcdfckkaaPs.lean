/- PathsOf: both texts, and the law. -/
import Derived.Test.YtfainpmcdfckkaaCodePs
import Derived.Test.YtfainpmcdfckkaaStr
import Derived.Test.YtfainpmcdfckkaaShelf
import Derived.Test.YtfainpmcdfckkaaShelfS
import Derived.Test.YtfainpmcdfckkaaL1
namespace Go.Proofs.Ytfainpmcdfckkaa
open Go Go.RowKit Go.Sort
set_option maxRecDepth 100000

def sortT (L : List (List UInt8)) : List (List UInt8) := L.mergeSort fun x y => decide (x ≤ y)
theorem sortT_length (L : List (List UInt8)) : (sortT L).length = L.length := List.length_mergeSort L
theorem c_SortT {w : World} {B : Nat} {s : Sl} {L : List (List UInt8)} (h : OwnT w B s L) (hL : L.length < 2^40) {K : World → Prop} (hk : ∀ w', OwnT w' B s (sortT L) → Below B w w' → K w') :
    call0 PP F.slices_Sort___string_string_ #[s.v] w K := by
  have hn : s.n = L.length := by have := h.n; simpa using this
  have hnc := h.nc
  have hcm := h.cm
  rcases h.at_ with hc | ⟨g, cur, ha, hBg, hg, hsz, ht⟩
  · have h0 : L.length = 0 := by omega
    obtain rfl : L = [] := List.eq_nil_of_length_eq_zero h0
    have e : s.v = .slice s.a 0 s.c := by rw [Sl.v, hn]; rfl
    rw [e]
    refine (Try.slices_Sort_string_none s.a s.c w).mono ?_
    rintro e w' ⟨rfl, rfl⟩
    exact ⟨rfl, hk _ (by simpa [sortT] using h) (Below.refl _ _)⟩
  · have hglt : g < w.heap.size := (Array.getElem?_eq_some_iff.1 hg).1
    have e : s.v = .slice (some ⟨g, 0, none⟩) L.length s.c := by rw [Sl.v, hn, ha]
    rw [e]
    rw [hn] at ht
    refine (Try.slices_Sort_string g 0 s.c L w (holds_of_block hg ht) hglt (by omega)).mono ?_
    rintro e w' ⟨rfl, n, os, rfl⟩
    have hl : (sortT L).length = L.length := sortT_length L
    refine ⟨rfl, hk _ ⟨by rw [List.length_map, hl, hn], hnc, hcm, .inr ⟨g, _, ha, hBg, heap_sorted _ hg, by simp [Go.Sort.putCells, hsz], ?_⟩⟩ ?_⟩
    · rw [hn, ← hl]
      exact take_putCells cur (sortT L) (by omega)
    · have h5 := grownBy_sorted (w := w) (g := g) (n := n) (os := os) (sortT L).toArray
      refine ⟨h5.os, h5.tape, h5.output, h5.size, fun k hk => h5.block k (by omega) fun e => ?_⟩
      have : k = g := Option.some.inj e
      omega
/-! ### Values -/
def extP (n : Nat) (s : List UInt8) : List (List UInt8) := (if 2 * s.count 85 > s.length then [s ++ [68]] else []) ++ (if s.count 85 < n then [s ++ [85]] else [])
def lvP (n : Nat) : Nat → List (List UInt8)
  | 0 => [[]]
  | k + 1 => (lvP n k).flatMap (extP n)
def fillP (n : Nat) : Nat → List UInt8 → Nat → List (List UInt8)
  | 0, h, _ => [h]
  | f + 1, h, u => (if 2 * u > h.length then fillP n f (h ++ [68]) u else []) ++ (if u < n then fillP n f (h ++ [85]) (u + 1) else [])
theorem lvP_mem {n : Nat} : ∀ (k : Nat) {s : List UInt8}, s ∈ lvP n k → s.length = k ∧ s.count 85 ≤ k
  | 0, s, h => by simp [lvP] at h; subst h; simp
  | k + 1, s, h => by
    rw [lvP, List.mem_flatMap] at h
    obtain ⟨t, ht, hs⟩ := h
    have h1 := lvP_mem k ht
    unfold extP at hs
    rw [List.mem_append] at hs
    rcases hs with hs | hs
    · split at hs
      · simp at hs; subst hs; simp [List.count_append]; omega
      · simp at hs
    · split at hs
      · simp at hs; subst hs; simp [List.count_append]; omega
      · simp at hs
theorem extP_len (n : Nat) (s : List UInt8) : (extP n s).length ≤ 2 := by
  unfold extP; split <;> split <;> simp
theorem flat_len {L : List (List UInt8)} {n : Nat} : (L.flatMap (extP n)).length ≤ 2 * L.length := by
  induction L with
  | nil => simp
  | cons a L ih => rw [List.flatMap_cons, List.length_append, List.length_cons]; have := extP_len n a; omega
theorem lvP_len (n : Nat) : ∀ k, (lvP n k).length ≤ 2 ^ k
  | 0 => by simp [lvP]
  | k + 1 => by rw [lvP, Nat.pow_succ]; have := flat_len (L := lvP n k) (n := n); have := lvP_len n k; omega
theorem fillP_len (n : Nat) : ∀ (f : Nat) (h : List UInt8) (u : Nat), (fillP n f h u).length ≤ 2 ^ f
  | 0, h, u => by simp [fillP]
  | f + 1, h, u => by
    have h1 := fillP_len n f (h ++ [68]) u
    have h2 := fillP_len n f (h ++ [85]) (u + 1)
    rw [fillP, List.length_append, Nat.pow_succ]
    split <;> split <;> simp <;> omega
theorem same_P (n : Nat) (hn : n ≤ 6) : lvP n (2 * n) = fillP n (2 * n) [] 0 := by
  have : ∀ n, n < 7 → lvP n (2 * n) = fillP n (2 * n) [] 0 := by decide +kernel
  exact this n (by omega)
theorem sorted_P (n : Nat) (hn : n ≤ 6) : (lvP n (2 * n)).Pairwise fun x y => decide (x ≤ y) = true := by
  have : ∀ n, n < 7 → (lvP n (2 * n)).Pairwise fun x y => decide (x ≤ y) = true := by decide +kernel
  exact this n (by omega)
theorem sort_P (n : Nat) (hn : n ≤ 6) : sortT (lvP n (2 * n)) = lvP n (2 * n) := List.mergeSort_of_pairwise (sorted_P n hn)
def PathsOfV (n : Int) : List (List UInt8) := if 0 ≤ n ∧ n ≤ 6 then fillP n.toNat (2 * n.toNat) [] 0 else []
theorem PathsOfV_len (n : Int) : (PathsOfV n).length < 2^38 := by
  rw [PathsOfV]
  split
  · have := fillP_len n.toNat (2 * n.toNat) [] 0
    have h2 : 2 ^ (2 * n.toNat) ≤ 2 ^ 12 := Nat.pow_le_pow_right (by omega) (by omega)
    omega
  · simp
/-! ### The model text -/
theorem append_strB {w : World} {B : Nat} {s : Sl} {L : List (List UInt8)} {x : List UInt8} (hown : OwnT w B s L) (hB : B ≤ w.heap.size) (hn : L.length < 2^38) {K : Sl → World → Prop}
    (h : ∀ s' w', OwnT w' B s' (L ++ [x]) → Below B w w' → K s' w') :
    sem1 .sl PP (Instr.buildSlice T_Sstring 1 #[(0, .string (bs x))]) w fun r w1 => sem1 .sl PP (Builtin.append_ #[T_Sstring, T_Sstring] T_Sstring #[s.v, r.v]) w1 K :=
  append_str hown hB hn fun s' w' h1 h2 _ => h s' w' h1 ((keeps_grown h2).below (fun k hk => (hown.lt k hk).1) hB)
theorem imax : IntKind.i64.max = 9223372036854775807 := by decide
theorem bs85 (h : List UInt8) : bs h ++ (⟨#[85]⟩ : ByteArray) = bs (h ++ [85]) := bs_append h [85]
theorem bs68 (h : List UInt8) : bs h ++ (⟨#[68]⟩ : ByteArray) = bs (h ++ [68]) := bs_append h [68]
theorem room (h : List UInt8) (x : UInt8) (hl : h.length ≤ 100) : (((bs h).size + (⟨#[x]⟩ : ByteArray).size : Nat) : Int) ≤ IntKind.i64.max := by
  rw [imax, bs_size h, show (⟨#[x]⟩ : ByteArray).size = 1 from rfl]; omega
theorem c_l18Fill {n : Nat} (hn : n ≤ 6) : ∀ (f : Nat) {w : World} {B : Nat} {out : Sl} {L : List (List UInt8)} (h : List UInt8) (u : Nat), OwnT w B out L → B ≤ w.heap.size → h.length + f = 2 * n → u ≤ n → L.length + 2 ^ f ≤ 2 ^ 37 →
    Calls PP F.spec_l18Fill #[vI n, .string (bs h), vI u, out.v] w fun e w' => ∃ s', e = .returned s'.v ∧ OwnT w' B s' (L ++ fillP n f h u) ∧ Below B w w'
  | 0, w, B, out, L, h, u, ho, hB, hf, hu, hL => by
    refine spec_l18Fill.calls n (bs h) u out ?_
    rw [spec_l18Fill.E_s]
    refine bif_t (by rw [bs_size, w64_id (by omega) (by omega)]; simp; omega) ?_
    refine append_strB ho hB (by omega) fun s' w' ho' hb' => ?_
    exact ⟨s', rfl, by rw [fillP]; exact ho', hb'⟩
  | f + 1, w, B, out, L, h, u, ho, hB, hf, hu, hL => by
    refine spec_l18Fill.calls n (bs h) u out ?_
    rw [spec_l18Fill.E_s]
    have hpos : 0 < 2 ^ f := Nat.pow_pos (by omega)
    rw [Nat.pow_succ] at hL
    refine bif_f (by rw [bs_size, w64_id (by omega) (by omega)]; simp; omega) ?_
    have fin : ∀ (s : Sl) (L1 : List (List UInt8)) (w1 : World), OwnT w1 B s (L ++ L1) → Below B w w1 → B ≤ w1.heap.size → L1.length ≤ 2 ^ f → spec_l18Fill.J5 std n (bs h) u s w1 (fun e w' => ∃ s', e = .returned s'.v ∧ OwnT w' B s' (L ++ (L1 ++ (if u < n then fillP n f (h ++ [85]) (u + 1) else []))) ∧ Below B w w') := by
      intro s L1 w1 ho1 hb1 hB1 hl1
      rw [spec_l18Fill.J5_s]
      refine bif_dec (fun h3 => ?_) (fun h3 => ?_)
      · refine ⟨room h 85 (by omega), ?_⟩
        rw [bs85, w64_id (by omega) (by omega), if_pos (by omega)]
        refine (c_l18Fill hn f (h ++ [85]) (u + 1) ho1 hB1 (by simp; omega) (by omega) (by rw [List.length_append]; omega)).mono ?_
        rintro e w2 ⟨s2, rfl, ho2, hb2⟩
        refine ⟨s2, rfl, ?_⟩
        show spec_l18Fill.J7 std s2 w2 _
        rw [spec_l18Fill.J7_s]
        exact ⟨s2, rfl, by rw [← List.append_assoc]; exact ho2, hb1.trans hb2⟩
      · rw [spec_l18Fill.J7_s, if_neg (by omega)]
        exact ⟨s, rfl, by simpa using ho1, hb1⟩
    rw [fillP]
    refine bif_dec (fun h3 => ?_) (fun h3 => ?_)
    · rw [bs_size, w64_id (by omega) (by omega)] at h3
      refine ⟨room h 68 (by omega), ?_⟩
      rw [bs68, if_pos (by omega)]
      refine (c_l18Fill hn f (h ++ [68]) u ho hB (by simp; omega) hu (by omega)).mono ?_
      rintro e w2 ⟨s2, rfl, ho2, hb2⟩
      exact ⟨s2, rfl, fin s2 _ w2 ho2 hb2 (Nat.le_trans hB hb2.size) (fillP_len ..)⟩
    · rw [bs_size, w64_id (by omega) (by omega)] at h3
      rw [if_neg (by omega)]
      exact fin out [] w (by simpa using ho) (Below.refl _ _) hB (by simp)
theorem oneStr' : OneT T_Sstring T_string (.string ⟨#[]⟩) := oneStr
theorem c_specPathsOf (n : Int) {w : World} : Calls PP F.spec_PathsOf #[vI n] w fun e w' => ∃ s : Sl, e = .returned s.v ∧ OwnT w' w.heap.size s (PathsOfV n) ∧ Below w.heap.size w w' := by
  refine spec_PathsOf.calls n ?_
  rw [spec_PathsOf.E_s]
  refine Pure.pcall1 (s := .bool) (c_l1In n 0 6) ?_
  refine bif_intro (fun h => ?_) (fun h => ?_)
  · refine lit0 oneStr (B := w.heap.size) (Nat.le_refl _) ?_
    intro o w1 ho hg _
    refine ⟨o, rfl, ?_, below_of_grow hg⟩
    rw [PathsOfV, if_neg (by simp at h; omega)]
    exact ho
  · refine lit0 oneStr (B := w.heap.size) (Nat.le_refl _) ?_
    intro o w1 ho hg _
    have hb := below_of_grow hg
    simp at h
    obtain ⟨m, rfl⟩ : ∃ m : Nat, n = m := ⟨n.toNat, by omega⟩
    refine (c_l18Fill (n := m) (by omega) (2 * m) (L := []) [] 0 ho hb.size (by simp) (by omega) ?_).mono ?_
    · have h2 : 2 ^ (2 * m) ≤ 2 ^ 12 := Nat.pow_le_pow_right (by omega) (by omega)
      simp; omega
    · rintro e w2 ⟨s, rfl, ho2, hb2⟩
      refine ⟨s, rfl, s, rfl, ?_, hb.trans hb2⟩
      rw [PathsOfV, if_pos (by omega)]
      simpa using ho2
/-! ### The program's text -/
theorem take_flat {L : List (List UInt8)} {n i : Nat} (h : i < L.length) : (L.take (i + 1)).flatMap (extP n) = (L.take i).flatMap (extP n) ++ extP n (L.getD i []) := by
  rw [List.take_succ_eq_append_getElem h, List.flatMap_append, getD_T h]; simp
theorem c_isSix' (n : Int) : Pure F.impl_isSix #[vI n] (.bool (decide (0 ≤ n) && decide (n ≤ 6))) := by
  intro w
  refine impl_isSix.calls n ?_
  rw [impl_isSix.E_s]
  refine bif_dec (fun h => ?_) (fun h => ?_)
  · exact ⟨by simp; omega, rfl⟩
  · exact ⟨by simp; omega, rfl⟩
theorem c_implPathsOf (n : Int) {w : World} : Calls PP F.impl_PathsOf #[vI n] w fun e w' => ∃ s : Sl, e = .returned s.v ∧ OwnT w' w.heap.size s (PathsOfV n) ∧ Below w.heap.size w w' := by
  refine impl_PathsOf.calls n ?_
  rw [impl_PathsOf.E_s]
  refine Pure.pcall1 (s := .bool) (c_isSix' n) ?_
  refine bif_intro (fun h => ?_) (fun h => ?_)
  · refine ⟨Sl.nil, rfl, ?_, Below.refl _ _⟩
    rw [PathsOfV, if_neg (by simp at h; omega)]
    exact Own.nil ..
  simp at h
  obtain ⟨m, rfl⟩ : ∃ m : Nat, n = m := ⟨n.toNat, by omega⟩
  refine lit1 oneStr (B := w.heap.size) (Nat.le_refl _) (v := .string (bs [])) (One.str _) ?_
  intro o w1 ho hg _
  have hb := below_of_grow hg
  rw [w64_id (by omega) (by omega)]
  refine impl_PathsOf.L5_rule _ _ _ _ _ _ (I := fun out k w' => 0 ≤ k ∧ k ≤ 2 * (m : Int) ∧ OwnT w' w.heap.size out (lvP m k.toNat) ∧ Below w.heap.size w w') (μ := fun _ k _ => (2 * m - k).toNat)
    ⟨by omega, by omega, ho, hb⟩ ?_
  rintro out k w2 ⟨hk0, hk, ho2, hb2⟩
  have hlen := lvP_len m k.toNat
  have h12 : 2 ^ k.toNat ≤ 2 ^ 12 := Nat.pow_le_pow_right (by omega) (by omega)
  have hon : out.n = (lvP m k.toNat).length := by have := ho2.n; simpa using this
  rw [impl_PathsOf.B5_s]
  refine bif_dec (fun h3 => ?_) (fun h3 => ?_)
  · refine lit0 oneStr (B := w2.heap.size) (Nat.le_refl _) ?_
    intro lo w3 hlo hg3 _
    have hb23 := below_of_grow hg3
    have ho3 := Own.below ho2 hb23 fun g hg => (ho2.lt g hg).2
    refine impl_PathsOf.L8_rule _ _ _ _ _ _ _ _ _ (I := fun lo i w' => 0 ≤ i ∧ i ≤ out.n ∧ OwnT w' w2.heap.size lo (((lvP m k.toNat).take i.toNat).flatMap (extP m)) ∧ Below w2.heap.size w2 w') (μ := fun _ i _ => (out.n - i).toNat)
      ⟨by omega, by omega, by rw [show (0 : Int).toNat = 0 from rfl, List.take_zero]; exact hlo, hb23⟩ ?_
    rintro lo i w4 ⟨hi0, hi, hlo4, hb4⟩
    rw [impl_PathsOf.B8_s]
    refine bif_dec (fun h4 => ?_) (fun h4 => ?_)
    · have hil : i.toNat < (lvP m k.toNat).length := by omega
      have hrow : RowT w4 out (lvP m k.toNat) := Row.below ho2.row hb4 (fun a ha hne => by
        obtain ⟨a', ha', hc'⟩ := ho2.row.cell i.toNat (encStr ((lvP m k.toNat)[i.toNat])) (by rw [List.getElem?_map, List.getElem?_eq_getElem hil]; rfl)
        rw [ha] at ha'; cases ha'
        have := World.block_lt_of_cell? w2 _ hc'
        rwa [add_block] at this)
      refine RowT.get hrow hi0 (by omega) ?_
      obtain ⟨s, hs⟩ : ∃ s, s = (lvP m k.toNat).getD i.toNat [] := ⟨_, rfl⟩
      rw [← hs]
      have hmem : s ∈ lvP m k.toNat := by rw [hs, getD_T hil]; exact List.getElem_mem hil
      have hsl := lvP_mem _ hmem
      refine (Try.strings_Count_one (bs s) 85 w4).mono ?_
      rintro e w5 ⟨rfl, rfl⟩
      refine ⟨_, rfl, ?_⟩
      have hcnt : Lib.countByte (bs s).data.toList 85 = s.count 85 := by simp [Lib.countByte]
      rw [hcnt]
      have htk : ((lvP m k.toNat).take (i + 1).toNat).flatMap (extP m) = ((lvP m k.toNat).take i.toNat).flatMap (extP m) ++ ((if 2 * s.count 85 > s.length then [s ++ [68]] else []) ++ (if s.count 85 < m then [s ++ [85]] else [])) := by
        rw [show (i + 1).toNat = i.toNat + 1 by omega, take_flat hil, ← hs]; rfl
      have hfl : (((lvP m k.toNat).take i.toNat).flatMap (extP m)).length ≤ 2 * 2 ^ 12 := by
        have := flat_len (L := (lvP m k.toNat).take i.toNat) (n := m)
        rw [List.length_take] at this
        omega
      have fin : ∀ (lo2 : Sl) (X : List (List UInt8)) (w6 : World), OwnT w6 w2.heap.size lo2 (((lvP m k.toNat).take i.toNat).flatMap (extP m) ++ X) → Below w2.heap.size w2 w6 → X.length ≤ 1 → X = (if 2 * s.count 85 > s.length then [s ++ [68]] else []) →
          impl_PathsOf.J13 std (m : Int) lo2 (bs s) ((s.count 85 : Nat) : Int) (2 * (m : Int)) k out (out.n : Int) i w6 (fun e2 w' => ∃ lo_n i_n, e2 = impl_PathsOf.emb8 (m : Int) lo_n (2 * (m : Int)) k out (out.n : Int) i_n ∧ (0 ≤ i_n ∧ i_n ≤ out.n ∧ OwnT w' w2.heap.size lo_n (((lvP m k.toNat).take i_n.toNat).flatMap (extP m)) ∧ Below w2.heap.size w2 w') ∧ (out.n - i_n).toNat < (out.n - i).toNat) (impl_PathsOf.q10 std (fun e2 w' => ∃ out_n k_n, e2 = impl_PathsOf.emb5 (m : Int) out_n (2 * (m : Int)) k_n ∧ (0 ≤ k_n ∧ k_n ≤ 2 * (m : Int) ∧ OwnT w' w.heap.size out_n (lvP m k_n.toNat) ∧ Below w.heap.size w w') ∧ (2 * (m : Int) - k_n).toNat < (2 * (m : Int) - k).toNat) (impl_PathsOf.q4 std fun e w' => ∃ s : Sl, e = .returned s.v ∧ OwnT w' w.heap.size s (PathsOfV m) ∧ Below w.heap.size w w')) := by
        intro lo2 X w6 ho6 hb6 hX hXe
        rw [impl_PathsOf.J13_s]
        refine bif_dec (fun h6 => ?_) (fun h6 => ?_)
        · refine ⟨room s 85 (by omega), ?_⟩
          rw [bs85]
          refine append_strB ho6 hb6.size (by rw [List.length_append]; omega) fun s7 w7 ho7 hb7 => ?_
          refine ⟨s7, i + 1, by rw [w64_succ hi0 (by omega)], ⟨by omega, by omega, ?_, hb6.trans hb7⟩, by omega⟩
          rw [htk, ← hXe, if_pos (by omega), ← List.append_assoc]
          exact ho7
        · refine ⟨lo2, i + 1, by rw [w64_succ hi0 (by omega)], ⟨by omega, by omega, ?_, hb6⟩, by omega⟩
          rw [htk, ← hXe, if_neg (by omega), List.append_nil]
          exact ho6
      refine bif_dec (fun h6 => ?_) (fun h6 => ?_)
      · rw [bs_size, w64_id (by omega) (by omega)] at h6
        refine ⟨room s 68 (by omega), ?_⟩
        rw [bs68]
        refine append_strB hlo4 hb4.size (by omega) fun s7 w7 ho7 hb7 => ?_
        exact fin s7 [s ++ [68]] w7 ho7 (hb4.trans hb7) (by simp) (by rw [if_pos (by omega)])
      · rw [bs_size, w64_id (by omega) (by omega)] at h6
        exact fin lo [] _ (by simpa using hlo4) hb4 (by simp) (by rw [if_neg (by omega)])
    · rw [impl_PathsOf.A8_2_s]
      have e : i.toNat = (lvP m k.toNat).length := by omega
      rw [e, List.take_length] at hlo4
      refine ⟨lo, k + 1, by rw [w64_succ hk0 (by omega)], ⟨by omega, by omega, ?_, hb2.trans (hb4.mono hb2.size)⟩, by omega⟩
      rw [show (k + 1).toNat = k.toNat + 1 by omega, lvP]
      exact Own.mono hlo4 hb2.size
  · rw [impl_PathsOf.A5_0_s]
    have e : k.toNat = 2 * m := by omega
    rw [e] at ho2 h12
    refine c_SortT ho2 (by have := lvP_len m (2 * m); rw [e] at hlen; omega) fun w3 ho3 hb3 => ?_
    refine ⟨out, rfl, ?_, hb2.trans hb3⟩
    rw [PathsOfV, if_pos (by omega), Int.toNat_natCast, ← same_P m (by omega), ← sort_P m (by omega)]
    exact ho3
theorem lawC_FnExactPathsOf (k0 : Int) (_ : -9223372036854775808 ≤ k0 ∧ k0 ≤ 9223372036854775807) (w : World) :
    Calls PP F.laws_FnExactPathsOf #[vI k0] w fun e w' => e = .returned (.bool true) ∧ Below w.heap.size w w' := by
  have hl := PathsOfV_len k0
  refine laws_FnExactPathsOf.calls k0 ?_
  rw [laws_FnExactPathsOf.E_s]
  refine (c_specPathsOf k0).mono ?_
  rintro e w1 ⟨s, rfl, hs, hb1⟩
  refine ⟨s, rfl, ?_⟩
  refine (c_implPathsOf k0).mono ?_
  rintro e w2 ⟨t, rfl, ht, hb2⟩
  refine ⟨t, rfl, ?_⟩
  have hb02 := hb1.trans (hb2.mono hb1.size)
  have hs2 := Own.grow hs hb2
  refine Quiet.call1 (s := .bool) (c_eqStringS ht.row hs2.row (by omega)) ?_
  intro w3 hd3
  refine bif_f (by simp) ?_
  have ht3 := ht.heap hd3.heap'
  have hs3 := hs2.heap hd3.heap'
  have hb03 := hb02.trans (hd3.below _)
  have hsz3 : w3.heap.size = w2.heap.size := by rw [hd3.heap']
  refine (c_markStringS ht3 (by have := hb2.size; omega) (by omega) (k := 1) (by omega) (by omega)).mono ?_
  rintro e w4 ⟨rfl, hM, hkp⟩
  refine ⟨_, rfl, ?_⟩
  have hft : ∀ x, t.blk = some x → w1.heap.size ≤ x := fun x hx => (ht.lt x hx).1
  have hb04 : Below w.heap.size w w4 := hb03.trans (hkp.below (fun x hx => by have := hft x hx; have := hb1.size; omega) hb03.size)
  have hs4 : RowT w4 s (PathsOfV k0) := (Own.keeps hs3 hkp fun g h1 h2 => by have := (hs.lt g h1).2; have := hft g h2; omega).row
  refine (c_heldStringS hM.row (by omega) (by omega) (by omega)).mono ?_
  rintro e w5 ⟨rfl, hb5⟩
  refine ⟨_, rfl, ?_⟩
  refine bif_dec (fun h => by omega) (fun _ => ?_)
  refine bif_f (by simp) ?_
  have hb05 := hb04.trans (hb5.mono hb04.size)
  refine (c_implPathsOf k0).mono ?_
  rintro e w6 ⟨u, rfl, hu, hb6⟩
  refine ⟨u, rfl, ?_⟩
  have hb06 := hb05.trans (hb6.mono hb05.size)
  refine Quiet.call1 (s := .bool) (c_eqStringS hu.row ((hs4.grow hb5).grow hb6) (by omega)) ?_
  intro w7 hd7
  refine bif_f (by simp) ?_
  refine (c_heldStringS (((hM.row.grow hb5).grow hb6).heap hd7.heap') (by omega) (by omega) (by omega)).mono ?_
  rintro e w8 ⟨rfl, hb8⟩
  refine ⟨_, rfl, ?_⟩
  refine bif_dec (fun h => by omega) (fun _ => ?_)
  refine bif_f (by simp) ?_
  exact ⟨rfl, (hb06.trans (hd7.below _)).trans (hb8.mono (by have := hb06.size; have := (hd7.below w.heap.size).size; omega))⟩
end Go.Proofs.Ytfainpmcdfckkaa
