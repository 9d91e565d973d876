/- Rows of texts, and the laws' helpers over them. -/
import Derived.Test.YtfainpmcdfckkaaCodeSt
import Derived.Test.YtfainpmcdfckkaaSs
import Derived.Laws.BytesArg
import Derived.Sort.OwnSorted
namespace Go.Proofs.Ytfainpmcdfckkaa
open Go Go.RowKit Go.Sort
set_option maxRecDepth 100000

@[reducible] def bs (l : List UInt8) : ByteArray := ⟨l.toArray⟩
@[reducible] def RowT (w : World) (s : Sl) (L : List (List UInt8)) : Prop := Row w s (L.map encStr)
@[reducible] def OwnT (w : World) (B : Nat) (s : Sl) (L : List (List UInt8)) : Prop := Own w B T_string s (L.map encStr)
theorem oneStr : OneT T_Sstring T_string (.string ⟨#[]⟩) := oneT_of (by kernel_rfl) (by kernel_rfl) rfl
theorem getD_T {L : List (List UInt8)} {i : Nat} (h : i < L.length) : L.getD i [] = L[i] := by simp [List.getD_eq_getElem?_getD, List.getElem?_eq_getElem h]
theorem RowT.get {w s L} (h : RowT w s L) {i : Int} (h0 : 0 ≤ i) (hi : i < L.length) {K : ByteArray → Prop} (hk : K (bs (L.getD i.toNat []))) : idxK 1 s i fun a => load1 .str a w K := by
  have hlt : i.toNat < L.length := by omega
  refine Row.get (sh := .str) (r := bs (L.getD i.toNat [])) h h0 ?_ hk
  rw [List.getElem?_map, List.getElem?_eq_getElem hlt, getD_T hlt]; rfl
theorem RowT.place {w s L} (h : RowT w s L) {i : Int} (h0 : 0 ≤ i) (hi : i < L.length) {K : Addr → Prop} (hk : ∀ a, w.cell? a = some (.string (bs (L.getD i.toNat []))) → K a) : idxK 1 s i K := by
  have hlt : i.toNat < L.length := by omega
  obtain ⟨a, ha, hc⟩ := h.cell i.toNat (encStr (L.getD i.toNat [])) (by rw [List.getElem?_map, List.getElem?_eq_getElem hlt, getD_T hlt]; rfl)
  have hn := h.n
  refine ⟨a, ha, h0, by rw [hn]; simp; omega, ?_⟩
  rw [Nat.mul_one]
  exact hk _ hc
theorem load_str {w : World} {a : Addr} {x : ByteArray} (h : w.cell? a = some (.string x)) {K : ByteArray → Prop} (hk : K x) : load1 .str a w K := ⟨x, h, hk⟩
theorem append_str {w : World} {B : Nat} {s : Sl} {L : List (List UInt8)} {x : List UInt8} (hown : OwnT w B s L) (hB : B ≤ w.heap.size) (hn : L.length < 2^38) {K : Sl → World → Prop}
    (h : ∀ s' w', OwnT w' B s' (L ++ [x]) → w.grownBy w' s.blk → Next w s s' → K s' w') :
    sem1 .sl PP (Instr.buildSlice T_Sstring 1 #[(0, .string (bs x))]) w fun r w1 => sem1 .sl PP (Builtin.append_ #[T_Sstring, T_Sstring] T_Sstring #[s.v, r.v]) w1 K :=
  append_one oneStr hown hB (One.str _) (by rw [List.length_map]; omega) fun s' w' h1 h2 h3 => h s' w' (by simp only [OwnT, List.map_append, List.map_cons, List.map_nil]; exact h1) h2 h3
theorem bs_append (a b : List UInt8) : bs a ++ bs b = bs (a ++ b) := by
  apply ByteArray.ext
  simp
theorem bs_size (a : List UInt8) : (bs a).size = a.length := by simp [ByteArray.size]
theorem bs_toList (a : List UInt8) : (bs a).data.toList = a := by simp
theorem bs_inj {a b : List UInt8} (h : bs a = bs b) : a = b := by
  have := congrArg (fun x : ByteArray => x.data.toList) h
  simpa using this
theorem toList_beq (x y : ByteArray) : (x.toList == y.toList) = decide (x = y) := by
  by_cases h : x = y
  · subst h; simp
  · rw [decide_eq_false h]
    refine beq_false_of_ne fun e => h ?_
    have h1 : x.data.toList = y.data.toList := by rw [← ByteArray.toList_eq, ← ByteArray.toList_eq]; exact e
    apply ByteArray.ext
    exact Array.toList_inj.1 h1
/-! ### The laws' helpers -/
theorem c_eqStringS {w : World} {a b : Sl} {L M : List (List UInt8)} (ha : RowT w a L) (hb : RowT w b M) (hL : L.length < 2^39) : Quiet F.laws_eqStringS #[a.v, b.v] w (.bool (decide (L = M))) := by
  intro w1 hd
  have han : a.n = L.length := by have := ha.n; simpa using this
  have hbn : b.n = M.length := by have := hb.n; simpa using this
  refine laws_eqStringS.calls a b ?_
  rw [laws_eqStringS.E_s]
  refine bif_intro (fun h => ?_) (fun h => ?_)
  · have : L.length ≠ M.length := by simp at h; omega
    have : L ≠ M := fun e => this (by rw [e])
    exact ⟨by simp [this], Drew.refl _⟩
  have hlen : L.length = M.length := by simp at h; omega
  refine laws_eqStringS.L4_rule _ _ _ _ _ (I := fun i w' => 0 ≤ i ∧ i ≤ L.length ∧ (∀ k, k < i.toNat → L[k]? = M[k]?) ∧ Drew w1 w') (μ := fun i _ => (L.length - i).toNat)
    ⟨by omega, by omega, fun k hk => by simp at hk, Drew.refl _⟩ ?_
  rintro i w' ⟨h0, hi, hall, hd2⟩
  have hh : w'.heap = w.heap := (hd.trans hd2).heap'
  rw [laws_eqStringS.B4_s]
  refine bif_dec (fun h3 => ?_) (fun h3 => ?_)
  · have hlt : i.toNat < L.length := by omega
    have hlt2 : i.toNat < M.length := by omega
    refine RowT.get (ha.heap hh) h0 (by omega) ?_
    refine RowT.get (hb.heap hh) h0 (by omega) ?_
    refine drew_intro fun w3 hd3 => ?_
    rw [toList_beq, getD_T hlt, getD_T hlt2]
    refine bif_intro (fun h4 => ?_) (fun h4 => ?_)
    · have : L ≠ M := fun e => by subst e; simp at h4
      rw [laws_eqStringS.R4_s]
      exact ⟨by simp [this], hd2.trans hd3⟩
    · have h4' : bs L[i.toNat] = bs M[i.toNat] := by
        cases h5 : decide (bs L[i.toNat] = bs M[i.toNat])
        · rw [h5] at h4; cases h4
        · exact of_decide_eq_true h5
      refine ⟨i + 1, by rw [w64_succ h0 (by omega)], ⟨by omega, by omega, fun k hk => ?_, hd2.trans hd3⟩, by omega⟩
      by_cases hk2 : k < i.toNat
      · exact hall k hk2
      · have : k = i.toNat := by omega
        subst this
        rw [List.getElem?_eq_getElem hlt, List.getElem?_eq_getElem hlt2, bs_inj h4']
  · rw [laws_eqStringS.A4_0_s]
    have : L = M := by
      apply List.ext_getElem?
      intro k
      by_cases hk : k < L.length
      · exact hall k (by omega)
      · rw [List.getElem?_eq_none (by omega), List.getElem?_eq_none (by omega)]
    exact ⟨by simp [this], hd2⟩
/-- The text of a mark, its digits. -/
def mtL : Nat → Int → List UInt8 → List UInt8
  | 0, _, o => o
  | f + 1, k, o => if k > 0 then mtL f (k.tdiv 10) (UInt8.ofNat (IntKind.u8.wrap (w64 (48 + k.tmod 10))).toNat :: o) else o
def MT (k : Int) : List UInt8 := if k ≤ 0 then [109, 48] else 109 :: mtL 20 k []
theorem mtL_zero : ∀ (f : Nat) {k : Int} (o : List UInt8), k ≤ 0 → mtL f k o = o
  | 0, _, _, _ => rfl
  | f + 1, k, o, h => by rw [mtL, if_neg (by omega)]
theorem u_str : PP.underlying T_string = some .string := by kernel_rfl
theorem u_Su8 : PP.underlying T_Suint8 = some (.slice T_uint8) := by kernel_rfl
theorem u_u8 : PP.underlying T_uint8 = some (.int .u8) := by kernel_rfl
theorem oneU8 : OneT T_Suint8 T_uint8 (.int .u8 0) := oneT_of (by kernel_rfl) (by kernel_rfl) rfl
theorem c_markText {w : World} (k : Int) (hk : k < 2^40) : Calls PP F.laws_markText #[vI k] w fun e w' => e = .returned (.string (bs (MT k))) ∧ Below w.heap.size w w' := by
  refine laws_markText.calls k ?_
  rw [laws_markText.E_s]
  refine bif_dec (fun h => ?_) (fun h => ?_)
  · rw [MT, if_pos h]; exact ⟨rfl, Below.refl _ _⟩
  rw [MT, if_neg h]
  refine laws_markText.L4_rule _ _ _ _ (I := fun x o w' => Below w.heap.size w w' ∧ x < 2^40 ∧ ∃ (f : Nat) (l : List UInt8), o = bs l ∧ l.length + f = 20 ∧ x < 10 ^ f ∧ mtL f x l = mtL 20 k []) (μ := fun x _ _ => x.toNat)
    ⟨Below.refl _ _, hk, 20, [], rfl, rfl, by omega, rfl⟩ ?_
  rintro x o w1 ⟨hb, hx, f, l, rfl, hl, hxf, hm⟩
  rw [laws_markText.B4_s]
  refine bif_dec (fun h3 => ?_) (fun h3 => ?_)
  · obtain ⟨g, rfl⟩ : ∃ g, f = g + 1 := ⟨f - 1, by
      rcases Nat.eq_zero_or_pos f with e | e
      · subst e; simp at hxf; omega
      · omega⟩
    refine ⟨by decide, ?_⟩
    refine lit1 oneU8 (B := w.heap.size) hb.size (v := .int .u8 (IntKind.u8.wrap (w64 (48 + x.tmod 10)))) ⟨rfl, rfl⟩ ?_
    intro s w2 hs hg2 _
    have hb2 := hb.trans ((below_of_grow hg2).mono hb.size)
    have hrun : (convert T_Suint8 T_string s.v).run PP w2 = .ok (.string (bs [UInt8.ofNat (IntKind.u8.wrap (w64 (48 + x.tmod 10))).toNat])) w2 := by
      obtain ⟨a, ha, hc⟩ := hs.row.cell 0 _ rfl
      have hn : s.n = 1 := by have := hs.n; simpa using this
      rcases hs.at_ with h0 | ⟨b, cur, hsa, _⟩
      · have := hs.nc; omega
      · have hcell : ∀ i, i < 1 → w2.cell? ⟨b, 0 + i, none⟩ = some (.int .u8 (([IntKind.u8.wrap (w64 (48 + x.tmod 10))] : List Int).getD i 0)) := fun i hi => by
          have : i = 0 := by omega
          subst this
          rw [hsa] at ha; cases ha
          rw [add_zero'] at hc
          exact hc
        have := run_convert_bytes_arg (P := PP) w2 T_Suint8 T_uint8 u_Su8 u_u8 b 0 1 s.c [IntKind.u8.wrap (w64 (48 + x.tmod 10))] rfl hcell T_string u_str
        rw [Sl.v, hsa, hn]
        exact this
    refine ⟨_, w2, hrun, ?_⟩
    refine ⟨by rw [bs_size, bs_size]; have : IntKind.i64.max = 9223372036854775807 := by decide
               rw [this]; simp; omega, by decide, ?_⟩
    have hdiv : x.tdiv 10 = x / 10 := Int.tdiv_eq_ediv_of_nonneg (by omega)
    refine ⟨_, _, rfl, ⟨hb2, ?_, g, UInt8.ofNat (IntKind.u8.wrap (w64 (48 + x.tmod 10))).toNat :: l, bs_append _ _, by simp; omega, ?_, ?_⟩, ?_⟩
    · rw [w64_id (by omega) (by omega)]; omega
    · rw [w64_id (by omega) (by omega), hdiv]
      rw [Int.pow_succ] at hxf
      omega
    · rw [w64_id (by omega) (by omega), ← hm]
      conv => rhs; rw [mtL, if_pos h3]
    · rw [w64_id (by omega) (by omega)]; omega
  · rw [laws_markText.A4_0_s]
    rw [mtL_zero f l (by omega)] at hm
    refine ⟨by have : IntKind.i64.max = 9223372036854775807 := by decide
               rw [this, show (⟨#[109]⟩ : ByteArray).size = 1 from rfl, bs_size l]; omega, ?_, hb⟩
    rw [← hm, show (⟨#[109]⟩ : ByteArray) = bs [109] from rfl, bs_append]; rfl
def marksT (k : Int) (n : Nat) : List (List UInt8) := (List.range n).map fun (i : Nat) => MT (k + (i : Int))
theorem marksT_length (k : Int) (n : Nat) : (marksT k n).length = n := by simp [marksT]
theorem marksT_getD {k : Int} {n i : Nat} (h : i < n) : (marksT k n).getD i [] = MT (k + i) := by simp [marksT, List.getD_eq_getElem?_getD, h]
theorem marksT_step (L : List (List UInt8)) (k : Int) {i : Nat} (hi : i < L.length) : (marksT k i ++ L.drop i).set i (MT (k + i)) = marksT k (i + 1) ++ L.drop (i + 1) := by
  have h1 : L.drop i = L[i] :: L.drop (i + 1) := by rw [List.drop_eq_getElem_cons hi]
  have h2 : (marksT k i).length = i := marksT_length k i
  have h3 : marksT k (i + 1) = marksT k i ++ [MT (k + (i : Int))] := by simp [marksT, List.range_succ]
  rw [h1, List.set_append_right _ _ (by omega), h2, Nat.sub_self, List.set_cons_zero, h3, List.append_assoc]
  rfl
theorem c_markStringS {w : World} {B : Nat} {a : Sl} {L : List (List UInt8)} (ha : OwnT w B a L) (hB : B ≤ w.heap.size) (hL : L.length < 2^38) {k : Int} (hk0 : 0 ≤ k) (hk : k < 2^39) :
    Calls PP F.laws_markStringS #[a.v, vI k] w fun e w' => e = .returned (vI (k + L.length)) ∧ OwnT w' B a (marksT k L.length) ∧ Keeps (fun x => a.blk = some x) w w' := by
  have han : a.n = L.length := by have := ha.n; simpa using this
  refine laws_markStringS.calls a k ?_
  rw [laws_markStringS.E_s]
  refine laws_markStringS.L2_rule _ _ _ _ _ (I := fun m i w' => 0 ≤ i ∧ i ≤ L.length ∧ m = k + i ∧ OwnT w' B a (marksT k i.toNat ++ L.drop i.toNat) ∧ Keeps (fun x => a.blk = some x) w w') (μ := fun _ i _ => (L.length - i).toNat)
    ⟨by omega, by omega, by omega, by simpa [marksT] using ha, Keeps.refl _ _⟩ ?_
  rintro m i w' ⟨h0, hi, rfl, ho, hkp⟩
  rw [laws_markStringS.B2_s, han]
  refine bif_dec (fun h3 => ?_) (fun h3 => ?_)
  · have hlt : i.toNat < L.length := by omega
    refine (c_markText (k + i) (by omega)).mono ?_
    rintro e w2 ⟨rfl, hb2⟩
    refine ⟨_, rfl, ?_⟩
    have ho2 := Own.grow ho hb2
    refine Own.put ho2 h0 (by simp [marksT_length]; omega) ?_
    intro w3 ho3 hg3 _
    refine ⟨k + (i + 1), i + 1, by rw [w64_succ h0 (by omega), w64_id (by omega) (by omega)]; congr 1; omega, ⟨by omega, by omega, rfl, ?_, (hkp.trans ((keeps_grown (grow_of_below hb2)).mono fun x e => (by cases e))).trans (keeps_grown hg3)⟩, by omega⟩
    rw [show (i + 1).toNat = i.toNat + 1 by omega, ← marksT_step L k hlt]
    rw [show k + (i.toNat : Int) = k + i by omega]
    simp only [OwnT, List.map_set]
    exact ho3
  · rw [laws_markStringS.A2_0_s]
    have e : i.toNat = L.length := by omega
    rw [e] at ho
    exact ⟨by congr 2; omega, by simpa using ho, hkp⟩
theorem c_heldStringS {w : World} {a : Sl} {n : Nat} {k : Int} (ha : RowT w a (marksT k n)) (hL : n < 2^38) (hk0 : 0 ≤ k) (hk : k < 2^39) :
    Calls PP F.laws_heldStringS #[a.v, vI k] w fun e w' => e = .returned (vI (k + n)) ∧ Below w.heap.size w w' := by
  have han : a.n = n := by have := ha.n; simpa [marksT_length] using this
  refine laws_heldStringS.calls a k ?_
  rw [laws_heldStringS.E_s]
  refine laws_heldStringS.L2_rule _ _ _ _ _ (I := fun m i w' => Below w.heap.size w w' ∧ 0 ≤ i ∧ i ≤ n ∧ m = k + i) (μ := fun _ i _ => (n - i).toNat) ⟨Below.refl _ _, by omega, by omega, by omega⟩ ?_
  rintro m i w' ⟨hb, h0, hi, rfl⟩
  rw [laws_heldStringS.B2_s, han]
  refine bif_dec (fun h3 => ?_) (fun h3 => ?_)
  · refine drew_intro fun w2 hd2 => ?_
    have hb2 := hb.trans (hd2.below _)
    refine RowT.place (ha.grow hb2) h0 (by rw [marksT_length]; omega) fun ad hc => ?_
    rw [marksT_getD (by omega), show k + (i.toNat : Int) = k + i by omega] at hc
    have fin : ∀ w3, Below w.heap.size w w3 → laws_heldStringS.J5 std a (k + i) i (!((bs (MT (k + i))).toList == (bs (MT (k + i))).toList)) w3 (fun e2 w2 => ∃ m_n i_n, e2 = laws_heldStringS.emb2 a m_n i_n ∧ (Below w.heap.size w w2 ∧ 0 ≤ i_n ∧ i_n ≤ n ∧ m_n = k + i_n) ∧ ((n : Int) - i_n).toNat < ((n : Int) - i).toNat) (laws_heldStringS.q1 std fun e w' => e = .returned (vI (k + n)) ∧ Below w.heap.size w w') := by
      intro w3 hb3
      rw [laws_heldStringS.J5_s]
      refine bif_f (by simp) ?_
      rw [laws_heldStringS.J6_s]
      exact ⟨k + (i + 1), i + 1, by rw [w64_succ h0 (by omega), w64_id (by omega) (by omega)]; congr 1; omega, ⟨hb3, by omega, by omega, rfl⟩, by omega⟩
    refine ⟨?_, ?_⟩
    · refine load_str hc ?_
      refine (c_markText (k + i) (by omega)).mono ?_
      rintro e w3 ⟨rfl, hb3⟩
      exact ⟨_, rfl, fin w3 (hb2.trans (hb3.mono hb2.size))⟩
    · refine (c_markText (k + i) (by omega)).mono ?_
      rintro e w3 ⟨rfl, hb3⟩
      refine ⟨_, rfl, ?_⟩
      refine load_str (x := bs (MT (k + i))) ?_ (fin w3 (hb2.trans (hb3.mono hb2.size)))
      rw [hb3.cell (World.block_lt_of_cell? w2 _ hc)]; exact hc
  · rw [laws_heldStringS.A2_0_s]
    exact ⟨by congr 2; omega, hb⟩
end Go.Proofs.Ytfainpmcdfckkaa
