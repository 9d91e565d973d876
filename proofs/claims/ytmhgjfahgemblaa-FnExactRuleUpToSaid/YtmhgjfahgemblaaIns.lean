/- The library's Insert of one number into a row of ints that the call owns. -/
import Derived.Test.YtmhgjfahgemblaaCodeIn
import Derived.Test.YtmhgjfahgemblaaSs
import Derived.Test.YtmhgjfahgemblaaClo
import Derived.Laws.CopyRow
import Derived.Lib.AppendZerosOnto
import Derived.Lib.Overlaps
namespace Go.Proofs.Ytmhgjfahgemblaa
open Go Go.RowKit
set_option maxRecDepth 100000

theorem splice_take {α : Type} (C news : List α) {lo k n : Nat} (hk : news.length = k) (h : lo + k ≤ n) (hn : n ≤ C.length) : (C.take lo ++ news ++ C.drop (lo + k)).take n = (C.take n).take lo ++ news ++ (C.take n).drop (lo + k) := by
  have hA : (C.take lo ++ news).length = lo + k := by simp; omega
  rw [List.take_append, hA, List.take_of_length_le (by omega), List.take_take, Nat.min_eq_left (by omega), List.drop_take]
/-- 'copy(s[lo:], r)'. -/
theorem copy_run {tt : TypeId} {w : World} {B : Nat} {s r : Sl} {vs news : List Value} (h : Own w B T_int s vs) {lo k : Nat} (hlo : lo < vs.length) (hr : Row w r news) (hk : k = min news.length (vs.length - lo)) (h1 : ∀ v ∈ news.take k, One v) (hk0 : 0 < k) {K : Int → World → Prop}
    (hK : ∀ w', Own w' B T_int s (vs.take lo ++ news.take k ++ vs.drop (lo + k)) → w.grownBy w' s.blk → w'.heap.size = w.heap.size → K k w') :
    sem1 (.int .i64) PP (Builtin.copy_ #[T_Sint, T_Sint] tt #[(s.cut 1 lo s.n).v, r.v]) w K := by
  have hn := h.n
  have hnc := h.nc
  rcases h.at_ with hc | ⟨g, cur, ha, hb, hg, hs, ht⟩
  · omega
  obtain ⟨i, hu, hi, hz, hsz, hbb, hzc⟩ := oneInt
  have hblk : s.blk = some g := by simp [Sl.blk, show s.c ≠ 0 by omega, ha]
  have ecut : s.cut 1 lo s.n = ⟨some ⟨g, lo, none⟩, s.n - lo, s.c - lo⟩ := by
    simp only [Sl.cut]
    rw [if_neg (by omega), ha]
    simp only [Option.map_some, Nat.mul_one, add_lit, Nat.zero_add]
  obtain ⟨ra, hra, _⟩ := hr.cell 0 (news[0]'(by omega)) (List.getElem?_eq_getElem (by omega))
  have hrn := hr.n
  have hlen : (news.take k).length = k := by rw [List.length_take]; omega
  have hrun := run_copy_row (P := PP) w T_Sint T_Sint tt T_int g lo (s.n - lo) (s.c - lo) ra r.n r.c cur T_int (news.take k) hu (by rw [hi]; simp [hsz]) hg
    (by rw [hlen, hrn, hn, hk]) (fun j v hv => by
      rw [List.getElem?_take] at hv
      split at hv
      · obtain ⟨a', ha', hc'⟩ := hr.cell j v hv
        rw [hra] at ha'; cases ha'; exact hc'
      · cases hv) (by rw [hlen]; omega) (fun v hv => (h1 v hv).2)
  rw [hlen] at hrun
  rw [ecut]
  have e2 : r.v = .slice (some ra) r.n r.c := by simp only [Sl.v, hra]
  refine ⟨k, _, by rw [e2]; exact hrun, hK _ ⟨?_, hnc, h.cm, .inr ⟨g, _, ha, hb, setRow_heap w g cur _ T_int (0, 0) hg, ?_, ?_⟩⟩ ?_ (by simp [World.setRow])⟩
  · simp only [List.length_append, hlen, List.length_take, List.length_drop]; omega
  · simp only [List.size_toArray, List.length_append, hlen, List.length_take, List.length_drop, Array.length_toList]; omega
  · rw [← ht]
    exact splice_take _ _ hlen (by omega) (by simp <;> omega)
  · rw [hblk]
    exact ⟨rfl, rfl, rfl, by simp [World.setRow], fun x hx hne => setRow_other w g x _ (fun e => hne (by rw [e]))⟩
theorem cutK_lo {w B e s vs} (h : Own w B e s vs) {lo : Nat} (hlo : lo ≤ vs.length) {K : Sl → Prop} (hK : K (s.cut 1 lo s.n)) : cutK 1 s (some (lo : Int)) none K := by
  have hn := h.n
  have hnc := h.nc
  refine ⟨by simp, by simp; omega, by simp; omega, ?_⟩
  simpa using hK
/-- A row behind an Own's cut. -/
theorem cut_row {w B e s vs} (h : Own w B e s vs) {lo : Nat} (hlo : lo ≤ vs.length) : Row w (s.cut 1 lo s.n) (vs.drop lo) := by
  have hn := h.n
  have hnc := h.nc
  refine ⟨by simp [Sl.cut]; omega, by simp only [Sl.cut]; omega, fun i v hv => ?_⟩
  rw [List.getElem?_drop] at hv
  obtain ⟨a, ha, hc⟩ := h.row.cell _ v hv
  have hlt : lo + i < vs.length := (List.getElem?_eq_some_iff.1 hv).1
  refine ⟨a.add lo, ?_, by rw [add_add]; exact hc⟩
  simp only [Sl.cut, Nat.mul_one]
  rw [if_neg (by omega), ha]; rfl
theorem insW_eq {α : Type} (L : List α) (x : α) (i : Nat) (hi : i ≤ L.length) : (L.take i ++ x :: L.drop i).length = L.length + 1 := by simp; omega
theorem bodied_overlaps : bodied PP F.slices_overlaps_int_ = false := by kernel_rfl
theorem overlaps_fn : ∃ fn, PP.funcs[F.slices_overlaps_int_]? = some fn ∧ (fn.name == "runtime.NumGoroutine") = false ∧ fn.body.isNone = true ∧ Extern.findNext fn = none ∧ Extern.find fn = some (Extern.SlicesOverlaps.overlaps #[T_Sint, T_Sint] #[T_bool]) :=
  ⟨_, rfl, by kernel_rfl, by kernel_rfl, by kernel_rfl, by kernel_rfl⟩
theorem size_int : ∀ w, (Go.sizeOf T_int).run PP w = .ok 1 w := fun w => by
  obtain ⟨i, hu, hi, hz, hsz, hbb, hzc⟩ := oneInt
  simp [sizeOf, typeInfo, hi, hsz]
theorem overlaps_apart {w : World} {B B' : Nat} {v s : Sl} {us vs : List Value} (hv : Own w B T_int v us) (hs : Own w B' T_int s vs) (hap : Apt v s) (hu : us ≠ []) {lo : Nat} (hlo : lo < vs.length) {K : Bool → World → Prop} (hK : K false w) :
    ext1 .bool PP F.slices_overlaps_int_ #[v.v, (s.cut 1 lo s.n).v] w K := by
  obtain ⟨fn, hf, h1, h2, h3, h4⟩ := overlaps_fn
  have hun : 0 < us.length := List.length_pos_iff.2 hu
  have hvn := hv.n; have hvc := hv.nc; have hsn := hs.n; have hsc := hs.nc
  rcases hv.at_ with hc | ⟨g, cur, ha, hb, hg, hcs, ht⟩
  · omega
  rcases hs.at_ with hc | ⟨g2, cur2, ha2, hb2, hg2, hcs2, ht2⟩
  · omega
  have b1 : v.blk = some g := by simp [Sl.blk, show v.c ≠ 0 by omega, ha]
  have b2 : s.blk = some g2 := by simp [Sl.blk, show s.c ≠ 0 by omega, ha2]
  have hne : g ≠ g2 := fun e => hap g b1 (by rw [b2, e])
  have ecut : s.cut 1 lo s.n = ⟨some ⟨g2, lo, none⟩, s.n - lo, s.c - lo⟩ := by
    simp only [Sl.cut]
    rw [if_neg (by omega), ha2]
    simp only [Option.map_some, Nat.mul_one, add_lit, Nat.zero_add]
  refine ⟨false, w, ?_, hK⟩
  rw [run_callFunc_extern hf h1 h2 h3 h4, ecut]
  have e1 : v.v = .slice (some ⟨g, 0, none⟩) v.n v.c := by simp only [Sl.v, ha]
  have hus : PP.underlying T_Sint = some (.slice T_int) := by obtain ⟨i, hu, _⟩ := oneInt; exact hu
  rw [e1, Lib.run_overlaps_apart w T_Sint T_bool T_int hus 1 size_int ⟨g, 0, none⟩ ⟨g2, lo, none⟩ v.n v.c (s.n - lo) (s.c - lo) hne T_int T_int cur.size cur2.size (by simp [World.shape?, hg]) (by simp [World.shape?, hg2]) (by omega) (by simp [World.frozen?, hg]) (by simp [World.frozen?, hg])]
  rfl

theorem c_Insert {w : World} {B : Nat} {s v : Sl} {L : List Int} {x : Int} (h : OwnI w B s L) (hB : B ≤ w.heap.size) (hv : OwnI w B v [x]) (hap : Apt v s) (hL : L.length < 2^38) {i : Nat} (hi : i ≤ L.length) :
    Calls PP F.slices_Insert___int_int_ #[s.v, vI i, v.v] w fun e w' => ∃ s' : Sl, e = .returned s'.v ∧ OwnI w' B s' (L.take i ++ x :: L.drop i) ∧ w.grownBy w' s.blk ∧ Next w s s' := by
  have hsn : s.n = L.length := by have := h.n; simpa using this
  have hvn : v.n = 1 := by have := hv.n; simpa using this
  have hnc := h.nc
  refine slices_Insert___int_int_.calls s i v ?_
  rw [slices_Insert___int_int_.E_s, hsn, hvn]
  refine cutK_lo h (by simpa using hi) ?_
  refine bif_f (by simp) ?_
  have hone : ∀ u ∈ [x].map vI, One u := fun u hu => by simp at hu; subst hu; exact One.int x
  have honeL : ∀ u ∈ L.map vI, One u := fun u hu => by obtain ⟨y, _, rfl⟩ := List.mem_map.1 hu; exact One.int y
  refine bif_intro (fun h1 => ?_) (fun h1 => ?_)
  · have h1 : i = L.length := by simp at h1; omega
    subst h1
    refine append_row oneInt h hB hv.row hone (by simp <;> omega) ?_
    intro s' w' hs' hg' hn' _
    refine ⟨s', rfl, ?_, hg', hn'⟩
    rw [List.take_length, List.drop_length]
    simpa [OwnI] using hs'
  have hlt : i < L.length := by simp at h1; omega
  rw [w64_id (n := (L.length : Int) + ((1 : Nat) : Int)) (by omega) (by omega)]
  refine bif_dec (fun h2 => ?_) (fun h2 => ?_)
  · -- a new block
    rw [w64_id (n := (L.length : Int) + ((1 : Nat) : Int) - (i : Int)) (by omega) (by omega)]
    refine Own.popE h (by omega) (by simp <;> omega) fun hs3 => ?_
    rw [Int.toNat_natCast] at hs3 ⊢
    obtain ⟨ii, hu, hii, hz, hsz, hbb, hzc⟩ := oneInt
    have hui : PP.underlying T_int = some (.int .i64) := by kernel_rfl
    have e2 : (L.map vI).take i = (L.take i).map vI := by rw [List.map_take]
    rw [e2] at hs3
    have hold : (Builtin.firstCells ii.size i (.slice s.a i s.c)).run PP w.drew = .ok ((L.take i).map vI).toArray w.drew := by
      rw [hsz]
      cases hsa : s.a with
      | none =>
        have : L = [] := by
          cases L with
          | nil => rfl
          | cons y r => obtain ⟨a, ha, _⟩ := h.row.cell 0 (vI y) rfl; rw [hsa] at ha; cases ha
        subst this
        simp at hlt
      | some a =>
        refine run_firstCells_some w.drew 1 i a i s.c ((L.take i).map vI) (by simp <;> omega) (fun j u hj => ?_)
        obtain ⟨a', ha, hc⟩ := hs3.row.cell j u hj
        simp only at ha
        rw [hsa] at ha; cases ha; exact hc
    obtain ⟨m, hm⟩ : ∃ m : Nat, m = L.length + 1 - i := ⟨_, rfl⟩
    have hmi : ((L.length : Int) + ((1 : Nat) : Int) - (i : Int)) = (m : Int) := by omega
    rw [hmi]
    have him : i + m = L.length + 1 := by omega
    have hb24 : m * ii.bytes ≤ 281474976710656 := by
      have : m * ii.bytes ≤ m * 24 := Nat.mul_le_mul_left _ hbb
      omega
    have hrun := Go.Lib.run_append_grow_zeros (P := PP) w T_Sint T_int T_Sint T_int ii (vI 0) .i64 .i64 hu hui hii hz s.a i s.c _ hold m (by omega) (by omega) (by omega) (by omega) hb24 (growslice_fits (by omega) (by
      have : (i + m) * ii.bytes ≤ (i + m) * 24 := Nat.mul_le_mul_left _ hbb
      omega))
    have hge := grownCap_ge w (i + m) s.c T_int
    have hcm := grownCap_le_maxLen w (i + m) s.c T_int (by simp only [maxLen]; omega)
    refine ⟨⟨some ⟨w.heap.size, 0, none⟩, i + m, grownCap w (i + m) s.c T_int⟩, _, hrun, ?_⟩
    have hnew := heap_alloc_new w.drew (.cells (((L.take i).map vI).toArray ++ Builtin.zeroCells (vI 0).cells m ++ Builtin.zeroCells (vI 0).cells (grownCap w (i + m) s.c T_int - (i + m))) T_int)
    generalize hwn : w.drew.alloc (.cells (((L.take i).map vI).toArray ++ Builtin.zeroCells (vI 0).cells m ++ Builtin.zeroCells (vI 0).cells (grownCap w (i + m) s.c T_int - (i + m))) T_int) = wn at hnew
    have hbn : Below w.heap.size w wn := by
      rw [← hwn]; exact ⟨rfl, rfl, rfl, by simp, fun k hk => heap_alloc_old w.drew _ hk⟩
    obtain ⟨Z, hZ, hZl⟩ : ∃ Z : List Value, (Builtin.zeroCells (vI 0).cells m).toList = Z ∧ Z.length = m := ⟨_, rfl, by rw [Array.length_toList, size_zeroCells, hzc]; simp⟩
    have ho4 : Own wn w.heap.size T_int ⟨some ⟨w.heap.size, 0, none⟩, i + m, grownCap w (i + m) s.c T_int⟩ ((L.take i).map vI ++ Z) := by
      refine ⟨by simp [hZl]; omega, hge, hcm, .inr ⟨w.heap.size, _, rfl, Nat.le_refl _, hnew, ?_, ?_⟩⟩
      · simp only [Array.size_append, size_zeroCells, hzc, List.size_toArray, List.length_map, List.length_take]
        simp; omega
      · simp only [Array.toList_append, hZ]
        rw [show i + m = (((L.take i).map vI) ++ Z).length by simp [hZl]; omega]
        exact List.take_left
    have hlZ : ((L.take i).map vI ++ Z).length = L.length + 1 := by simp [hZl]; omega
    refine cutK_lo ho4 (by omega) ?_
    refine copy_run (k := 1) ho4 (by omega) (hv.row.grow hbn) (by simp <;> omega) (fun u hu => hone u (List.mem_of_mem_take hu)) (by omega) ?_
    intro w5 ho5 hg5 hs5
    have hlm : ((L.take i).map vI).length = i := by simp; omega
    have e5 : ((L.take i).map vI ++ Z).take i ++ ([x].map vI).take 1 ++ ((L.take i).map vI ++ Z).drop (i + 1) = (L.take i).map vI ++ vI x :: Z.drop 1 := by
      rw [List.take_left' hlm, List.drop_append, hlm, List.drop_eq_nil_of_le (by omega), show i + 1 - i = 1 by omega]
      simp
    rw [e5] at ho5
    refine drew_intro fun w6 hd6 => ?_
    have ho6 := ho5.heap hd6.heap'
    have hl6 : ((L.take i).map vI ++ vI x :: Z.drop 1).length = L.length + 1 := by simp [hZl]; omega
    rw [w64_id (n := (i : Int) + ((1 : Nat) : Int)) (by omega) (by omega)]
    rw [show (i : Int) + ((1 : Nat) : Int) = ((i + 1 : Nat) : Int) by omega]
    have hb5 : Below w.heap.size w w6 := (hbn.grown hg5 hbn.size (fun g hg => (ho4.lt g hg).1)).trans (hd6.below _)
    have hL6 : OwnI w6 B s L := h.grow hb5
    refine cutK_lo ho6 (by omega) ?_
    refine cutK_lo hL6 (by simp <;> omega) ?_
    have hrow6 := cut_row hL6 (lo := i) (by simp <;> omega)
    refine copy_run (k := L.length - i) ho6 (by omega) hrow6 (by rw [hl6]; simp <;> omega) (fun u hu => honeL u (List.mem_of_mem_drop (List.mem_of_mem_take hu))) (by omega) ?_
    intro w7 ho7 hg7 hs7
    refine ⟨_, rfl, ?_, ?_, fun g hg => .inr ?_⟩
    · have e7 : ((L.take i).map vI ++ vI x :: Z.drop 1).take (i + 1) ++ ((L.map vI).drop i).take (L.length - i) ++ ((L.take i).map vI ++ vI x :: Z.drop 1).drop (i + 1 + (L.length - i)) = (L.take i ++ x :: L.drop i).map vI := by
        rw [show ((L.take i).map vI ++ vI x :: Z.drop 1).drop (i + 1 + (L.length - i)) = [] from List.drop_eq_nil_of_le (by rw [hl6]; omega), List.append_nil, List.take_of_length_le (l := (L.map vI).drop i) (by simp)]
        have : ((L.take i).map vI ++ vI x :: Z.drop 1).take (i + 1) = (L.take i).map vI ++ [vI x] := by
          rw [List.take_append, hlm, List.take_of_length_le (by omega), show i + 1 - i = 1 by omega]; rfl
        rw [this]
        simp [List.map_drop]
      rw [e7] at ho7
      exact ho7.mono hB
    · have hb7 := hb5.grown hg7 hb5.size (fun g hg => (ho6.lt g hg).1)
      exact ⟨hb7.os, hb7.tape, hb7.output, hb7.size, fun k hk _ => hb7.block k hk⟩
    · simp [Sl.blk] at hg; omega
  · -- room
    rw [w64_id (n := (i : Int) + ((1 : Nat) : Int)) (by omega) (by omega)]
    rw [show (i : Int) + ((1 : Nat) : Int) = ((i + 1 : Nat) : Int) by omega]
    have hc1 : L.length + 1 ≤ s.c := by omega
    have hb14 : ∀ g, (⟨s.a, L.length + 1, s.c⟩ : Sl).blk = some g ↔ s.blk = some g := fun g => by simp [Sl.blk]
    have eblk : (⟨s.a, L.length + 1, s.c⟩ : Sl).blk = s.blk := by simp [Sl.blk]
    obtain ⟨u, h14⟩ : ∃ u, Own w B T_int ⟨s.a, L.length + 1, s.c⟩ (L.map vI ++ [u]) := by
      rcases h.at_ with hc | ⟨g, cur, ha, hb, hg, hcs, ht⟩
      · omega
      refine ⟨cur[L.length]'(by omega), by simp, hc1, h.cm, .inr ⟨g, cur, ha, hb, hg, hcs, ?_⟩⟩
      simp only
      rw [← ht, hsn]
      rw [List.take_succ_eq_append_getElem (by simp <;> omega)]
      simp
    refine ⟨by simp, by simp; omega, by simp; omega, ?_⟩
    have ecut : s.cut 1 ((none : Option Int).getD 0).toNat ((some ((L.length : Int) + ((1 : Nat) : Int))).getD (s.n : Int)).toNat = ⟨s.a, L.length + 1, s.c⟩ := by
      simp only [Sl.cut, Option.getD_none, Option.getD_some, Int.toNat_zero, Nat.zero_mul, Nat.sub_zero]
      rw [show ((L.length : Int) + ((1 : Nat) : Int)).toNat = L.length + 1 by omega]
      cases s.a <;> simp [add_zero']
    rw [ecut]
    have hl14 : (L.map vI ++ [u]).length = L.length + 1 := by simp
    refine cutK_lo h14 (by omega) ?_
    have hap14 : Apt v ⟨s.a, L.length + 1, s.c⟩ := fun g e1 e2 => hap g e1 ((hb14 g).1 e2)
    refine overlaps_apart hv h14 hap14 (by simp) (by omega) ?_
    refine bif_t rfl ?_
    refine drew_intro fun w1 hd => ?_
    have h15 := h14.heap hd.heap'
    refine cutK_lo h15 (by omega) ?_
    refine cutK_lo h15 (by omega) ?_
    have hrow := cut_row h15 (lo := i) (by omega)
    have etk : ((L.map vI ++ [u]).drop i).take (L.length - i) = (L.drop i).map vI := by
      rw [List.drop_append_of_le_length (by simp <;> omega), List.take_append_of_le_length (by simp), ← List.map_drop, List.take_of_length_le (by simp)]
    refine copy_run (k := L.length - i) h15 (by omega) hrow (by simp <;> omega) (fun y hy => by rw [etk] at hy; obtain ⟨z, _, rfl⟩ := List.mem_map.1 hy; exact One.int z) (by omega) ?_
    intro w2 ho2 hg2 hs2
    have e2 : (L.map vI ++ [u]).take (i + 1) ++ ((L.map vI ++ [u]).drop i).take (L.length - i) ++ (L.map vI ++ [u]).drop (i + 1 + (L.length - i)) = (L.map vI).take i ++ (vI L[i] :: (L.drop i).map vI) := by
      rw [etk, show (L.map vI ++ [u]).drop (i + 1 + (L.length - i)) = [] from List.drop_eq_nil_of_le (by rw [hl14]; omega), List.append_nil, List.take_append_of_le_length (by simp <;> omega), List.take_succ_eq_append_getElem (by simp <;> omega)]
      simp
    rw [e2] at ho2
    have hl2 : ((L.map vI).take i ++ (vI L[i] :: (L.drop i).map vI)).length = L.length + 1 := by simp; omega
    have hg02 : w.grownBy w2 s.blk := by
      rw [eblk] at hg2
      exact ⟨hg2.os.trans (hd.below 0).os, hg2.tape.trans (hd.below 0).tape, hg2.output.trans (hd.below 0).output, by have := hg2.size; have := hd.heap'; simp_all, fun k hk hne => by rw [hg2.block k (by rw [hd.heap']; exact hk) hne, hd.heap']⟩
    have hv2 : OwnI w2 B v [x] := hv.kept hg02 (fun g e1 e2 => hap g e1 e2)
    refine cutK_lo ho2 (by omega) ?_
    refine copy_run (k := 1) ho2 (by omega) hv2.row (by simp <;> omega) (fun y hy => hone y (List.mem_of_mem_take hy)) (by omega) ?_
    intro w3 ho3 hg3 hs3
    refine ⟨_, rfl, ?_, ?_, fun g hg => .inl ((hb14 g).1 hg)⟩
    · have hlt2 : ((L.map vI).take i).length = i := by simp; omega
      have e3 : ((L.map vI).take i ++ (vI L[i] :: (L.drop i).map vI)).take i ++ ([x].map vI).take 1 ++ ((L.map vI).take i ++ (vI L[i] :: (L.drop i).map vI)).drop (i + 1) = (L.take i ++ x :: L.drop i).map vI := by
        rw [List.take_left' hlt2, List.drop_append, hlt2, List.drop_eq_nil_of_le (by omega), show i + 1 - i = 1 by omega]
        simp
      rw [e3] at ho3
      exact ho3
    · rw [eblk] at hg3
      exact ⟨hg3.os.trans hg02.os, hg3.tape.trans hg02.tape, hg3.output.trans hg02.output, Nat.le_trans hg02.size hg3.size, fun k hk hne => (hg3.block k (Nat.lt_of_lt_of_le hk hg02.size) hne).trans (hg02.block k hk hne)⟩
end Go.Proofs.Ytmhgjfahgemblaa
