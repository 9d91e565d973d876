/- A map whose keys are four numbers and whose values are all true: what looking up and storing do. -/
import Derived.Test.YtmhgjfahgemblaaFoot
import Derived.Laws.Tables
namespace Go.Proofs.Ytmhgjfahgemblaa
open Go Go.RowKit
set_option maxRecDepth 100000

@[reducible] def kv (t : Int × Int × Int × Int) : Value := .agg #[vI t.1, vI t.2.1, vI t.2.2.1, vI t.2.2.2]
theorem kv_inj {s t : Int × Int × Int × Int} (h : kv s = kv t) : s = t := by
  obtain ⟨a, b, c, d⟩ := s
  obtain ⟨a', b', c', d'⟩ := t
  simp [kv] at h
  simp [h]
theorem u_map4 : PP.underlying T_M_4_int_bool = some (.map T__4_int T_bool) := by kernel_rfl
theorem u_arr4 : PP.underlying T__4_int = some (.array 4 T_int) := by kernel_rfl
theorem u_int : PP.underlying T_int = some (.int .i64) := by kernel_rfl
theorem one_int : oneB PP T_int = true := by kernel_rfl
theorem size_int (w : World) : (sizeOf T_int).run PP w = .ok 1 w := by
  obtain ⟨i, hu, hi, hz, hs, hb, hzc⟩ := oneInt
  simp [sizeOf, typeInfo, hi, hs]
theorem part_int {cs : Array Value} {off : Nat} {v : Value} (h : cs[off]? = some v) (w : World) : (part T_int cs off).run PP w = .ok v w := by
  simp [part, isAgg_one one_int, h]
theorem check_int (e : Bool) (n : Nat) (v : Value) (w : World) : (Instr.checkKey e (n + 1) T_int v).run PP w = .ok () w := by
  simp [Instr.checkKey, run_underlying u_int]
theorem check4 (e : Bool) (n : Nat) (t : Int × Int × Int × Int) (w : World) : (Instr.checkKey e (n + 1 + 1) T__4_int (kv t)).run PP w = .ok () w := by
  rw [Instr.checkKey]
  simp [run_underlying u_arr4, size_int, check_int, part_int, List.range'_succ]
theorem eq_int (a b : Int) (n : Nat) (w : World) : (Op.equalIn (n + 1) T_int (vI a) (vI b)).run PP w = .ok (a == b) w := by
  simp [Op.equalIn, run_underlying u_int]
theorem eq4 (n : Nat) (s t : Int × Int × Int × Int) (w : World) : (Op.equalIn (n + 1 + 1) T__4_int (kv s) (kv t)).run PP w = .ok (decide (s = t)) w := by
  obtain ⟨a, b, c, d⟩ := s
  obtain ⟨a', b', c', d'⟩ := t
  rw [Op.equalIn]
  simp [run_underlying u_arr4, size_int, part_int, eq_int, List.range'_succ]
  by_cases h1 : a = a' <;> by_cases h2 : b = b' <;> by_cases h3 : c = c' <;> by_cases h4 : d = d' <;> simp [h1, h2, h3, h4]
/-- The map holds the keys S. -/
def MapK (w : World) (r : Nat) (S : List (Int × Int × Int × Int)) : Prop := ∃ es clock, w.heap[r]? = some (.map es clock) ∧ (∀ e ∈ es.toList, ∃ t ∈ S, e.key = kv t ∧ e.val = .bool true) ∧ ∀ t ∈ S, ∃ e ∈ es.toList, e.key = kv t
theorem ask4 (t : Int × Int × Int × Int) (w : World) : ∀ (es : List MapEntry) (i : Nat), (∀ e ∈ es, ∃ s, e.key = kv s ∧ e.val = .bool true) →
    ∃ r, (Instr.findAsking T__4_int (kv t) es i).run PP w = .ok r w ∧ ((r = none ∧ ∀ e ∈ es, e.key ≠ kv t) ∨ ∃ j e, r = some (i + j, .bool true) ∧ es[j]? = some e ∧ e.key = kv t)
  | [], i, _ => ⟨none, by simp [Instr.findAsking], .inl ⟨rfl, fun e he => (by cases he)⟩⟩
  | e :: es, i, h => by
    obtain ⟨s, hs, hv⟩ := h e (by simp)
    have he : (Op.equal T__4_int (kv t) (kv s)).run PP w = .ok (decide (t = s)) w := eq4 9998 t s w
    by_cases hts : t = s
    · subst hts
      refine ⟨some (i, .bool true), ?_, .inr ⟨0, e, rfl, rfl, hs⟩⟩
      rw [Instr.findAsking, hs, hv]
      simp only [Sem.run_bind, he, Result.andThen_ok, decide_true, if_true, Sem.run_pure]
    · obtain ⟨r, h1, h2⟩ := ask4 t w es (i + 1) fun e' he' => h e' (by simp [he'])
      refine ⟨r, ?_, ?_⟩
      · rw [Instr.findAsking, hs]
        simp only [Sem.run_bind, he, Result.andThen_ok, hts, decide_false, Bool.false_eq_true, if_false]
        exact h1
      · rcases h2 with ⟨h3, h4⟩ | ⟨j, e', h3, h4, h5⟩
        · refine .inl ⟨h3, fun e' he' => ?_⟩
          rcases List.mem_cons.1 he' with rfl | he'
          · rw [hs]; exact fun e => hts (kv_inj e).symm
          · exact h4 e' he'
        · exact .inr ⟨j + 1, e', by rw [h3]; congr 2; omega, h4, h5⟩
theorem find4 (t : Int × Int × Int × Int) (w : World) (es : List MapEntry) (h : ∀ e ∈ es, ∃ s, e.key = kv s ∧ e.val = .bool true) :
    ∃ r, (Instr.findKey T__4_int (kv t) es).run PP w = .ok r w ∧ ((r = none ∧ ∀ e ∈ es, e.key ≠ kv t) ∨ ∃ j e, r = some (j, .bool true) ∧ es[j]? = some e ∧ e.key = kv t) := by
  cases es with
  | nil => exact ⟨none, by simp [Instr.findKey, run_underlying u_arr4, Instr.findNow], .inl ⟨rfl, fun e he => (by cases he)⟩⟩
  | cons e es =>
    obtain ⟨r, h1, h2⟩ := ask4 t w (e :: es) 0 h
    refine ⟨r, ?_, ?_⟩
    · simp only [Instr.findKey, Sem.run_bind, run_underlying u_arr4, Result.andThen_ok, Instr.findNow, Instr.sameNow]
      exact h1
    · rcases h2 with h3 | ⟨j, e', h3, h4⟩
      · exact .inl h3
      · exact .inr ⟨j, e', by rw [h3, Nat.zero_add], h4⟩
theorem zero_bool (w : World) : (zeroValue T_bool).run PP w = .ok (.bool false) w := by
  have : (PP.info? T_bool).map (·.zero) = some (some (.bool false)) := by kernel_rfl
  cases hi : PP.info? T_bool with
  | none => rw [hi] at this; cases this
  | some i =>
    rw [hi] at this
    simp at this
    simp [zeroValue, typeInfo, hi, this]
theorem look4 {w : World} {r : Nat} {S : List (Int × Int × Int × Int)} (h : MapK w r S) (t : Int × Int × Int × Int) {K : Bool → World → Prop} (hk : K (decide (t ∈ S)) w) : sem1 .bool PP (Instr.lookup T_M_4_int_bool (.map (some r)) (kv t) false) w K := by
  obtain ⟨es, clock, hg, h1, h2⟩ := h
  obtain ⟨q, h3, h4⟩ := find4 t w es.toList fun e he => by obtain ⟨s, _, hs⟩ := h1 e he; exact ⟨s, hs⟩
  refine ⟨decide (t ∈ S), w, ?_, hk⟩
  have hobj : (getObj r).run PP w = .ok (.map es clock) w := by simp [getObj, Sem.run, hg]
  have hch : ∀ e : Bool, (Instr.checkKey e 10000 T__4_int (kv t)).run PP w = .ok () w := fun e => check4 e 9998 t w
  simp only [Instr.lookup, Sem.run_bind, run_underlying u_map4, Result.andThen_ok, hobj, Sem.run_pure, hch, h3]
  rcases h4 with ⟨rfl, h5⟩ | ⟨j, e, rfl, h5, h6⟩
  · have : t ∉ S := fun hm => by obtain ⟨e, he, hke⟩ := h2 t hm; exact h5 e he hke
    simp [zero_bool, this]
  · have : t ∈ S := by
      obtain ⟨s, hs, hks, _⟩ := h1 e (List.mem_of_getElem? h5)
      rw [h6] at hks
      rw [kv_inj hks]; exact hs
    simp [this]
theorem same4 (t : Int × Int × Int × Int) (n : Nat) : Instr.sameBits (n + 1 + 1) (kv t) (kv t) = true := by
  simp [Instr.sameBits]
theorem set_map {w : World} {r : Nat} {es es' : Array MapEntry} {c c' : Nat} (hg : w.heap[r]? = some (.map es c)) : ∃ w', (setObj r (.map es' c')).run PP w = .ok () w' ∧ w'.heap[r]? = some (.map es' c') ∧ w.grownBy w' (some r) ∧ w'.heap.size = w.heap.size := by
  have hlt : r < w.heap.size := (Array.getElem?_eq_some_iff.1 hg).1
  refine ⟨{ w with heap := w.heap.setIfInBounds r (.map es' c') }, by simp [setObj, Sem.run, hg], ?_, ⟨rfl, rfl, rfl, by simp, fun k hk hne => ?_⟩, by simp⟩
  · simp [hlt]
  · simp only
    rw [Array.getElem?_setIfInBounds_ne]
    intro e; exact hne (by rw [e])
theorem put4 {w : World} {r : Nat} {S : List (Int × Int × Int × Int)} (h : MapK w r S) (t : Int × Int × Int × Int) {K : World → Prop} (hk : ∀ w', MapK w' r (t :: S) → w.grownBy w' (some r) → K w') : sem0 PP (Instr.mapUpdate T_M_4_int_bool (.map (some r)) (kv t) (.bool true)) w K := by
  obtain ⟨es, clock, hg, h1, h2⟩ := h
  obtain ⟨q, h3, h4⟩ := find4 t w es.toList fun e he => by obtain ⟨s, _, hs⟩ := h1 e he; exact ⟨s, hs⟩
  have hobj : (getObj r).run PP w = .ok (.map es clock) w := by simp [getObj, Sem.run, hg]
  have hch : (Instr.checkKey false 10000 T__4_int (kv t)).run PP w = .ok () w := check4 false 9998 t w
  rcases h4 with ⟨rfl, h5⟩ | ⟨j, e, rfl, h5, h6⟩
  · obtain ⟨w', s1, s2, s3, s4⟩ := set_map (es' := es.push { key := kv t, val := .bool true, born := clock }) (c' := clock + 1) hg
    refine ⟨w', ?_, hk w' ⟨_, _, s2, fun e he => ?_, fun s hs => ?_⟩ s3⟩
    · simp only [Instr.mapUpdate, Sem.run_bind, run_underlying u_map4, Result.andThen_ok, hobj, hch, h3]
      exact s1
    · rw [Array.toList_push] at he
      rcases List.mem_append.1 he with he | he
      · obtain ⟨s, hs, hks⟩ := h1 e he
        exact ⟨s, by simp [hs], hks⟩
      · simp at he; subst he; exact ⟨t, by simp, rfl, rfl⟩
    · rw [Array.toList_push]
      rcases List.mem_cons.1 hs with rfl | hs
      · exact ⟨{ key := kv s, val := .bool true, born := clock }, by simp, rfl⟩
      · obtain ⟨e, he, hke⟩ := h2 s hs
        exact ⟨e, by simp only [List.mem_append]; exact .inl he, hke⟩
  · have hj : es[j]? = some e := by rw [← Array.getElem?_toList]; exact h5
    obtain ⟨w', s1, s2, s3, s4⟩ := set_map (es' := es.modify j fun e => { e with key := kv t, val := .bool true }) (c' := clock) hg
    have hsame : (Instr.keyThatStays (((es[j]?).map (·.key)).getD (kv t)) (kv t)).run PP w = .ok (kv t) w := by
      have hsb : Instr.sameBits 10000 (kv t) (kv t) = true := same4 t 9998
      rw [hj]
      simp only [Option.map_some, Option.getD_some, h6, Instr.keyThatStays, hsb, if_true, Sem.run_pure]
    have hmem : ∀ e', e' ∈ (es.modify j fun e => { e with key := kv t, val := .bool true }).toList → ∃ s ∈ t :: S, e'.key = kv s ∧ e'.val = .bool true := by
      intro e' he'
      obtain ⟨i, hi, rfl⟩ := List.getElem_of_mem he'
      rw [Array.getElem_toList, Array.getElem_modify]
      split
      · exact ⟨t, by simp, rfl, rfl⟩
      · obtain ⟨s, hs, hks⟩ := h1 _ (Array.getElem_mem_toList (xs := es) (i := i) (by simpa using hi))
        exact ⟨s, by simp [hs], hks⟩
    refine ⟨w', ?_, hk w' ⟨_, _, s2, hmem, fun s hs => ?_⟩ s3⟩
    · simp only [Instr.mapUpdate, Sem.run_bind, run_underlying u_map4, Result.andThen_ok, hobj, hch, h3, hsame]
      exact s1
    · have hjl : j < es.size := (Array.getElem?_eq_some_iff.1 hj).1
      have key : ∃ e' ∈ (es.modify j fun e => { e with key := kv t, val := .bool true }).toList, e'.key = kv t := by
        refine ⟨(es.modify j fun e => { e with key := kv t, val := .bool true })[j]'(by simpa using hjl), Array.getElem_mem_toList _, ?_⟩
        rw [Array.getElem_modify]; simp
      rcases List.mem_cons.1 hs with rfl | hs
      · exact key
      · obtain ⟨e0, he0, hke⟩ := h2 s hs
        by_cases hst : s = t
        · subst hst; exact key
        · obtain ⟨i, hi, rfl⟩ := List.getElem_of_mem he0
          have hi' : i < es.size := by simpa using hi
          have hij : j ≠ i := by
            intro e'
            subst e'
            rw [Array.getElem_toList] at hke
            have : e = es[j] := by rw [Array.getElem?_eq_getElem hi'] at hj; exact (Option.some.inj hj).symm
            rw [← this, h6] at hke
            exact hst (kv_inj hke).symm
          refine ⟨(es.modify j fun e => { e with key := kv t, val := .bool true })[i]'(by simpa using hi'), Array.getElem_mem_toList _, ?_⟩
          rw [Array.getElem_modify, if_neg hij]
          rw [Array.getElem_toList] at hke
          exact hke
theorem MapK.kept {w w' : World} {r : Nat} {S : List (Int × Int × Int × Int)} {T : Nat → Prop} (h : MapK w r S) (hk : Keeps T w w') (hr : ¬ T r) : MapK w' r S := by
  obtain ⟨es, clock, hg, h1, h2⟩ := h
  exact ⟨es, clock, by rw [hk.block r (Array.getElem?_eq_some_iff.1 hg).1 hr]; exact hg, h1, h2⟩
theorem MapK.grow {w w' : World} {r : Nat} {S : List (Int × Int × Int × Int)} (h : MapK w r S) (hb : Below w.heap.size w w') : MapK w' r S := h.kept (T := fun _ => False) ((keeps_grown (grow_of_below hb)).mono fun _ e => (by cases e)) id
theorem MapK.lt {w : World} {r : Nat} {S : List (Int × Int × Int × Int)} (h : MapK w r S) : r < w.heap.size := by
  obtain ⟨es, clock, hg, _⟩ := h
  exact (Array.getElem?_eq_some_iff.1 hg).1
theorem new4 {w : World} {K : Option Nat → World → Prop} (hk : ∀ r w', MapK w' r [] → w.heap.size ≤ r → Below w.heap.size w w' → K (some r) w') : sem1 .map PP (Instr.makeMap T_M_4_int_bool none) w K := by
  refine ⟨some w.heap.size, w.alloc (.map #[] 0), ?_, hk _ _ ⟨#[], 0, heap_alloc_new w _, fun e he => by simp at he, fun t ht => by cases ht⟩ (Nat.le_refl _) (below_of_grow (World.grownBy_alloc w _ none))⟩
  simp [Instr.makeMap, run_underlying u_map4, newObj, Sem.run]
theorem mk4 (a b c d : Int) {K : Value → Prop} (hk : K (kv (a, b, c, d))) : buildK PP T__4_int [(0, vI a), (1, vI b), (2, vI c), (3, vI d)] K :=
  ⟨_, fun w => run_build w _ _ #[vI a, vI b, vI c, vI d] (by kernel_rfl), hk⟩
end Go.Proofs.Ytmhgjfahgemblaa
