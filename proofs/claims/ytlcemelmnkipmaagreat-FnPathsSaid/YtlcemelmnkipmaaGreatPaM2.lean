/- The texts Draw, OpenB, CodePo, CodeFi, CodeCl, TabFn, Clo, Code, L1, Law1, Perm, PermMath, FindMath, Find, ShelfR, FnVal, Law2, PathOf in one (gmerge.py). -/
import Derived.Laws.Tables
import Derived.ChangeSlices
import Derived.WideShapes
import Derived.Shelf.Strings.Repeat
import Derived.Test.YtlcemelmnkipmaaGreatProg
import Derived.Test.YtlcemelmnkipmaaGreatPaM1
/- The draws: a cursor over the bytes handed in, numbers below a bound, permutations, and lists that are permutations mostly. -/
namespace Go.Proofs.YtlcemelmnkipmaaGreat
open Go Go.RowKit
set_option maxRecDepth 100000

/-! ### Bytes -/
@[reducible] def vB (n : Int) : Value := .int .u8 n
/-- A row of bytes. -/
@[reducible] def RowB (w : World) (s : Sl) (L : List Int) : Prop := Row w s (L.map vB)
theorem RowB.get {w s L} (h : RowB w s L) {i : Int} (h0 : 0 ≤ i) (hi : i < L.length) {K : Int → Prop} (hk : K (L.getD i.toNat 0)) : idxK 1 s i fun a => load1 (.int .u8) a w K := by
  have hlt : i.toNat < L.length := by omega
  refine Row.get (sh := .int .u8) (r := L.getD i.toNat 0) h h0 ?_ hk
  simp [List.getD_eq_getElem?_getD, List.getElem?_eq_getElem hlt]
theorem wrap_and (a : Int) (m : Nat) (hm : m < 2^63) : 0 ≤ bAnd .i64 a m ∧ bAnd .i64 a m ≤ m := by
  unfold bAnd
  have h : (BitVec.ofInt IntKind.i64.bits a &&& BitVec.ofInt IntKind.i64.bits (m : Int)).toNat ≤ m := by
    rw [BitVec.toNat_and]
    refine Nat.le_trans Nat.and_le_right ?_
    simp [IntKind.bits]
    exact Nat.mod_le _ _
  have e : IntKind.i64.wrap (((BitVec.ofInt IntKind.i64.bits a &&& BitVec.ofInt IntKind.i64.bits (m : Int)).toNat : Nat) : Int) = ((BitVec.ofInt IntKind.i64.bits a &&& BitVec.ofInt IntKind.i64.bits (m : Int)).toNat : Nat) := w64_id (by omega) (by omega)
  rw [e]
  omega

/-! ### The cursor -/
structure Cur (w0 w : World) (c : Addr) : Prop where
  ex : ∃ (b : Sl) (L : List Int) (g : Nat) (i h : Int), c = ⟨g, 0, none⟩ ∧ RowB w0 b L ∧ L.length < 2^60 ∧ w0.heap.size ≤ g ∧ w.heap[g]? = some (.cells #[b.v, vI i, vI h] T_spec_l1Cur (0, 0)) ∧ 0 ≤ i ∧ i ≤ L.length
  below : Below w0.heap.size w0 w
/-- The cursor's block. -/
def CS (c : Addr) (k : Nat) : Prop := k = c.block
theorem Cur.lt {w0 w c} (h : Cur w0 w c) : w0.heap.size ≤ c.block ∧ c.block < w.heap.size := by
  obtain ⟨b, L, g, i, hh, rfl, _, _, h1, h2, _⟩ := h.ex
  exact ⟨h1, (Array.getElem?_eq_some_iff.1 h2).1⟩
theorem Cur.keeps {w0 w w' c} {S : Nat → Prop} (h : Cur w0 w c) (hk : Keeps S w w') (hS : ∀ k, S k → w0.heap.size ≤ k ∧ k ≠ c.block) : Cur w0 w' c := by
  have hl := h.lt
  refine ⟨?_, h.below.trans (hk.below (fun k hk => (hS k hk).1) h.below.size)⟩
  obtain ⟨b, L, g, i, hh, rfl, h1, h2, h3, h4, h5⟩ := h.ex
  refine ⟨b, L, g, i, hh, rfl, h1, h2, h3, ?_, h5⟩
  rw [hk.block g hl.2 (fun hs => (hS g hs).2 rfl)]; exact h4
theorem Cur.grow {w0 w w' c} (h : Cur w0 w c) (hb : Below w.heap.size w w') : Cur w0 w' c :=
  h.keeps (keeps_grown (grow_of_below hb)) (fun k hk => by cases hk)
theorem keeps_below {w w' : World} (hb : Below w.heap.size w w') (S : Nat → Prop) : Keeps S w w' := (keeps_grown (grow_of_below hb)).mono (fun k e => by cases e)
/-- What was made behind the cursor stays while the cursor moves. -/
theorem Own.curs {w w' B e s vs c} (h : Own w B e s vs) (hk : Keeps (CS c) w w') (hc : c.block < B) : Own w' B e s vs :=
  h.keeps hk fun g hg hs => by have := (h.lt g hg).1; unfold CS at hs; omega
theorem cur_load {w : World} {g k : Nat} {cs : Array Value} {t : TypeId} (hg : w.heap[g]? = some (.cells cs t (0, 0))) {s : Sh} {r : s.T} (hc : cs[k]? = some (s.enc r)) {K : s.T → Prop} (hk : K r) : load1 s ((⟨g, 0, none⟩ : Addr).add k) w K := by
  refine ⟨r, ?_, hk⟩
  rw [add_lit, cell_of_row w g (0 + k) cs t (0, 0) hg, Nat.zero_add]
  exact hc
theorem cur_store {w : World} {g k : Nat} {cs : Array Value} {t : TypeId} (hg : w.heap[g]? = some (.cells cs t (0, 0))) (hk : k < cs.size) {v : Value} {K : World → Prop}
    (h : ∀ w', w'.heap[g]? = some (.cells (cs.setIfInBounds k v) t (0, 0)) → Keeps (fun x => x = g) w w' → w'.heap.size = w.heap.size → K w') : storeC ((⟨g, 0, none⟩ : Addr).add k) v w K := by
  rw [add_lit, Nat.zero_add]
  have hcell := cell_of_row w g k cs t (0, 0) hg
  refine ⟨⟨cs[k], by rw [hcell]; simp [hk]⟩, by simp [World.frozen?, hg], h _ ?_ ⟨rfl, rfl, rfl, by simp [World.setCell], fun x hx hne => Below.heap_setCell _ _ _ _ (fun e => hne e)⟩ (by simp [World.setCell])⟩
  simp [World.setCell, Array.getElem?_modify, hg]

theorem c_l1New {w : World} {a : Sl} {L : List Int} (ha : RowB w a L) (hL : L.length < 2^60) :
    Calls PP F.spec_l1New #[a.v] w fun e w' => ∃ c, e = .returned (.pointer (some c)) ∧ Cur w w' c := by
  have han : a.n = L.length := by have := ha.n; simpa using this
  refine spec_l1New.calls a ?_
  rw [spec_l1New.E_s]
  have fin : ∀ h R, (∀ c w', Cur w w' c → R (.returned (.pointer (some c))) w') → spec_l1New.q1 std R (.exit 0) (spec_l1New.x0 a h) w := by
    intro h R hR
    rw [spec_l1New.A3_0_s]
    refine ⟨_, fun w => run_build w _ _ #[a.v, vI 0, vI h] (by kernel_rfl), ?_⟩
    refine hR _ _ ⟨⟨a, L, w.heap.size, 0, h, rfl, ha, hL, Nat.le_refl _, heap_alloc_new w _, by omega, by omega⟩, below_of_grow (World.grownBy_alloc w _ none)⟩
  refine spec_l1New.L3_rule _ _ _ _ _ (I := fun h i w' => w' = w ∧ 0 ≤ i ∧ i ≤ L.length) (μ := fun _ i _ => (L.length - i).toNat) ⟨rfl, by omega, by omega⟩ ?_
  rintro h i w' ⟨rfl, h0, hi⟩
  rw [spec_l1New.B3_s, han]
  refine bif_dec (fun h3 => ?_) (fun h3 => ?_)
  · refine bif_dec (fun h4 => ?_) (fun h4 => ?_)
    · refine RowB.get ha h0 (by omega) ?_
      exact ⟨_, i + 1, by rw [w64_succ h0 (by omega)], ⟨rfl, by omega, by omega⟩, by omega⟩
    · exact fin _ _ (fun c w' hc => ⟨c, rfl, hc⟩)
  · exact fin _ _ (fun c w' hc => ⟨c, rfl, hc⟩)

theorem c_l1Byte {w0 w : World} {c : Addr} (hc : Cur w0 w c) :
    Calls PP F.spec_l1Byte #[.pointer (some c)] w fun e w' => ∃ x : Int, e = .returned (vI x) ∧ 0 ≤ x ∧ x ≤ 255 ∧ Cur w0 w' c ∧ Keeps (CS c) w w' := by
  have hlt := hc.lt
  have hbel := hc.below
  obtain ⟨b, L, g, i, h, rfl, hb, hL, hg, hcell, hi0, hi⟩ := hc.ex
  have hbn : b.n = L.length := by have := hb.n; simpa using this
  refine spec_l1Byte.calls ⟨g, 0, none⟩ ?_
  rw [spec_l1Byte.E_s]
  refine cur_load hcell (s := .int .i64) (r := h) (by rfl) ?_
  refine cur_store hcell (by simp) ?_
  intro w1 hg1 hk1 hs1
  have hb1 : Below w0.heap.size w0 w1 := hbel.trans (hk1.below (fun k e => by rw [e]; exact hg) hbel.size)
  generalize w64 (w64 (h * 6364136223846793005) + 1442695040888963407) = h' at hg1
  have hg1 : w1.heap[g]? = some (.cells #[b.v, vI i, vI h'] T_spec_l1Cur (0, 0)) := hg1
  refine cur_load hg1 (s := .int .i64) (r := h') (by rfl) ?_
  refine ⟨by omega, ?_⟩
  refine cur_load hg1 (s := .int .i64) (r := h') (by rfl) ?_
  refine ⟨by omega, ?_⟩
  refine drew_intro fun w4 hd4 => ?_
  have hg4 : w4.heap[g]? = some (.cells #[b.v, vI i, vI h'] T_spec_l1Cur (0, 0)) := by rw [hd4.heap']; exact hg1
  refine cur_load hg4 (s := .int .i64) (r := i) (by rfl) ?_
  refine cur_load hg4 (s := .sl) (r := b) (by rfl) ?_
  refine drew_intro fun w8 hd8 => ?_
  have hd18 := hd4.trans hd8
  have hg8 : w8.heap[g]? = some (.cells #[b.v, vI i, vI h'] T_spec_l1Cur (0, 0)) := by rw [hd18.heap']; exact hg1
  have hb8 : Below w0.heap.size w0 w8 := hb1.trans (hd18.below _)
  have hk8 : Keeps (CS ⟨g, 0, none⟩) w w8 := (hk1.mono fun k e => e).trans (hd18.keeps _)
  have hm := fun a => wrap_and a 255 (by decide)
  rw [hbn]
  refine bif_dec (fun h3 => ?_) (fun h3 => ?_)
  · refine cur_load hg8 (s := .sl) (r := b) (by rfl) ?_
    refine cur_load hg8 (s := .int .i64) (r := i) (by rfl) ?_
    refine RowB.get (hb.grow hb8) hi0 (by omega) ?_
    refine drew_intro fun w13 hd13 => ?_
    have hg13 : w13.heap[g]? = some (.cells #[b.v, vI i, vI h'] T_spec_l1Cur (0, 0)) := by rw [hd13.heap']; exact hg8
    refine cur_load hg13 (s := .int .i64) (r := i) (by rfl) ?_
    refine cur_store hg13 (by simp) ?_
    intro w15 hg15 hk15 hs15
    rw [w64_succ hi0 (by omega)] at hg15
    rw [spec_l1Byte.J6_s]
    have hb13 := hb8.trans (hd13.below w0.heap.size)
    refine ⟨_, rfl, (hm _).1, (hm _).2, ⟨⟨b, L, g, i + 1, h', rfl, hb, hL, hg, hg15, by omega, by omega⟩, hb13.trans (hk15.below (fun k e => by rw [e]; exact hg) hb13.size)⟩, (hk8.trans (hd13.keeps _)).trans (hk15.mono fun k e => e)⟩
  · rw [spec_l1Byte.J6_s]
    exact ⟨_, rfl, (hm _).1, (hm _).2, ⟨⟨b, L, g, i, h', rfl, hb, hL, hg, hg8, hi0, hi⟩, hb8⟩, hk8⟩

theorem c_l1Below {w0 w : World} {c : Addr} (hc : Cur w0 w c) {n : Int} (hn : n ≤ 256) :
    Calls PP F.spec_l1Below #[.pointer (some c), vI n] w fun e w' => ∃ x : Int, e = .returned (vI x) ∧ 0 ≤ x ∧ (x < n ∨ x = 0) ∧ Cur w0 w' c ∧ Keeps (CS c) w w' := by
  refine spec_l1Below.calls c n ?_
  rw [spec_l1Below.E_s]
  refine bif_dec (fun h => ?_) (fun h => ?_)
  · exact ⟨0, rfl, by omega, .inr rfl, hc, Keeps.refl _ _⟩
  refine bif_dec (fun h2 => ?_) (fun h2 => absurd hn h2)
  refine (c_l1Byte hc).mono ?_
  rintro e w1 ⟨x, rfl, h0, h1, hc1, hk1⟩
  refine ⟨x, rfl, by omega, ?_⟩
  have e1 : x.tmod n = x % n := Int.tmod_eq_emod_of_nonneg h0
  refine ⟨_, rfl, ?_, .inl ?_, hc1, hk1⟩
  · rw [e1]; exact Int.emod_nonneg _ (by omega)
  · rw [e1]; exact Int.emod_lt_of_pos _ (by omega)
theorem c_l1Once {w0 w : World} {c : Addr} (hc : Cur w0 w c) {n : Int} (hn : n ≤ 256) :
    Calls PP F.spec_l1Once #[.pointer (some c), vI n] w fun e w' => ∃ b : Bool, e = .returned (.bool b) ∧ Cur w0 w' c ∧ Keeps (CS c) w w' := by
  refine spec_l1Once.calls c n ?_
  rw [spec_l1Once.E_s]
  refine (c_l1Below hc hn).mono ?_
  rintro e w1 ⟨x, rfl, h0, h1, hc1, hk1⟩
  exact ⟨x, rfl, _, rfl, hc1, hk1⟩
theorem c_l1PickInt {w0 w : World} {c : Addr} (hc : Cur w0 w c) {s : Sl} {L : List Int} (hs : ∀ w', Keeps (CS c) w w' → RowI w' s L) (h1 : 0 < L.length) (h2 : L.length ≤ 256) :
    Calls PP F.spec_l1PickInt #[.pointer (some c), s.v] w fun e w' => ∃ x : Int, e = .returned (vI x) ∧ x ∈ L ∧ Cur w0 w' c ∧ Keeps (CS c) w w' := by
  have hsn : s.n = L.length := by have := (hs w (Keeps.refl _ _)).n; simpa using this
  refine spec_l1PickInt.calls c s ?_
  rw [spec_l1PickInt.E_s, hsn]
  refine (c_l1Below hc (by omega)).mono ?_
  rintro e w1 ⟨x, rfl, h0, h3, hc1, hk1⟩
  refine ⟨x, rfl, ?_⟩
  refine RowI.get (hs w1 hk1) h0 (by omega) ?_
  have hlt : x.toNat < L.length := by omega
  exact ⟨_, rfl, by simp [List.getD_eq_getElem?_getD, List.getElem?_eq_getElem hlt], hc1, hk1⟩

/-! ### Permutations -/
def upTo (n : Nat) : List Int := (List.range n).map fun (i : Nat) => (i : Int) + 1
theorem upTo_succ (n : Nat) : upTo (n + 1) = upTo n ++ [(n : Int) + 1] := by simp [upTo, List.range_succ]
theorem upTo_length (n : Nat) : (upTo n).length = n := by simp [upTo]
theorem ins_perm {L : List Int} {n at_ : Nat} (h : L.Perm (upTo n)) : (L.take at_ ++ [(n : Int) + 1] ++ L.drop at_).Perm (upTo (n + 1)) := by
  rw [upTo_succ]
  refine List.Perm.trans ?_ (List.Perm.append_right _ h)
  rw [List.append_assoc]
  have h1 : (L.take at_ ++ ([(n : Int) + 1] ++ L.drop at_)).Perm (L.take at_ ++ (L.drop at_ ++ [(n : Int) + 1])) := List.Perm.append_left _ List.perm_append_comm
  have h2 : L.take at_ ++ (L.drop at_ ++ [(n : Int) + 1]) = L ++ [(n : Int) + 1] := by rw [← List.append_assoc, List.take_append_drop]
  rwa [h2] at h1
theorem upTo_mem {n : Nat} {x : Int} : x ∈ upTo n ↔ 1 ≤ x ∧ x ≤ n := by
  simp only [upTo, List.mem_map, List.mem_range]
  constructor
  · rintro ⟨i, hi, rfl⟩; omega
  · rintro ⟨h1, h2⟩; exact ⟨(x - 1).toNat, by omega, by omega⟩

theorem c_l2Draw {w0 w : World} {c : Addr} (hc : Cur w0 w c) {n : Nat} (hn : n ≤ 200) :
    Calls PP F.spec_l2Draw #[.pointer (some c), vI n] w fun e w' => ∃ (s : Sl) (L : List Int), e = .returned s.v ∧ OwnI w' w.heap.size s L ∧ L.Perm (upTo n) ∧ Cur w0 w' c ∧ Keeps (CS c) w w' := by
  have hcl := hc.lt
  refine spec_l2Draw.calls c n ?_
  rw [spec_l2Draw.E_s]
  refine lit0 oneInt (B := w.heap.size) (Nat.le_refl _) ?_
  intro o w1 ho hg1 _
  have hb1 := below_of_grow hg1
  refine spec_l2Draw.L3_rule _ _ _ _ _ _ (I := fun o k w' => 1 ≤ k ∧ k ≤ n + 1 ∧ Cur w0 w' c ∧ Keeps (CS c) w w' ∧ ∃ L : List Int, OwnI w' w.heap.size o L ∧ L.Perm (upTo (k - 1).toNat)) (μ := fun _ k _ => (n + 1 - k).toNat)
    ⟨by omega, by omega, hc.grow hb1, keeps_below hb1 _, [], by simpa [OwnI] using ho, by simp [upTo]⟩ ?_
  rintro o k w2 ⟨hk1, hk, hc2, hkp2, L, hoL, hp⟩
  have hlen : L.length = (k - 1).toNat := by rw [hp.length_eq, upTo_length]
  have hon : o.n = L.length := by have := hoL.n; simpa using this
  rw [spec_l2Draw.B3_s]
  refine bif_dec (fun h3 => ?_) (fun h3 => ?_)
  · rw [hon, w64_id (n := (L.length : Int) + 1) (by omega) (by omega)]
    refine (c_l1Below hc2 (by omega)).mono ?_
    rintro e w3 ⟨at_, rfl, h0, h1, hc3, hk3⟩
    refine ⟨at_, rfl, ?_⟩
    have h1 : at_ ≤ L.length := by omega
    have ho3 : OwnI w3 w.heap.size o L := Own.curs hoL hk3 hcl.2
    have hkp3 := hkp2.trans hk3
    have hsz3 := hkp3.size
    refine lit0 oneInt (B := w3.heap.size) (Nat.le_refl _) ?_
    intro r w4 hr hg4 _
    have hb34 := below_of_grow hg4
    have ho4 := Own.grow ho3 hb34
    refine Row.cut ho4.row (by simpa using h0) (by simp <;> omega) (by simp <;> omega) fun s16 hs16 => ?_
    have e2 : (List.take ((none : Option Int).getD (o.n : Int)).toNat (L.map vI)).drop ((some at_).getD 0).toNat = (L.drop at_.toNat).map vI := by
      rw [hon]; simp [List.map_drop, List.take_of_length_le]
    rw [e2] at hs16
    refine append_row oneInt hr (by have := hb34.size; omega) hs16 (fun v hv => by obtain ⟨x, _, rfl⟩ := List.mem_map.1 hv; exact One.int x) (by simp; omega) ?_
    intro r2 w5 hr2 hg5 _ _
    rw [List.nil_append] at hr2
    have hb35 := hb34.grown hg5 hb34.size (fun g hg => (hr.lt g hg).1)
    have ho5 := Own.grow ho3 hb35
    have hc5 := hc3.grow hb35
    have hkp5 := hkp3.trans (keeps_below hb35 (CS c))
    refine Own.pop ho5 h0 (by rw [List.length_map]; omega) fun s20 hs20 hblk => ?_
    rw [← List.map_take] at hs20
    have hs20 : OwnI w5 w.heap.size s20 (L.take at_.toNat) := hs20
    refine append_int hs20 hkp5.size (by rw [List.length_take]; omega) ?_
    intro o7 w7 ho7 hg7 hn7
    have h57 : Below w.heap.size w5 w7 := (Below.refl _ _).grown hg7 hkp5.size (fun g hg => (hs20.lt g hg).1)
    have hc7 := hc5.keeps (keeps_grown hg7) (fun k hk => by have := (hs20.lt k hk).1; omega)
    have hlt3 : ∀ g, o.blk = some g → g < w3.heap.size := fun g hg => (ho3.lt g hg).2
    have hr7 : Own w7 w3.heap.size T_int r2 ((L.drop at_.toNat).map vI) := Own.keeps hr2 (keeps_grown hg7) (fun g hg hg2 => by
      rw [hblk] at hg2; have := hlt3 g hg2; have := (hr2.lt g hg).1; omega)
    refine append_row oneInt ho7 (Nat.le_trans hkp5.size h57.size) hr7.row (fun v hv => by obtain ⟨x, _, rfl⟩ := List.mem_map.1 hv; exact One.int x) (by simp; omega) ?_
    intro o8 w8 ho8 hg8 _ _
    rw [← List.map_append] at ho8
    have h78 : Below w.heap.size w7 w8 := (Below.refl _ _).grown hg8 (Nat.le_trans hkp5.size h57.size) (fun g hg => (ho7.lt g hg).1)
    have hc8 := hc7.keeps (keeps_grown hg8) (fun k hk => by have := (ho7.lt k hk).1; omega)
    have hkp8 : Keeps (CS c) w w8 := by
      have h58 := h57.trans h78
      exact ⟨h58.os.trans hkp5.os, h58.tape.trans hkp5.tape, h58.output.trans hkp5.output, Nat.le_trans hkp5.size h58.size, fun x hx hn => (h58.block x hx).trans (hkp5.block x hx hn)⟩
    refine ⟨o8, k + 1, by rw [w64_succ (by omega) (by omega)], ⟨by omega, by omega, hc8, hkp8, _, ho8, ?_⟩, by omega⟩
    have := ins_perm (at_ := at_.toNat) hp
    rw [show (((k - 1).toNat : Nat) : Int) + 1 = k by omega, show (k - 1).toNat + 1 = (k + 1 - 1).toNat by omega] at this
    exact this
  · rw [spec_l2Draw.A3_0_s]
    rw [show (k - 1).toNat = n by omega] at hp
    exact ⟨o, L, rfl, hoL, hp, hc2, hkp2⟩
/-- A literal of ints. -/
theorem litL {w : World} {B : Nat} (hB : B ≤ w.heap.size) (n : Nat) (parts : Array (Nat × Value)) (L : List Int) (h0 : 0 < n) (hn : L.length = n) (hm : n ≤ 1000)
    (hf : Instr.fill (fun i => some (i * 1, 1)) ((Array.range (n * 1)).map ((vI 0).cells[· % (vI 0).cells.size]!)) parts.toList = some (L.map vI).toArray) {K : Sl → World → Prop}
    (h : ∀ s w', OwnI w' B s L → Below w.heap.size w w' → K s w') : sem1 .sl PP (Instr.buildSlice T_Sint n parts) w K := by
  obtain ⟨i, hu, hi, hz, hs, hb, hzc⟩ := oneInt
  have hrun : (Instr.buildSlice T_Sint n parts).run PP w = .ok (.slice (some ⟨w.heap.size, 0, none⟩) n n) (w.alloc (.cells (L.map vI).toArray T_int)) := by
    refine run_buildSlice w T_Sint T_int n parts (L.map vI).toArray i (vI 0) hu hi hz (by rw [hs]; omega) (by rw [hs]; omega) ?_
    rw [hs]
    exact hf
  exact ⟨⟨some ⟨w.heap.size, 0, none⟩, n, n⟩, _, hrun, h _ _ ⟨by simp [hn], Nat.le_refl _, by simp only [maxLen]; omega, .inr ⟨_, _, rfl, hB, heap_alloc_new w _, by simp [hn], by
    show (L.map vI).toArray.toList.take n = L.map vI
    exact List.take_of_length_le (by simp [hn])⟩⟩ (below_of_grow (World.grownBy_alloc w _ none))⟩
theorem c_l2Any {w0 w : World} {c : Addr} (hc : Cur w0 w c) :
    Calls PP F.spec_l2Any #[.pointer (some c)] w fun e w' => ∃ (s : Sl) (L : List Int) (n : Nat), e = .returned s.v ∧ OwnI w' w.heap.size s L ∧ L.Perm (upTo n) ∧ n ≤ 8 ∧ Cur w0 w' c ∧ Keeps (CS c) w w' := by
  have hcl := hc.lt
  refine spec_l2Any.calls c ?_
  rw [spec_l2Any.E_s]
  refine litL (B := w.heap.size) (Nat.le_refl _) 11 _ [0, 1, 2, 3, 4, 5, 5, 6, 6, 7, 8] (by omega) rfl (by omega) (by kernel_rfl) ?_
  intro t w1 ht hb1
  have hc1 := hc.grow hb1
  refine (c_l1PickInt hc1 (L := [0, 1, 2, 3, 4, 5, 5, 6, 6, 7, 8]) (fun w' hk => (Own.curs ht hk hcl.2).row) (by simp) (by simp)).mono ?_
  rintro e w2 ⟨x, rfl, hx, hc2, hk2⟩
  refine ⟨x, rfl, ?_⟩
  have hx : 0 ≤ x ∧ x ≤ 8 := by simp at hx; omega
  obtain ⟨n, rfl⟩ : ∃ n : Nat, x = n := ⟨x.toNat, by omega⟩
  have hk02 := (keeps_below hb1 (CS c)).trans hk2
  refine (c_l2Draw hc2 (n := n) (by omega)).mono ?_
  rintro e w3 ⟨s, L, rfl, hs, hp, hc3, hk3⟩
  exact ⟨s, rfl, s, L, n, rfl, hs.mono hk02.size, hp, by omega, hc3, hk02.trans hk3⟩
/-- What a list is that is a permutation mostly. -/
def Bent (L : List Int) : Prop := L.length ≤ 9 ∧ ∀ x ∈ L, -1 ≤ x ∧ x ≤ 11
theorem bent_of {L : List Int} {n : Nat} (h : L.Perm (upTo n)) (hn : n ≤ 8) : L.length ≤ 8 ∧ ∀ x ∈ L, -1 ≤ x ∧ x ≤ 11 :=
  ⟨by rw [h.length_eq, upTo_length]; exact hn, fun x hx => by have := upTo_mem.1 (h.mem_iff.1 hx); omega⟩
theorem c_l2Bent {w0 w : World} {c : Addr} (hc : Cur w0 w c) :
    Calls PP F.spec_l2Bent #[.pointer (some c)] w fun e w' => ∃ (s : Sl) (L : List Int), e = .returned s.v ∧ OwnI w' w.heap.size s L ∧ Bent L ∧ Cur w0 w' c ∧ Keeps (CS c) w w' := by
  have hcl := hc.lt
  refine spec_l2Bent.calls c ?_
  rw [spec_l2Bent.E_s]
  refine (c_l2Any hc).mono ?_
  rintro e w1 ⟨s, L, n, rfl, hs, hp, hn, hc1, hk1⟩
  refine ⟨s, rfl, ?_⟩
  obtain ⟨hl, hx⟩ := bent_of hp hn
  have hsn : s.n = L.length := by have := hs.n; simpa using this
  refine (c_l1Below hc1 (n := 14) (by omega)).mono ?_
  rintro e w2 ⟨x, rfl, _, _, hc2, hk2⟩
  refine ⟨x, rfl, ?_⟩
  have hs2 := Own.curs hs hk2 hcl.2
  have hk12 := hk1.trans hk2
  have asis : ∃ (t : Sl) (M : List Int), Ending.returned s.v = .returned t.v ∧ OwnI w2 w.heap.size t M ∧ Bent M ∧ Cur w0 w2 c ∧ Keeps (CS c) w w2 := ⟨s, L, rfl, hs2, ⟨by omega, hx⟩, hc2, hk12⟩
  refine bif_intro (fun h => ?_) (fun h => ?_)
  · refine (c_l1Below hc2 (n := 12) (by omega)).mono ?_
    rintro e w3 ⟨y, rfl, hy0, hy1, hc3, hk3⟩
    refine ⟨y, rfl, ?_⟩
    have hk13 := hk12.trans hk3
    have ey := w64_id (n := y - 1) (by omega) (by omega)
    dsimp only
    rw [ey]
    refine append_int (Own.curs hs2 hk3 hcl.2) hk13.size (by omega) ?_
    intro s' w4 hs' hg4 _
    have hs3 := Own.curs hs2 hk3 hcl.2
    refine ⟨s', _, rfl, hs', ⟨by simp; omega, fun z hz => ?_⟩, hc3.keeps (keeps_grown hg4) (fun k hk => by have := (hs3.lt k hk).1; omega), ?_⟩
    · rcases List.mem_append.1 hz with hz | hz
      · exact hx z hz
      · simp at hz; omega
    · have h34 : Below w.heap.size w3 w4 := (Below.refl _ _).grown hg4 hk13.size (fun g hg => (hs3.lt g hg).1)
      exact ⟨h34.os.trans hk13.os, h34.tape.trans hk13.tape, h34.output.trans hk13.output, Nat.le_trans hk13.size h34.size, fun x hx hn => (h34.block x hx).trans (hk13.block x hx hn)⟩
  · refine bif_intro (fun h => ?_) (fun h => ?_)
    · refine bif_dec (fun h4 => ?_) (fun h4 => ?_)
      · refine (c_l1Below hc2 (n := 11) (by omega)).mono ?_
        rintro e w3 ⟨y, rfl, hy0, hy1, hc3, hk3⟩
        refine ⟨y, rfl, ?_⟩
        have hk13 := hk12.trans hk3
        have hs3 := Own.curs hs2 hk3 hcl.2
        have ey := w64_id (n := y - 1) (by omega) (by omega)
        dsimp only
        rw [ey]
        refine Own.put hs3 (by omega) (by rw [List.length_map]; omega) ?_
        intro w4 ho4 hg4 _
        have ho4 : OwnI w4 w.heap.size s (L.set 0 (y - 1)) := by simpa [OwnI, List.map_set] using ho4
        refine ⟨s, _, rfl, ho4, ⟨by simp; omega, fun z hz => ?_⟩, hc3.keeps (keeps_grown hg4) (fun k hk => by have := (hs3.lt k hk).1; omega), ?_⟩
        · rcases List.mem_or_eq_of_mem_set hz with hz | hz
          · exact hx z hz
          · omega
        · have h34 : Below w.heap.size w3 w4 := (Below.refl _ _).grown hg4 hk13.size (fun g hg => (hs3.lt g hg).1)
          exact ⟨h34.os.trans hk13.os, h34.tape.trans hk13.tape, h34.output.trans hk13.output, Nat.le_trans hk13.size h34.size, fun x hx hn => (h34.block x hx).trans (hk13.block x hx hn)⟩
      · exact asis
    · exact asis
/-- A draw of such a list, of the bytes handed in. -/
def Drawn (w : World) (e : Ending) (w' : World) : Prop := ∃ (s : Sl) (L : List Int), e = .returned s.v ∧ OwnI w' w.heap.size s L ∧ Bent L ∧ Below w.heap.size w w'
theorem c_bentOf {w : World} {a : Sl} {L : List Int} (ha : RowB w a L) (hL : L.length < 2^60) {K : Sl → World → Prop} (hk : ∀ s M w', OwnI w' w.heap.size s M → Bent M → Below w.heap.size w w' → K s w') :
    call1 .ptr PP F.spec_l1New #[a.v] w fun (c : Option Addr) w1 => call1 .sl PP F.spec_l2Bent #[.pointer c] w1 K := by
  refine (c_l1New ha hL).mono ?_
  rintro e w1 ⟨c, rfl, hc⟩
  refine ⟨some c, rfl, ?_⟩
  refine (c_l2Bent hc).mono ?_
  rintro e w2 ⟨s, M, rfl, hs, hM, hc2, hk2⟩
  exact ⟨s, rfl, hk s M w2 (hs.mono hc.below.size) hM hc2.below⟩
end Go.Proofs.YtlcemelmnkipmaaGreat

/- What the statement hands in: an argument's reading as a row of bytes. -/
namespace Go.Proofs.YtlcemelmnkipmaaGreat
open Go Go.RowKit Go.ChangeShapes Go.WideShapes

theorem trod_bytes {P : Program} {H : Type} {enc : TypeId × Value → H} {W : World} {r : Reach} {b0 : Nat} {t e : TypeId} {v : Value} {d : DataW H} {ps : List MemPlace} (ht : P.underlying t = some (.slice e)) (he : P.underlying e = some (.int .u8)) (hc : P.cellsOf e = 1)
    (hval : Value.okWide P W r b0 t v) (h : DataW.Trod enc P W 0 (fun _ => true) true t v d ps) :
    ∃ (s : Sl) (L : List Int), v = s.v ∧ RowB W s L ∧ L.length ≤ maxLen := by
  obtain ⟨a, len, cap, rfl⟩ := okWide_slice ht hval
  obtain ⟨fuel, hf⟩ := h
  rcases open_ints ht he hc hf with ⟨hcs, hx⟩ | ⟨ad, len', cap', zs, hcs, _, hl, hm, hz, hx, hcell, hw⟩
  · simp [Value.cells] at hcs
    obtain ⟨rfl, rfl, rfl⟩ := hcs
    exact ⟨Sl.nil, [], rfl, ⟨rfl, Nat.le_refl _, fun i v hv => by simp at hv⟩, by simp⟩
  · simp [Value.cells] at hcs
    obtain ⟨rfl, rfl, rfl⟩ := hcs
    have hzl : zs.length = cap := by simpa using hz
    refine ⟨⟨some ad, len, cap⟩, zs.take len, rfl, ⟨by simp; omega, hl, fun i u hu => ⟨ad, rfl, ?_⟩⟩, by simp; omega⟩
    rw [List.getElem?_map, List.getElem?_take] at hu
    split at hu
    · rename_i hi
      have := hcell i (by omega)
      rw [this]
      rw [List.getElem?_eq_getElem (by omega)] at hu
      simp at hu
      rw [← hu]
      simp [List.getD_eq_getElem?_getD, List.getElem?_eq_getElem (show i < zs.length by omega)]
    · simp at hu
end Go.Proofs.YtlcemelmnkipmaaGreat

/- What each function does, step by step, written by a program (Gen.lean); each equation is checked by the kernel. -/
namespace Go.Proofs.YtlcemelmnkipmaaGreat
open Go
set_option linter.unusedVariables false
set_option maxRecDepth 100000
namespace impl_PathOf
@[reducible] def cfg : Cfg := ⟨58, [(10, [0, 4, 5, 7, 8, 19, 20, 21, 29, 30, 31]), (6, [0, 4, 5, 19, 20, 21])], [(3, [0, 4, 5, 7, 8, 19, 20, 21, 29, 30, 31]), (2, [0, 4, 5, 8, 19, 20, 21]), (1, [0, 4, 5, 19, 20, 21]), (0, [4])], [(17, [0, 4, 5, 8, 19, 20, 21])], [2, 3], [], [13, 32, 63, 81], [41, 4, 46, 44, 48]⟩
def q6 (pr : Prims) (R : Ending → World → Prop) : Exit → Env → World → Prop := fun ex e w => normQ ex (fun e w => contE pr cfg (sub (codeOf Tryz.f6) [1, 1, 1, 1, 1]) (fun e w => wpC pr PP cfg (DD pr) (sub (codeOf Tryz.f6) [1, 1, 1, 1, 1]) (retQ Tryz.f6.results.toList R) e w) e w) (retQ Tryz.f6.results.toList R) e w
def q7 (pr : Prims) (R : Ending → World → Prop) : Exit → Env → World → Prop := fun ex e w => blockQ ex 0 (q6 pr R) e w
def q8 (pr : Prims) (k : Env → World → Prop) (Q : Exit → Env → World → Prop) : Exit → Env → World → Prop := fun ex e w => normQ ex (fun e w => contE pr cfg (sub (codeOf Tryz.f6) [1, 1, 1, 1, 0, 1, 0, 0, 1, 1, 1]) (fun e w => wpC pr PP cfg (DD pr) (sub (codeOf Tryz.f6) [1, 1, 1, 1, 0, 1, 0, 0, 1, 1, 1]) (fun ex e w => normQ ex (fun e' w' => k (Env.restr e' (lookN cfg.loops (keyOf (sub (codeOf Tryz.f6) [1, 1, 1, 1, 0, 1, 0, 0])))) w') Q e w) e w) e w) (fun ex e w => normQ ex (fun e' w' => k (Env.restr e' (lookN cfg.loops (keyOf (sub (codeOf Tryz.f6) [1, 1, 1, 1, 0, 1, 0, 0])))) w') Q e w) e w
def q9 (pr : Prims) (k : Env → World → Prop) (Q : Exit → Env → World → Prop) : Exit → Env → World → Prop := fun ex e w => blockQ ex 1 (q8 pr k Q) e w
def q12 (pr : Prims) (k : Env → World → Prop) (Q : Exit → Env → World → Prop) : Exit → Env → World → Prop := fun ex e w => normQ ex (fun e w => contE pr cfg (sub (codeOf Tryz.f6) [1, 1, 1, 1, 0, 1, 0, 0, 1, 1, 0, 0, 1, 1, 1]) (fun e w => wpC pr PP cfg (DD pr) (sub (codeOf Tryz.f6) [1, 1, 1, 1, 0, 1, 0, 0, 1, 1, 0, 0, 1, 1, 1]) (q9 pr k Q) e w) e w) (q9 pr k Q) e w
def q14 (pr : Prims) (k : Env → World → Prop) (Q : Exit → Env → World → Prop) : Exit → Env → World → Prop := fun ex e w => blockQ ex 2 (q12 pr k Q) e w
def q17 (pr : Prims) (k : Env → World → Prop) (Q : Exit → Env → World → Prop) : Exit → Env → World → Prop := fun ex e w => normQ ex (fun e w => contE pr cfg (sub (codeOf Tryz.f6) [1, 1, 1, 1, 0, 1, 0, 0, 1, 1, 0, 0, 1, 1, 1, 1]) (fun e w => wpC pr PP cfg (DD pr) (sub (codeOf Tryz.f6) [1, 1, 1, 1, 0, 1, 0, 0, 1, 1, 0, 0, 1, 1, 1, 1]) (q9 pr k Q) e w) e w) (q9 pr k Q) e w
def emb6 (p_0 : Sl) (out_4 : ByteArray) (h_5 : Int) (t19 : Sl) (t20 : Int) (t21 : Int) : Env := [(0, Sl.v p_0), (4, .string out_4), (5, vI h_5), (19, Sl.v t19), (20, vI t20), (21, vI t21)]
def emb10 (p_0 : Sl) (out_4 : ByteArray) (h_5 : Int) (v_7 : Int) (want_8 : Int) (t19 : Sl) (t20 : Int) (t21 : Int) (t29 : Sl) (t30 : Int) (t31 : Int) : Env := [(0, Sl.v p_0), (4, .string out_4), (5, vI h_5), (7, vI v_7), (8, vI want_8), (19, Sl.v t19), (20, vI t20), (21, vI t21), (29, Sl.v t29), (30, vI t30), (31, vI t31)]
def x2 (p_0 : Sl) (out_4 : ByteArray) (h_5 : Int) (want_8 : Int) (t19 : Sl) (t20 : Int) (t21 : Int) : Env := [(0, Sl.v p_0), (4, .string out_4), (5, vI h_5), (8, vI want_8), (19, Sl.v t19), (20, vI t20), (21, vI t21)]
def j17 (p_0 : Sl) (out_4 : ByteArray) (h_5 : Int) (want_8 : Int) (t19 : Sl) (t20 : Int) (t21 : Int) : Env := [(0, Sl.v p_0), (4, .string out_4), (5, vI h_5), (8, vI want_8), (19, Sl.v t19), (20, vI t20), (21, vI t21)]
def x0 (out_4 : ByteArray) : Env := [(4, .string out_4)]
def S10 (pr : Prims) (Q : Exit → Env → World → Prop) : (Env → World → Prop) → Env → World → Prop := fun k e w => wpC pr PP cfg (DD pr) (sub (codeOf Tryz.f6) [1, 1, 1, 1, 0, 1, 0, 0, 1, 1, 0, 0, 1, 1, 0, 1, 0, 0]) (fun ex e w => normQ ex (fun e' w' => k (Env.restr e' (lookN cfg.loops (keyOf (sub (codeOf Tryz.f6) [1, 1, 1, 1, 0, 1, 0, 0, 1, 1, 0, 0, 1, 1, 0, 1, 0, 0])))) w') Q e w) e w
def S6 (pr : Prims) (Q : Exit → Env → World → Prop) : (Env → World → Prop) → Env → World → Prop := fun k e w => wpC pr PP cfg (DD pr) (sub (codeOf Tryz.f6) [1, 1, 1, 1, 0, 1, 0, 0]) (fun ex e w => normQ ex (fun e' w' => k (Env.restr e' (lookN cfg.loops (keyOf (sub (codeOf Tryz.f6) [1, 1, 1, 1, 0, 1, 0, 0])))) w') Q e w) e w
def B10 (pr : Prims) (p_0 : Sl) (out_4 : ByteArray) (h_5 : Int) (v_7 : Int) (want_8 : Int) (t19 : Sl) (t20 : Int) (t21 : Int) (t29 : Sl) (t30 : Int) (t31 : Int) (w : World) (k : Env → World → Prop) (Q : Exit → Env → World → Prop) : Prop :=
  S10 pr Q k (emb10 p_0 out_4 h_5 v_7 want_8 t19 t20 t21 t29 t30 t31) w
def L10 (pr : Prims) (p_0 : Sl) (out_4 : ByteArray) (h_5 : Int) (v_7 : Int) (want_8 : Int) (t19 : Sl) (t20 : Int) (t21 : Int) (t29 : Sl) (t30 : Int) (t31 : Int) (w : World) (Q : Exit → Env → World → Prop) : Prop :=
  pr.loop (S10 pr Q) (emb10 p_0 out_4 h_5 v_7 want_8 t19 t20 t21 t29 t30 t31) w
def J17 (pr : Prims) (p_0 : Sl) (out_4 : ByteArray) (h_5 : Int) (want_8 : Int) (t19 : Sl) (t20 : Int) (t21 : Int) (w : World) (k : Env → World → Prop) (Q : Exit → Env → World → Prop) : Prop :=
  pr.seg (fun e w => wpC pr PP cfg (DD pr) (sub (codeOf Tryz.f6) [1, 1, 1, 1, 0, 1, 0, 0, 1, 1, 0, 0, 1, 1, 1, 1]) (q9 pr k Q) e w) (j17 p_0 out_4 h_5 want_8 t19 t20 t21) w
def B6 (pr : Prims) (p_0 : Sl) (out_4 : ByteArray) (h_5 : Int) (t19 : Sl) (t20 : Int) (t21 : Int) (w : World) (k : Env → World → Prop) (Q : Exit → Env → World → Prop) : Prop :=
  S6 pr Q k (emb6 p_0 out_4 h_5 t19 t20 t21) w
def L6 (pr : Prims) (p_0 : Sl) (out_4 : ByteArray) (h_5 : Int) (t19 : Sl) (t20 : Int) (t21 : Int) (w : World) (Q : Exit → Env → World → Prop) : Prop :=
  pr.loop (S6 pr Q) (emb6 p_0 out_4 h_5 t19 t20 t21) w
def E (pr : Prims) (p_0 : Sl) (w : World) (R : Ending → World → Prop) : Prop :=
  wpC pr PP cfg (DD pr) (codeOf Tryz.f6) (retQ Tryz.f6.results.toList R) (argE 0 [Sl.v p_0]) w
theorem B10_eq (pr : Prims) (p_0 : Sl) (out_4 : ByteArray) (h_5 : Int) (v_7 : Int) (want_8 : Int) (t19 : Sl) (t20 : Int) (t21 : Int) (t29 : Sl) (t30 : Int) (t31 : Int) (w : World) (k : Env → World → Prop) (Q : Exit → Env → World → Prop) : B10 pr p_0 out_4 h_5 v_7 want_8 t19 t20 t21 t29 t30 t31 w k Q = (
  bif decide (t31 < t30) then (
  pr.idxK 1 t29 t31 fun (a15 : Addr) =>
  pr.load1 (.int .i64) a15 w fun (ξ16 : Int) =>
  bif decide (ξ16 > v_7) then (
  k (emb10 p_0 out_4 h_5 v_7 (w64 (want_8 + 1)) t19 t20 t21 t29 t30 (w64 (t31 + 1))) w)
  else (
  k (emb10 p_0 out_4 h_5 v_7 want_8 t19 t20 t21 t29 t30 (w64 (t31 + 1))) w))
  else (
  Q (.exit 2) (x2 p_0 out_4 h_5 want_8 t19 t20 t21) w)) := by kernel_rfl
theorem B10_s (p_0 : Sl) (out_4 : ByteArray) (h_5 : Int) (v_7 : Int) (want_8 : Int) (t19 : Sl) (t20 : Int) (t21 : Int) (t29 : Sl) (t30 : Int) (t31 : Int) (w : World) (k : Env → World → Prop) (Q : Exit → Env → World → Prop) : B10 std p_0 out_4 h_5 v_7 want_8 t19 t20 t21 t29 t30 t31 w k Q = (
  bif decide (t31 < t30) then (
  idxK 1 t29 t31 fun (a15 : Addr) =>
  load1 (.int .i64) a15 w fun (ξ16 : Int) =>
  bif decide (ξ16 > v_7) then (
  k (emb10 p_0 out_4 h_5 v_7 (w64 (want_8 + 1)) t19 t20 t21 t29 t30 (w64 (t31 + 1))) w)
  else (
  k (emb10 p_0 out_4 h_5 v_7 want_8 t19 t20 t21 t29 t30 (w64 (t31 + 1))) w))
  else (
  Q (.exit 2) (x2 p_0 out_4 h_5 want_8 t19 t20 t21) w)) := B10_eq std p_0 out_4 h_5 v_7 want_8 t19 t20 t21 t29 t30 t31 w k Q
theorem L10_rule (p_0 : Sl) (out_4 : ByteArray) (h_5 : Int) (v_7 : Int) (want_8 : Int) (t19 : Sl) (t20 : Int) (t21 : Int) (t29 : Sl) (t30 : Int) (t31 : Int) (w : World) (Q : Exit → Env → World → Prop) (I : Int → Int → World → Prop) (μ : Int → Int → World → Nat) (h0 : I want_8 t31 w)
    (h : ∀ (want_8 : Int) (t31 : Int) (w' : World), I want_8 t31 w' → B10 std p_0 out_4 h_5 v_7 want_8 t19 t20 t21 t29 t30 t31 w' (fun e2 w2 => ∃ want_8_n t31_n, e2 = emb10 p_0 out_4 h_5 v_7 want_8_n t19 t20 t21 t29 t30 t31_n ∧ I want_8_n t31_n w2 ∧ μ want_8_n t31_n w2 < μ want_8 t31 w') Q) :
    L10 std p_0 out_4 h_5 v_7 want_8 t19 t20 t21 t29 t30 t31 w Q := by
  unfold L10
  refine LoopE.intro (σ := Int × Int) (step := S10 std Q) (fun s => emb10 p_0 out_4 h_5 v_7 s.1 t19 t20 t21 t29 t30 s.2) (fun s w => I s.1 s.2 w) (fun s w => μ s.1 s.2 w) (want_8, t31) rfl h0 ?_
  intro s w' hI
  have h1 := h s.1 s.2 w' hI
  unfold B10 at h1
  simp only [Prod.exists]
  exact h1
theorem J17_gen (pr : Prims) (p_0 : Sl) (out_4 : ByteArray) (h_5 : Int) (want_8 : Int) (t19 : Sl) (t20 : Int) (t21 : Int) (w : World) (k : Env → World → Prop) (Q : Exit → Env → World → Prop) : wpC pr PP cfg (DD pr) (sub (codeOf Tryz.f6) [1, 1, 1, 1, 0, 1, 0, 0, 1, 1, 0, 0, 1, 1, 1, 1]) (q9 pr k Q) (j17 p_0 out_4 h_5 want_8 t19 t20 t21) w = (
  ((out_4.size + (⟨#[68]⟩ : ByteArray).size : Nat) : Int) ≤ IntKind.i64.max ∧
  k (emb6 p_0 (out_4 ++ (⟨#[68]⟩ : ByteArray)) (w64 ((if want_8 > h_5 then want_8 else h_5) - 1)) t19 t20 (w64 (t21 + 1))) w) := by kernel_rfl
theorem J17_s (p_0 : Sl) (out_4 : ByteArray) (h_5 : Int) (want_8 : Int) (t19 : Sl) (t20 : Int) (t21 : Int) (w : World) (k : Env → World → Prop) (Q : Exit → Env → World → Prop) : J17 std p_0 out_4 h_5 want_8 t19 t20 t21 w k Q = (
  ((out_4.size + (⟨#[68]⟩ : ByteArray).size : Nat) : Int) ≤ IntKind.i64.max ∧
  k (emb6 p_0 (out_4 ++ (⟨#[68]⟩ : ByteArray)) (w64 ((if want_8 > h_5 then want_8 else h_5) - 1)) t19 t20 (w64 (t21 + 1))) w) := J17_gen std p_0 out_4 h_5 want_8 t19 t20 t21 w k Q
theorem A10_2_eq (pr : Prims) (p_0 : Sl) (out_4 : ByteArray) (h_5 : Int) (want_8 : Int) (t19 : Sl) (t20 : Int) (t21 : Int) (w : World) (k : Env → World → Prop) (Q : Exit → Env → World → Prop) : (q14 pr k Q) (.exit 2) (x2 p_0 out_4 h_5 want_8 t19 t20 t21) w = (
  bif decide (want_8 > h_5) then (
  pr.call1 .str PP F.strings_Repeat #[.string (⟨#[85]⟩ : ByteArray), vI (w64 (want_8 - h_5))] w fun (ρ18 : ByteArray) ω19 =>
  ((out_4.size + ρ18.size : Nat) : Int) ≤ IntKind.i64.max ∧
  J17 pr p_0 (out_4 ++ ρ18) h_5 want_8 t19 t20 t21 ω19 k Q)
  else (
  J17 pr p_0 out_4 h_5 want_8 t19 t20 t21 w k Q)) := by kernel_rfl
theorem A10_2_s (p_0 : Sl) (out_4 : ByteArray) (h_5 : Int) (want_8 : Int) (t19 : Sl) (t20 : Int) (t21 : Int) (w : World) (k : Env → World → Prop) (Q : Exit → Env → World → Prop) : (q14 std k Q) (.exit 2) (x2 p_0 out_4 h_5 want_8 t19 t20 t21) w = (
  bif decide (want_8 > h_5) then (
  call1 .str PP F.strings_Repeat #[.string (⟨#[85]⟩ : ByteArray), vI (w64 (want_8 - h_5))] w fun (ρ18 : ByteArray) ω19 =>
  ((out_4.size + ρ18.size : Nat) : Int) ≤ IntKind.i64.max ∧
  J17 std p_0 (out_4 ++ ρ18) h_5 want_8 t19 t20 t21 ω19 k Q)
  else (
  J17 std p_0 out_4 h_5 want_8 t19 t20 t21 w k Q)) := A10_2_eq std p_0 out_4 h_5 want_8 t19 t20 t21 w k Q
theorem B6_eq (pr : Prims) (p_0 : Sl) (out_4 : ByteArray) (h_5 : Int) (t19 : Sl) (t20 : Int) (t21 : Int) (w : World) (k : Env → World → Prop) (Q : Exit → Env → World → Prop) : B6 pr p_0 out_4 h_5 t19 t20 t21 w k Q = (
  bif decide (t21 < t20) then (
  pr.idxK 1 t19 t21 fun (a10 : Addr) =>
  pr.load1 (.int .i64) a10 w fun (ξ11 : Int) =>
  pr.cutK 1 p_0 (some (w64 (t21 + 1))) none fun (s13 : Sl) =>
  L10 pr p_0 out_4 h_5 ξ11 1 t19 t20 t21 s13 (s13.n : Int) 0 w (q14 pr k Q))
  else (
  Q (.exit 0) (x0 out_4) w)) := by kernel_rfl
theorem B6_s (p_0 : Sl) (out_4 : ByteArray) (h_5 : Int) (t19 : Sl) (t20 : Int) (t21 : Int) (w : World) (k : Env → World → Prop) (Q : Exit → Env → World → Prop) : B6 std p_0 out_4 h_5 t19 t20 t21 w k Q = (
  bif decide (t21 < t20) then (
  idxK 1 t19 t21 fun (a10 : Addr) =>
  load1 (.int .i64) a10 w fun (ξ11 : Int) =>
  cutK 1 p_0 (some (w64 (t21 + 1))) none fun (s13 : Sl) =>
  L10 std p_0 out_4 h_5 ξ11 1 t19 t20 t21 s13 (s13.n : Int) 0 w (q14 std k Q))
  else (
  Q (.exit 0) (x0 out_4) w)) := B6_eq std p_0 out_4 h_5 t19 t20 t21 w k Q
theorem L6_rule (p_0 : Sl) (out_4 : ByteArray) (h_5 : Int) (t19 : Sl) (t20 : Int) (t21 : Int) (w : World) (Q : Exit → Env → World → Prop) (I : ByteArray → Int → Int → World → Prop) (μ : ByteArray → Int → Int → World → Nat) (h0 : I out_4 h_5 t21 w)
    (h : ∀ (out_4 : ByteArray) (h_5 : Int) (t21 : Int) (w' : World), I out_4 h_5 t21 w' → B6 std p_0 out_4 h_5 t19 t20 t21 w' (fun e2 w2 => ∃ out_4_n h_5_n t21_n, e2 = emb6 p_0 out_4_n h_5_n t19 t20 t21_n ∧ I out_4_n h_5_n t21_n w2 ∧ μ out_4_n h_5_n t21_n w2 < μ out_4 h_5 t21 w') Q) :
    L6 std p_0 out_4 h_5 t19 t20 t21 w Q := by
  unfold L6
  refine LoopE.intro (σ := ByteArray × Int × Int) (step := S6 std Q) (fun s => emb6 p_0 s.1 s.2.1 t19 t20 s.2.2) (fun s w => I s.1 s.2.1 s.2.2 w) (fun s w => μ s.1 s.2.1 s.2.2 w) (out_4, h_5, t21) rfl h0 ?_
  intro s w' hI
  have h1 := h s.1 s.2.1 s.2.2 w' hI
  unfold B6 at h1
  simp only [Prod.exists]
  exact h1
theorem A6_0_eq (pr : Prims) (out_4 : ByteArray) (w : World) (R : Ending → World → Prop) : (q7 pr R) (.exit 0) (x0 out_4) w = (
  R (.returned (.tuple #[.string out_4, .bool true])) w) := by kernel_rfl
theorem A6_0_s (out_4 : ByteArray) (w : World) (R : Ending → World → Prop) : (q7 std R) (.exit 0) (x0 out_4) w = (
  R (.returned (.tuple #[.string out_4, .bool true])) w) := A6_0_eq std out_4 w R
theorem E_eq (pr : Prims) (p_0 : Sl) (w : World) (R : Ending → World → Prop) : E pr p_0 w R = (
  pr.call1 .bool PP F.impl_IsPerm #[Sl.v p_0] w fun (ρ0 : Bool) ω1 =>
  bif !ρ0 then (
  R (.returned (.tuple #[.string (⟨#[]⟩ : ByteArray), .bool false])) ω1)
  else (
  pr.sem1 .sl PP (Instr.buildSlice T_Sint 3 #[(0, vI 1), (1, vI 3), (2, vI 2)]) ω1 fun (ρ2 : Sl) ω3 =>
  pr.call1 .bool PP F.impl_has #[Sl.v p_0, Sl.v ρ2, Sl.v Sl.nil] ω3 fun (ρ4 : Bool) ω5 =>
  bif ρ4 then (
  R (.returned (.tuple #[.string (⟨#[]⟩ : ByteArray), .bool false])) ω5)
  else (
  L6 pr p_0 (⟨#[]⟩ : ByteArray) 0 p_0 (p_0.n : Int) 0 ω5 (q7 pr R)))) := by kernel_rfl
theorem E_s (p_0 : Sl) (w : World) (R : Ending → World → Prop) : E std p_0 w R = (
  call1 .bool PP F.impl_IsPerm #[Sl.v p_0] w fun (ρ0 : Bool) ω1 =>
  bif !ρ0 then (
  R (.returned (.tuple #[.string (⟨#[]⟩ : ByteArray), .bool false])) ω1)
  else (
  sem1 .sl PP (Instr.buildSlice T_Sint 3 #[(0, vI 1), (1, vI 3), (2, vI 2)]) ω1 fun (ρ2 : Sl) ω3 =>
  call1 .bool PP F.impl_has #[Sl.v p_0, Sl.v ρ2, Sl.v Sl.nil] ω3 fun (ρ4 : Bool) ω5 =>
  bif ρ4 then (
  R (.returned (.tuple #[.string (⟨#[]⟩ : ByteArray), .bool false])) ω5)
  else (
  L6 std p_0 (⟨#[]⟩ : ByteArray) 0 p_0 (p_0.n : Int) 0 ω5 (q7 std R)))) := E_eq std p_0 w R
theorem drawsOk : drawsOk PP cfg okD (codeOf Tryz.f6) = true := by kernel_rfl
theorem calls (p_0 : Sl) {w : World} {R : Ending → World → Prop} (h : E std p_0 w R) : Calls PP F.impl_PathOf #[Sl.v p_0] w R :=
  calls_of noCount mixed drawOk Tryz.func6 rfl (c := cfg) (args := [Sl.v p_0]) rfl (Nat.le_of_ble_eq_true (by kernel_rfl)) drawsOk h
end impl_PathOf

namespace spec_PathOf
@[reducible] def cfg : Cfg := ⟨36, [(8, [0, 4, 5, 6]), (6, [0, 4, 5, 6])], [(3, [0, 4, 5, 6]), (2, [0, 4, 5, 6]), (1, [0, 4, 5, 6]), (0, [4])], [], [2, 3], [], [13, 32, 63, 81], [41, 4, 46, 44, 48]⟩
def q6 (pr : Prims) (R : Ending → World → Prop) : Exit → Env → World → Prop := fun ex e w => normQ ex (fun e w => contE pr cfg (sub (codeOf Tryz.f7) [1, 1, 1, 1, 1]) (fun e w => wpC pr PP cfg (DD pr) (sub (codeOf Tryz.f7) [1, 1, 1, 1, 1]) (retQ Tryz.f7.results.toList R) e w) e w) (retQ Tryz.f7.results.toList R) e w
def q7 (pr : Prims) (R : Ending → World → Prop) : Exit → Env → World → Prop := fun ex e w => blockQ ex 0 (q6 pr R) e w
def q8 (pr : Prims) (k : Env → World → Prop) (Q : Exit → Env → World → Prop) : Exit → Env → World → Prop := fun ex e w => normQ ex (fun e w => contE pr cfg (sub (codeOf Tryz.f7) [1, 1, 1, 1, 0, 1, 0, 0, 1, 1]) (fun e w => wpC pr PP cfg (DD pr) (sub (codeOf Tryz.f7) [1, 1, 1, 1, 0, 1, 0, 0, 1, 1]) (fun ex e w => normQ ex (fun e' w' => k (Env.restr e' (lookN cfg.loops (keyOf (sub (codeOf Tryz.f7) [1, 1, 1, 1, 0, 1, 0, 0])))) w') Q e w) e w) e w) (fun ex e w => normQ ex (fun e' w' => k (Env.restr e' (lookN cfg.loops (keyOf (sub (codeOf Tryz.f7) [1, 1, 1, 1, 0, 1, 0, 0])))) w') Q e w) e w
def q9 (pr : Prims) (k : Env → World → Prop) (Q : Exit → Env → World → Prop) : Exit → Env → World → Prop := fun ex e w => blockQ ex 1 (q8 pr k Q) e w
def q10 (pr : Prims) (k : Env → World → Prop) (Q : Exit → Env → World → Prop) : Exit → Env → World → Prop := fun ex e w => normQ ex (fun e w => contE pr cfg (sub (codeOf Tryz.f7) [1, 1, 1, 1, 0, 1, 0, 0, 1, 0, 0, 1]) (fun e w => wpC pr PP cfg (DD pr) (sub (codeOf Tryz.f7) [1, 1, 1, 1, 0, 1, 0, 0, 1, 0, 0, 1]) (q9 pr k Q) e w) e w) (q9 pr k Q) e w
def q11 (pr : Prims) (k : Env → World → Prop) (Q : Exit → Env → World → Prop) : Exit → Env → World → Prop := fun ex e w => blockQ ex 2 (q10 pr k Q) e w
def emb6 (p_0 : Sl) (out_4 : ByteArray) (h_5 : Int) (k_6 : Int) : Env := [(0, Sl.v p_0), (4, .string out_4), (5, vI h_5), (6, vI k_6)]
def emb8 (p_0 : Sl) (out_4 : ByteArray) (h_5 : Int) (k_6 : Int) : Env := [(0, Sl.v p_0), (4, .string out_4), (5, vI h_5), (6, vI k_6)]
def x2 (p_0 : Sl) (out_4 : ByteArray) (h_5 : Int) (k_6 : Int) : Env := [(0, Sl.v p_0), (4, .string out_4), (5, vI h_5), (6, vI k_6)]
def x0 (out_4 : ByteArray) : Env := [(4, .string out_4)]
def S8 (pr : Prims) (Q : Exit → Env → World → Prop) : (Env → World → Prop) → Env → World → Prop := fun k e w => wpC pr PP cfg (DD pr) (sub (codeOf Tryz.f7) [1, 1, 1, 1, 0, 1, 0, 0, 1, 0, 0, 0, 0, 0]) (fun ex e w => normQ ex (fun e' w' => k (Env.restr e' (lookN cfg.loops (keyOf (sub (codeOf Tryz.f7) [1, 1, 1, 1, 0, 1, 0, 0, 1, 0, 0, 0, 0, 0])))) w') Q e w) e w
def S6 (pr : Prims) (Q : Exit → Env → World → Prop) : (Env → World → Prop) → Env → World → Prop := fun k e w => wpC pr PP cfg (DD pr) (sub (codeOf Tryz.f7) [1, 1, 1, 1, 0, 1, 0, 0]) (fun ex e w => normQ ex (fun e' w' => k (Env.restr e' (lookN cfg.loops (keyOf (sub (codeOf Tryz.f7) [1, 1, 1, 1, 0, 1, 0, 0])))) w') Q e w) e w
def B8 (pr : Prims) (p_0 : Sl) (out_4 : ByteArray) (h_5 : Int) (k_6 : Int) (w : World) (k : Env → World → Prop) (Q : Exit → Env → World → Prop) : Prop :=
  S8 pr Q k (emb8 p_0 out_4 h_5 k_6) w
def L8 (pr : Prims) (p_0 : Sl) (out_4 : ByteArray) (h_5 : Int) (k_6 : Int) (w : World) (Q : Exit → Env → World → Prop) : Prop :=
  pr.loop (S8 pr Q) (emb8 p_0 out_4 h_5 k_6) w
def B6 (pr : Prims) (p_0 : Sl) (out_4 : ByteArray) (h_5 : Int) (k_6 : Int) (w : World) (k : Env → World → Prop) (Q : Exit → Env → World → Prop) : Prop :=
  S6 pr Q k (emb6 p_0 out_4 h_5 k_6) w
def L6 (pr : Prims) (p_0 : Sl) (out_4 : ByteArray) (h_5 : Int) (k_6 : Int) (w : World) (Q : Exit → Env → World → Prop) : Prop :=
  pr.loop (S6 pr Q) (emb6 p_0 out_4 h_5 k_6) w
def E (pr : Prims) (p_0 : Sl) (w : World) (R : Ending → World → Prop) : Prop :=
  wpC pr PP cfg (DD pr) (codeOf Tryz.f7) (retQ Tryz.f7.results.toList R) (argE 0 [Sl.v p_0]) w
theorem B8_eq (pr : Prims) (p_0 : Sl) (out_4 : ByteArray) (h_5 : Int) (k_6 : Int) (w : World) (k : Env → World → Prop) (Q : Exit → Env → World → Prop) : B8 pr p_0 out_4 h_5 k_6 w k Q = (
  pr.call1 (.int .i64) PP F.spec_l18Later #[Sl.v p_0, vI k_6] w fun (ρ12 : Int) ω13 =>
  bif decide (h_5 < (w64 (ρ12 + 1))) then (
  ((out_4.size + (⟨#[85]⟩ : ByteArray).size : Nat) : Int) ≤ IntKind.i64.max ∧
  k (emb8 p_0 (out_4 ++ (⟨#[85]⟩ : ByteArray)) (w64 (h_5 + 1)) k_6) ω13)
  else (
  Q (.exit 2) (x2 p_0 out_4 h_5 k_6) ω13)) := by kernel_rfl
theorem B8_s (p_0 : Sl) (out_4 : ByteArray) (h_5 : Int) (k_6 : Int) (w : World) (k : Env → World → Prop) (Q : Exit → Env → World → Prop) : B8 std p_0 out_4 h_5 k_6 w k Q = (
  call1 (.int .i64) PP F.spec_l18Later #[Sl.v p_0, vI k_6] w fun (ρ12 : Int) ω13 =>
  bif decide (h_5 < (w64 (ρ12 + 1))) then (
  ((out_4.size + (⟨#[85]⟩ : ByteArray).size : Nat) : Int) ≤ IntKind.i64.max ∧
  k (emb8 p_0 (out_4 ++ (⟨#[85]⟩ : ByteArray)) (w64 (h_5 + 1)) k_6) ω13)
  else (
  Q (.exit 2) (x2 p_0 out_4 h_5 k_6) ω13)) := B8_eq std p_0 out_4 h_5 k_6 w k Q
theorem L8_rule (p_0 : Sl) (out_4 : ByteArray) (h_5 : Int) (k_6 : Int) (w : World) (Q : Exit → Env → World → Prop) (I : ByteArray → Int → World → Prop) (μ : ByteArray → Int → World → Nat) (h0 : I out_4 h_5 w)
    (h : ∀ (out_4 : ByteArray) (h_5 : Int) (w' : World), I out_4 h_5 w' → B8 std p_0 out_4 h_5 k_6 w' (fun e2 w2 => ∃ out_4_n h_5_n, e2 = emb8 p_0 out_4_n h_5_n k_6 ∧ I out_4_n h_5_n w2 ∧ μ out_4_n h_5_n w2 < μ out_4 h_5 w') Q) :
    L8 std p_0 out_4 h_5 k_6 w Q := by
  unfold L8
  refine LoopE.intro (σ := ByteArray × Int) (step := S8 std Q) (fun s => emb8 p_0 s.1 s.2 k_6) (fun s w => I s.1 s.2 w) (fun s w => μ s.1 s.2 w) (out_4, h_5) rfl h0 ?_
  intro s w' hI
  have h1 := h s.1 s.2 w' hI
  unfold B8 at h1
  simp only [Prod.exists]
  exact h1
theorem A8_2_eq (pr : Prims) (p_0 : Sl) (out_4 : ByteArray) (h_5 : Int) (k_6 : Int) (w : World) (k : Env → World → Prop) (Q : Exit → Env → World → Prop) : (q11 pr k Q) (.exit 2) (x2 p_0 out_4 h_5 k_6) w = (
  ((out_4.size + (⟨#[68]⟩ : ByteArray).size : Nat) : Int) ≤ IntKind.i64.max ∧
  k (emb6 p_0 (out_4 ++ (⟨#[68]⟩ : ByteArray)) (w64 (h_5 - 1)) (w64 (k_6 + 1))) w) := by kernel_rfl
theorem A8_2_s (p_0 : Sl) (out_4 : ByteArray) (h_5 : Int) (k_6 : Int) (w : World) (k : Env → World → Prop) (Q : Exit → Env → World → Prop) : (q11 std k Q) (.exit 2) (x2 p_0 out_4 h_5 k_6) w = (
  ((out_4.size + (⟨#[68]⟩ : ByteArray).size : Nat) : Int) ≤ IntKind.i64.max ∧
  k (emb6 p_0 (out_4 ++ (⟨#[68]⟩ : ByteArray)) (w64 (h_5 - 1)) (w64 (k_6 + 1))) w) := A8_2_eq std p_0 out_4 h_5 k_6 w k Q
theorem B6_eq (pr : Prims) (p_0 : Sl) (out_4 : ByteArray) (h_5 : Int) (k_6 : Int) (w : World) (k : Env → World → Prop) (Q : Exit → Env → World → Prop) : B6 pr p_0 out_4 h_5 k_6 w k Q = (
  bif decide (k_6 < (p_0.n : Int)) then (
  L8 pr p_0 out_4 h_5 k_6 w (q11 pr k Q))
  else (
  Q (.exit 0) (x0 out_4) w)) := by kernel_rfl
theorem B6_s (p_0 : Sl) (out_4 : ByteArray) (h_5 : Int) (k_6 : Int) (w : World) (k : Env → World → Prop) (Q : Exit → Env → World → Prop) : B6 std p_0 out_4 h_5 k_6 w k Q = (
  bif decide (k_6 < (p_0.n : Int)) then (
  L8 std p_0 out_4 h_5 k_6 w (q11 std k Q))
  else (
  Q (.exit 0) (x0 out_4) w)) := B6_eq std p_0 out_4 h_5 k_6 w k Q
theorem L6_rule (p_0 : Sl) (out_4 : ByteArray) (h_5 : Int) (k_6 : Int) (w : World) (Q : Exit → Env → World → Prop) (I : ByteArray → Int → Int → World → Prop) (μ : ByteArray → Int → Int → World → Nat) (h0 : I out_4 h_5 k_6 w)
    (h : ∀ (out_4 : ByteArray) (h_5 : Int) (k_6 : Int) (w' : World), I out_4 h_5 k_6 w' → B6 std p_0 out_4 h_5 k_6 w' (fun e2 w2 => ∃ out_4_n h_5_n k_6_n, e2 = emb6 p_0 out_4_n h_5_n k_6_n ∧ I out_4_n h_5_n k_6_n w2 ∧ μ out_4_n h_5_n k_6_n w2 < μ out_4 h_5 k_6 w') Q) :
    L6 std p_0 out_4 h_5 k_6 w Q := by
  unfold L6
  refine LoopE.intro (σ := ByteArray × Int × Int) (step := S6 std Q) (fun s => emb6 p_0 s.1 s.2.1 s.2.2) (fun s w => I s.1 s.2.1 s.2.2 w) (fun s w => μ s.1 s.2.1 s.2.2 w) (out_4, h_5, k_6) rfl h0 ?_
  intro s w' hI
  have h1 := h s.1 s.2.1 s.2.2 w' hI
  unfold B6 at h1
  simp only [Prod.exists]
  exact h1
theorem A6_0_eq (pr : Prims) (out_4 : ByteArray) (w : World) (R : Ending → World → Prop) : (q7 pr R) (.exit 0) (x0 out_4) w = (
  R (.returned (.tuple #[.string out_4, .bool true])) w) := by kernel_rfl
theorem A6_0_s (out_4 : ByteArray) (w : World) (R : Ending → World → Prop) : (q7 std R) (.exit 0) (x0 out_4) w = (
  R (.returned (.tuple #[.string out_4, .bool true])) w) := A6_0_eq std out_4 w R
theorem E_eq (pr : Prims) (p_0 : Sl) (w : World) (R : Ending → World → Prop) : E pr p_0 w R = (
  pr.call1 .bool PP F.spec_IsPerm #[Sl.v p_0] w fun (ρ0 : Bool) ω1 =>
  bif !ρ0 then (
  R (.returned (.tuple #[.string (⟨#[]⟩ : ByteArray), .bool false])) ω1)
  else (
  pr.sem1 .sl PP (Instr.buildSlice T_Sint 3 #[(0, vI 1), (1, vI 3), (2, vI 2)]) ω1 fun (ρ2 : Sl) ω3 =>
  pr.call1 .bool PP F.spec_l7Has #[Sl.v p_0, Sl.v ρ2] ω3 fun (ρ4 : Bool) ω5 =>
  bif ρ4 then (
  R (.returned (.tuple #[.string (⟨#[]⟩ : ByteArray), .bool false])) ω5)
  else (
  L6 pr p_0 (⟨#[]⟩ : ByteArray) 0 0 ω5 (q7 pr R)))) := by kernel_rfl
theorem E_s (p_0 : Sl) (w : World) (R : Ending → World → Prop) : E std p_0 w R = (
  call1 .bool PP F.spec_IsPerm #[Sl.v p_0] w fun (ρ0 : Bool) ω1 =>
  bif !ρ0 then (
  R (.returned (.tuple #[.string (⟨#[]⟩ : ByteArray), .bool false])) ω1)
  else (
  sem1 .sl PP (Instr.buildSlice T_Sint 3 #[(0, vI 1), (1, vI 3), (2, vI 2)]) ω1 fun (ρ2 : Sl) ω3 =>
  call1 .bool PP F.spec_l7Has #[Sl.v p_0, Sl.v ρ2] ω3 fun (ρ4 : Bool) ω5 =>
  bif ρ4 then (
  R (.returned (.tuple #[.string (⟨#[]⟩ : ByteArray), .bool false])) ω5)
  else (
  L6 std p_0 (⟨#[]⟩ : ByteArray) 0 0 ω5 (q7 std R)))) := E_eq std p_0 w R
theorem drawsOk : drawsOk PP cfg okD (codeOf Tryz.f7) = true := by kernel_rfl
theorem calls (p_0 : Sl) {w : World} {R : Ending → World → Prop} (h : E std p_0 w R) : Calls PP F.spec_PathOf #[Sl.v p_0] w R :=
  calls_of noCount mixed drawOk Tryz.func7 rfl (c := cfg) (args := [Sl.v p_0]) rfl (Nat.le_of_ble_eq_true (by kernel_rfl)) drawsOk h
end spec_PathOf

namespace spec_l18Later
@[reducible] def cfg : Cfg := ⟨28, [(3, [0, 1, 5, 6])], [(1, [0, 1, 5, 6]), (0, [5])], [], [4], [5], [13, 32, 63, 81], [41, 4, 46, 44, 48]⟩
def q0 (pr : Prims) (R : Ending → World → Prop) : Exit → Env → World → Prop := fun ex e w => normQ ex (fun e w => contE pr cfg (sub (codeOf Tryz.f34) [1, 1, 1]) (fun e w => wpC pr PP cfg (DD pr) (sub (codeOf Tryz.f34) [1, 1, 1]) (retQ Tryz.f34.results.toList R) e w) e w) (retQ Tryz.f34.results.toList R) e w
def q1 (pr : Prims) (R : Ending → World → Prop) : Exit → Env → World → Prop := fun ex e w => blockQ ex 0 (q0 pr R) e w
def emb3 (p_0 : Sl) (k_1 : Int) (n_5 : Int) (i_6 : Int) : Env := [(0, Sl.v p_0), (1, vI k_1), (5, vI n_5), (6, vI i_6)]
def x0 (n_5 : Int) : Env := [(5, vI n_5)]
def S3 (pr : Prims) (Q : Exit → Env → World → Prop) : (Env → World → Prop) → Env → World → Prop := fun k e w => wpC pr PP cfg (DD pr) (sub (codeOf Tryz.f34) [1, 1, 0, 1, 0, 0]) (fun ex e w => normQ ex (fun e' w' => k (Env.restr e' (lookN cfg.loops (keyOf (sub (codeOf Tryz.f34) [1, 1, 0, 1, 0, 0])))) w') Q e w) e w
def B3 (pr : Prims) (p_0 : Sl) (k_1 : Int) (n_5 : Int) (i_6 : Int) (w : World) (k : Env → World → Prop) (Q : Exit → Env → World → Prop) : Prop :=
  S3 pr Q k (emb3 p_0 k_1 n_5 i_6) w
def L3 (pr : Prims) (p_0 : Sl) (k_1 : Int) (n_5 : Int) (i_6 : Int) (w : World) (Q : Exit → Env → World → Prop) : Prop :=
  pr.loop (S3 pr Q) (emb3 p_0 k_1 n_5 i_6) w
def E (pr : Prims) (p_0 : Sl) (k_1 : Int) (w : World) (R : Ending → World → Prop) : Prop :=
  wpC pr PP cfg (DD pr) (codeOf Tryz.f34) (retQ Tryz.f34.results.toList R) (argE 0 [Sl.v p_0, vI k_1]) w
theorem B3_eq (pr : Prims) (p_0 : Sl) (k_1 : Int) (n_5 : Int) (i_6 : Int) (w : World) (k : Env → World → Prop) (Q : Exit → Env → World → Prop) : B3 pr p_0 k_1 n_5 i_6 w k Q = (
  bif decide (i_6 < (p_0.n : Int)) then (
  pr.idxK 1 p_0 i_6 fun (a2 : Addr) =>
  pr.load1 (.int .i64) a2 w fun (ξ3 : Int) =>
  pr.idxK 1 p_0 k_1 fun (a4 : Addr) =>
  pr.load1 (.int .i64) a4 w fun (ξ5 : Int) =>
  pr.pcall1 (.int .i64) PP F.spec_l1Bit #[.bool (decide (ξ3 > ξ5))] fun (ρ6 : Int) =>
  pr.drewAll w fun ω7 =>
  k (emb3 p_0 k_1 (w64 (n_5 + ρ6)) (w64 (i_6 + 1))) ω7)
  else (
  Q (.exit 0) (x0 n_5) w)) := by kernel_rfl
theorem B3_s (p_0 : Sl) (k_1 : Int) (n_5 : Int) (i_6 : Int) (w : World) (k : Env → World → Prop) (Q : Exit → Env → World → Prop) : B3 std p_0 k_1 n_5 i_6 w k Q = (
  bif decide (i_6 < (p_0.n : Int)) then (
  idxK 1 p_0 i_6 fun (a2 : Addr) =>
  load1 (.int .i64) a2 w fun (ξ3 : Int) =>
  idxK 1 p_0 k_1 fun (a4 : Addr) =>
  load1 (.int .i64) a4 w fun (ξ5 : Int) =>
  pcall1 (.int .i64) PP F.spec_l1Bit #[.bool (decide (ξ3 > ξ5))] fun (ρ6 : Int) =>
  drewAll w fun ω7 =>
  k (emb3 p_0 k_1 (w64 (n_5 + ρ6)) (w64 (i_6 + 1))) ω7)
  else (
  Q (.exit 0) (x0 n_5) w)) := B3_eq std p_0 k_1 n_5 i_6 w k Q
theorem L3_rule (p_0 : Sl) (k_1 : Int) (n_5 : Int) (i_6 : Int) (w : World) (Q : Exit → Env → World → Prop) (I : Int → Int → World → Prop) (μ : Int → Int → World → Nat) (h0 : I n_5 i_6 w)
    (h : ∀ (n_5 : Int) (i_6 : Int) (w' : World), I n_5 i_6 w' → B3 std p_0 k_1 n_5 i_6 w' (fun e2 w2 => ∃ n_5_n i_6_n, e2 = emb3 p_0 k_1 n_5_n i_6_n ∧ I n_5_n i_6_n w2 ∧ μ n_5_n i_6_n w2 < μ n_5 i_6 w') Q) :
    L3 std p_0 k_1 n_5 i_6 w Q := by
  unfold L3
  refine LoopE.intro (σ := Int × Int) (step := S3 std Q) (fun s => emb3 p_0 k_1 s.1 s.2) (fun s w => I s.1 s.2 w) (fun s w => μ s.1 s.2 w) (n_5, i_6) rfl h0 ?_
  intro s w' hI
  have h1 := h s.1 s.2 w' hI
  unfold B3 at h1
  simp only [Prod.exists]
  exact h1
theorem A3_0_eq (pr : Prims) (n_5 : Int) (w : World) (R : Ending → World → Prop) : (q1 pr R) (.exit 0) (x0 n_5) w = (
  R (.returned (vI n_5)) w) := by kernel_rfl
theorem A3_0_s (n_5 : Int) (w : World) (R : Ending → World → Prop) : (q1 std R) (.exit 0) (x0 n_5) w = (
  R (.returned (vI n_5)) w) := A3_0_eq std n_5 w R
theorem E_eq (pr : Prims) (p_0 : Sl) (k_1 : Int) (w : World) (R : Ending → World → Prop) : E pr p_0 k_1 w R = (
  L3 pr p_0 k_1 0 (w64 (k_1 + 1)) w (q1 pr R)) := by kernel_rfl
theorem E_s (p_0 : Sl) (k_1 : Int) (w : World) (R : Ending → World → Prop) : E std p_0 k_1 w R = (
  L3 std p_0 k_1 0 (w64 (k_1 + 1)) w (q1 std R)) := E_eq std p_0 k_1 w R
theorem drawsOk : drawsOk PP cfg okD (codeOf Tryz.f34) = true := by kernel_rfl
theorem calls (p_0 : Sl) (k_1 : Int) {w : World} {R : Ending → World → Prop} (h : E std p_0 k_1 w R) : Calls PP F.spec_l18Later #[Sl.v p_0, vI k_1] w R :=
  calls_of noCount mixed drawOk Tryz.func34 rfl (c := cfg) (args := [Sl.v p_0, vI k_1]) rfl (Nat.le_of_ble_eq_true (by kernel_rfl)) drawsOk h
end spec_l18Later

end Go.Proofs.YtlcemelmnkipmaaGreat

/- What each function does, step by step, written by a program (Gen.lean); each equation is checked by the kernel. -/
namespace Go.Proofs.YtlcemelmnkipmaaGreat
open Go
set_option linter.unusedVariables false
set_option maxRecDepth 100000
namespace spec_l7Find
@[reducible] def cfg : Cfg := ⟨54, [(7, [0, 1, 2, 3, 10])], [(1, [0, 1, 2, 3, 10]), (0, [3])], [(6, [0, 1, 2, 3, 9])], [8], [], [13, 32, 63, 81], [41, 4, 46, 44, 48]⟩
def q4 (pr : Prims) (R : Ending → World → Prop) : Exit → Env → World → Prop := fun ex e w => normQ ex (fun e w => contE pr cfg (sub (codeOf Tryz.f64) [1, 1, 1, 1]) (fun e w => wpC pr PP cfg (DD pr) (sub (codeOf Tryz.f64) [1, 1, 1, 1]) (retQ Tryz.f64.results.toList R) e w) e w) (retQ Tryz.f64.results.toList R) e w
def q7 (pr : Prims) (R : Ending → World → Prop) : Exit → Env → World → Prop := fun ex e w => normQ ex (fun e w => contE pr cfg (sub (codeOf Tryz.f64) [1, 1, 1, 1, 1]) (fun e w => wpC pr PP cfg (DD pr) (sub (codeOf Tryz.f64) [1, 1, 1, 1, 1]) (retQ Tryz.f64.results.toList R) e w) e w) (retQ Tryz.f64.results.toList R) e w
def q8 (pr : Prims) (R : Ending → World → Prop) : Exit → Env → World → Prop := fun ex e w => blockQ ex 0 (q7 pr R) e w
def j6 (p_0 : Sl) (q_1 : Sl) (head_2 : Sl) (out_3 : Sl) (from_9 : Int) : Env := [(0, Sl.v p_0), (1, Sl.v q_1), (2, Sl.v head_2), (3, Sl.v out_3), (9, vI from_9)]
def emb7 (p_0 : Sl) (q_1 : Sl) (head_2 : Sl) (out_3 : Sl) (x_10 : Int) : Env := [(0, Sl.v p_0), (1, Sl.v q_1), (2, Sl.v head_2), (3, Sl.v out_3), (10, vI x_10)]
def x0 (out_3 : Sl) : Env := [(3, Sl.v out_3)]
def S7 (pr : Prims) (Q : Exit → Env → World → Prop) : (Env → World → Prop) → Env → World → Prop := fun k e w => wpC pr PP cfg (DD pr) (sub (codeOf Tryz.f64) [1, 1, 1, 1, 0, 1, 0, 0]) (fun ex e w => normQ ex (fun e' w' => k (Env.restr e' (lookN cfg.loops (keyOf (sub (codeOf Tryz.f64) [1, 1, 1, 1, 0, 1, 0, 0])))) w') Q e w) e w
def B7 (pr : Prims) (p_0 : Sl) (q_1 : Sl) (head_2 : Sl) (out_3 : Sl) (x_10 : Int) (w : World) (k : Env → World → Prop) (Q : Exit → Env → World → Prop) : Prop :=
  S7 pr Q k (emb7 p_0 q_1 head_2 out_3 x_10) w
def L7 (pr : Prims) (p_0 : Sl) (q_1 : Sl) (head_2 : Sl) (out_3 : Sl) (x_10 : Int) (w : World) (Q : Exit → Env → World → Prop) : Prop :=
  pr.loop (S7 pr Q) (emb7 p_0 q_1 head_2 out_3 x_10) w
def J6 (pr : Prims) (p_0 : Sl) (q_1 : Sl) (head_2 : Sl) (out_3 : Sl) (from_9 : Int) (w : World) (R : Ending → World → Prop) : Prop :=
  pr.seg (fun e w => wpC pr PP cfg (DD pr) (sub (codeOf Tryz.f64) [1, 1, 1, 1]) (retQ Tryz.f64.results.toList R) e w) (j6 p_0 q_1 head_2 out_3 from_9) w
def E (pr : Prims) (p_0 : Sl) (q_1 : Sl) (head_2 : Sl) (out_3 : Sl) (w : World) (R : Ending → World → Prop) : Prop :=
  wpC pr PP cfg (DD pr) (codeOf Tryz.f64) (retQ Tryz.f64.results.toList R) (argE 0 [Sl.v p_0, Sl.v q_1, Sl.v head_2, Sl.v out_3]) w
theorem B7_eq (pr : Prims) (p_0 : Sl) (q_1 : Sl) (head_2 : Sl) (out_3 : Sl) (x_10 : Int) (w : World) (k : Env → World → Prop) (Q : Exit → Env → World → Prop) : B7 pr p_0 q_1 head_2 out_3 x_10 w k Q = (
  bif decide (x_10 ≤ (p_0.n : Int)) then (
  pr.sem1 .sl PP (Instr.buildSlice T_Sint 0 #[]) w fun (ρ9 : Sl) ω10 =>
  pr.sem1 .sl PP (Builtin.append_ #[T_Sint, T_Sint] T_Sint #[Sl.v ρ9, Sl.v head_2]) ω10 fun (ρ11 : Sl) ω12 =>
  pr.sem1 .sl PP (Instr.buildSlice T_Sint 1 #[(0, vI x_10)]) ω12 fun (ρ13 : Sl) ω14 =>
  pr.sem1 .sl PP (Builtin.append_ #[T_Sint, T_Sint] T_Sint #[Sl.v ρ11, Sl.v ρ13]) ω14 fun (ρ15 : Sl) ω16 =>
  pr.call1 .bool PP F.spec_l7Fits #[Sl.v p_0, Sl.v q_1, Sl.v ρ15] ω16 fun (ρ17 : Bool) ω18 =>
  bif ρ17 then (
  pr.call1 .sl PP F.spec_l7Find #[Sl.v p_0, Sl.v q_1, Sl.v ρ15, Sl.v out_3] ω18 fun (ρ19 : Sl) ω20 =>
  k (emb7 p_0 q_1 head_2 ρ19 (w64 (x_10 + 1))) ω20)
  else (
  k (emb7 p_0 q_1 head_2 out_3 (w64 (x_10 + 1))) ω18))
  else (
  Q (.exit 0) (x0 out_3) w)) := by kernel_rfl
theorem B7_s (p_0 : Sl) (q_1 : Sl) (head_2 : Sl) (out_3 : Sl) (x_10 : Int) (w : World) (k : Env → World → Prop) (Q : Exit → Env → World → Prop) : B7 std p_0 q_1 head_2 out_3 x_10 w k Q = (
  bif decide (x_10 ≤ (p_0.n : Int)) then (
  sem1 .sl PP (Instr.buildSlice T_Sint 0 #[]) w fun (ρ9 : Sl) ω10 =>
  sem1 .sl PP (Builtin.append_ #[T_Sint, T_Sint] T_Sint #[Sl.v ρ9, Sl.v head_2]) ω10 fun (ρ11 : Sl) ω12 =>
  sem1 .sl PP (Instr.buildSlice T_Sint 1 #[(0, vI x_10)]) ω12 fun (ρ13 : Sl) ω14 =>
  sem1 .sl PP (Builtin.append_ #[T_Sint, T_Sint] T_Sint #[Sl.v ρ11, Sl.v ρ13]) ω14 fun (ρ15 : Sl) ω16 =>
  call1 .bool PP F.spec_l7Fits #[Sl.v p_0, Sl.v q_1, Sl.v ρ15] ω16 fun (ρ17 : Bool) ω18 =>
  bif ρ17 then (
  call1 .sl PP F.spec_l7Find #[Sl.v p_0, Sl.v q_1, Sl.v ρ15, Sl.v out_3] ω18 fun (ρ19 : Sl) ω20 =>
  k (emb7 p_0 q_1 head_2 ρ19 (w64 (x_10 + 1))) ω20)
  else (
  k (emb7 p_0 q_1 head_2 out_3 (w64 (x_10 + 1))) ω18))
  else (
  Q (.exit 0) (x0 out_3) w)) := B7_eq std p_0 q_1 head_2 out_3 x_10 w k Q
theorem L7_rule (p_0 : Sl) (q_1 : Sl) (head_2 : Sl) (out_3 : Sl) (x_10 : Int) (w : World) (Q : Exit → Env → World → Prop) (I : Sl → Int → World → Prop) (μ : Sl → Int → World → Nat) (h0 : I out_3 x_10 w)
    (h : ∀ (out_3 : Sl) (x_10 : Int) (w' : World), I out_3 x_10 w' → B7 std p_0 q_1 head_2 out_3 x_10 w' (fun e2 w2 => ∃ out_3_n x_10_n, e2 = emb7 p_0 q_1 head_2 out_3_n x_10_n ∧ I out_3_n x_10_n w2 ∧ μ out_3_n x_10_n w2 < μ out_3 x_10 w') Q) :
    L7 std p_0 q_1 head_2 out_3 x_10 w Q := by
  unfold L7
  refine LoopE.intro (σ := Sl × Int) (step := S7 std Q) (fun s => emb7 p_0 q_1 head_2 s.1 s.2) (fun s w => I s.1 s.2 w) (fun s w => μ s.1 s.2 w) (out_3, x_10) rfl h0 ?_
  intro s w' hI
  have h1 := h s.1 s.2 w' hI
  unfold B7 at h1
  simp only [Prod.exists]
  exact h1
theorem A7_0_eq (pr : Prims) (out_3 : Sl) (w : World) (R : Ending → World → Prop) : (q8 pr R) (.exit 0) (x0 out_3) w = (
  R (.returned (Sl.v out_3)) w) := by kernel_rfl
theorem A7_0_s (out_3 : Sl) (w : World) (R : Ending → World → Prop) : (q8 std R) (.exit 0) (x0 out_3) w = (
  R (.returned (Sl.v out_3)) w) := A7_0_eq std out_3 w R
theorem J6_gen (pr : Prims) (p_0 : Sl) (q_1 : Sl) (head_2 : Sl) (out_3 : Sl) (from_9 : Int) (w : World) (R : Ending → World → Prop) : wpC pr PP cfg (DD pr) (sub (codeOf Tryz.f64) [1, 1, 1, 1]) (retQ Tryz.f64.results.toList R) (j6 p_0 q_1 head_2 out_3 from_9) w = (
  L7 pr p_0 q_1 head_2 out_3 from_9 w (q8 pr R)) := by kernel_rfl
theorem J6_s (p_0 : Sl) (q_1 : Sl) (head_2 : Sl) (out_3 : Sl) (from_9 : Int) (w : World) (R : Ending → World → Prop) : J6 std p_0 q_1 head_2 out_3 from_9 w R = (
  L7 std p_0 q_1 head_2 out_3 from_9 w (q8 std R)) := J6_gen std p_0 q_1 head_2 out_3 from_9 w R
theorem E_eq (pr : Prims) (p_0 : Sl) (q_1 : Sl) (head_2 : Sl) (out_3 : Sl) (w : World) (R : Ending → World → Prop) : E pr p_0 q_1 head_2 out_3 w R = (
  bif (head_2.n : Int) == (q_1.n : Int) then (
  pr.sem1 .sl PP (Instr.buildSlice T_SSint 1 #[(0, Sl.v head_2)]) w fun (ρ0 : Sl) ω1 =>
  pr.sem1 .sl PP (Builtin.append_ #[T_SSint, T_SSint] T_SSint #[Sl.v out_3, Sl.v ρ0]) ω1 fun (ρ2 : Sl) ω3 =>
  R (.returned (Sl.v ρ2)) ω3)
  else (
  bif decide ((head_2.n : Int) > 0) then (
  pr.idxK 1 head_2 (w64 ((head_2.n : Int) - 1)) fun (a5 : Addr) =>
  pr.load1 (.int .i64) a5 w fun (ξ6 : Int) =>
  J6 pr p_0 q_1 head_2 out_3 (w64 (ξ6 + 1)) w R)
  else (
  J6 pr p_0 q_1 head_2 out_3 1 w R))) := by kernel_rfl
theorem E_s (p_0 : Sl) (q_1 : Sl) (head_2 : Sl) (out_3 : Sl) (w : World) (R : Ending → World → Prop) : E std p_0 q_1 head_2 out_3 w R = (
  bif (head_2.n : Int) == (q_1.n : Int) then (
  sem1 .sl PP (Instr.buildSlice T_SSint 1 #[(0, Sl.v head_2)]) w fun (ρ0 : Sl) ω1 =>
  sem1 .sl PP (Builtin.append_ #[T_SSint, T_SSint] T_SSint #[Sl.v out_3, Sl.v ρ0]) ω1 fun (ρ2 : Sl) ω3 =>
  R (.returned (Sl.v ρ2)) ω3)
  else (
  bif decide ((head_2.n : Int) > 0) then (
  idxK 1 head_2 (w64 ((head_2.n : Int) - 1)) fun (a5 : Addr) =>
  load1 (.int .i64) a5 w fun (ξ6 : Int) =>
  J6 std p_0 q_1 head_2 out_3 (w64 (ξ6 + 1)) w R)
  else (
  J6 std p_0 q_1 head_2 out_3 1 w R))) := E_eq std p_0 q_1 head_2 out_3 w R
theorem drawsOk : drawsOk PP cfg okD (codeOf Tryz.f64) = true := by kernel_rfl
theorem calls (p_0 : Sl) (q_1 : Sl) (head_2 : Sl) (out_3 : Sl) {w : World} {R : Ending → World → Prop} (h : E std p_0 q_1 head_2 out_3 w R) : Calls PP F.spec_l7Find #[Sl.v p_0, Sl.v q_1, Sl.v head_2, Sl.v out_3] w R :=
  calls_of noCount mixed drawOk Tryz.func64 rfl (c := cfg) (args := [Sl.v p_0, Sl.v q_1, Sl.v head_2, Sl.v out_3]) rfl (Nat.le_of_ble_eq_true (by kernel_rfl)) drawsOk h
end spec_l7Find

namespace spec_l7Has
@[reducible] def cfg : Cfg := ⟨12, [], [], [], [4], [], [13, 32, 63, 81], [41, 4, 46, 44, 48]⟩
def E (pr : Prims) (p_0 : Sl) (q_1 : Sl) (w : World) (R : Ending → World → Prop) : Prop :=
  wpC pr PP cfg (DD pr) (codeOf Tryz.f33) (retQ Tryz.f33.results.toList R) (argE 0 [Sl.v p_0, Sl.v q_1]) w
theorem E_eq (pr : Prims) (p_0 : Sl) (q_1 : Sl) (w : World) (R : Ending → World → Prop) : E pr p_0 q_1 w R = (
  pr.sem1 .sl PP (Instr.buildSlice T_Sint 0 #[]) w fun (ρ0 : Sl) ω1 =>
  pr.sem1 .sl PP (Instr.buildSlice T_SSint 0 #[]) ω1 fun (ρ2 : Sl) ω3 =>
  pr.call1 .sl PP F.spec_l7Find #[Sl.v p_0, Sl.v q_1, Sl.v ρ0, Sl.v ρ2] ω3 fun (ρ4 : Sl) ω5 =>
  R (.returned (.bool (decide ((ρ4.n : Int) > 0)))) ω5) := by kernel_rfl
theorem E_s (p_0 : Sl) (q_1 : Sl) (w : World) (R : Ending → World → Prop) : E std p_0 q_1 w R = (
  sem1 .sl PP (Instr.buildSlice T_Sint 0 #[]) w fun (ρ0 : Sl) ω1 =>
  sem1 .sl PP (Instr.buildSlice T_SSint 0 #[]) ω1 fun (ρ2 : Sl) ω3 =>
  call1 .sl PP F.spec_l7Find #[Sl.v p_0, Sl.v q_1, Sl.v ρ0, Sl.v ρ2] ω3 fun (ρ4 : Sl) ω5 =>
  R (.returned (.bool (decide ((ρ4.n : Int) > 0)))) ω5) := E_eq std p_0 q_1 w R
theorem drawsOk : drawsOk PP cfg okD (codeOf Tryz.f33) = true := by kernel_rfl
theorem calls (p_0 : Sl) (q_1 : Sl) {w : World} {R : Ending → World → Prop} (h : E std p_0 q_1 w R) : Calls PP F.spec_l7Has #[Sl.v p_0, Sl.v q_1] w R :=
  calls_of noCount mixed drawOk Tryz.func33 rfl (c := cfg) (args := [Sl.v p_0, Sl.v q_1]) rfl (Nat.le_of_ble_eq_true (by kernel_rfl)) drawsOk h
end spec_l7Has

namespace spec_l7Fits
@[reducible] def cfg : Cfg := ⟨44, [(3, [0, 1, 2, 7, 8])], [(1, [0, 1, 2, 7, 8]), (0, [])], [], [6], [5], [13, 32, 63, 81], [41, 4, 46, 44, 48]⟩
def q0 (pr : Prims) (R : Ending → World → Prop) : Exit → Env → World → Prop := fun ex e w => normQ ex (fun e w => contE pr cfg (sub (codeOf Tryz.f81) [1, 1, 1]) (fun e w => wpC pr PP cfg (DD pr) (sub (codeOf Tryz.f81) [1, 1, 1]) (retQ Tryz.f81.results.toList R) e w) e w) (retQ Tryz.f81.results.toList R) e w
def q1 (pr : Prims) (R : Ending → World → Prop) : Exit → Env → World → Prop := fun ex e w => blockQ ex 0 (q0 pr R) e w
def emb3 (p_0 : Sl) (q_1 : Sl) (places_2 : Sl) (last_7 : Int) (k_8 : Int) : Env := [(0, Sl.v p_0), (1, Sl.v q_1), (2, Sl.v places_2), (7, vI last_7), (8, vI k_8)]
def x0 : Env := []
def S3 (pr : Prims) (Q : Exit → Env → World → Prop) : (Env → World → Prop) → Env → World → Prop := fun k e w => wpC pr PP cfg (DD pr) (sub (codeOf Tryz.f81) [1, 1, 0, 1, 0, 0]) (fun ex e w => normQ ex (fun e' w' => k (Env.restr e' (lookN cfg.loops (keyOf (sub (codeOf Tryz.f81) [1, 1, 0, 1, 0, 0])))) w') Q e w) e w
def B3 (pr : Prims) (p_0 : Sl) (q_1 : Sl) (places_2 : Sl) (last_7 : Int) (k_8 : Int) (w : World) (k : Env → World → Prop) (Q : Exit → Env → World → Prop) : Prop :=
  S3 pr Q k (emb3 p_0 q_1 places_2 last_7 k_8) w
def L3 (pr : Prims) (p_0 : Sl) (q_1 : Sl) (places_2 : Sl) (last_7 : Int) (k_8 : Int) (w : World) (Q : Exit → Env → World → Prop) : Prop :=
  pr.loop (S3 pr Q) (emb3 p_0 q_1 places_2 last_7 k_8) w
def E (pr : Prims) (p_0 : Sl) (q_1 : Sl) (places_2 : Sl) (w : World) (R : Ending → World → Prop) : Prop :=
  wpC pr PP cfg (DD pr) (codeOf Tryz.f81) (retQ Tryz.f81.results.toList R) (argE 0 [Sl.v p_0, Sl.v q_1, Sl.v places_2]) w
theorem B3_eq (pr : Prims) (p_0 : Sl) (q_1 : Sl) (places_2 : Sl) (last_7 : Int) (k_8 : Int) (w : World) (k : Env → World → Prop) (Q : Exit → Env → World → Prop) : B3 pr p_0 q_1 places_2 last_7 k_8 w k Q = (
  bif decide (k_8 < last_7) then (
  pr.idxK 1 q_1 k_8 fun (a2 : Addr) =>
  pr.load1 (.int .i64) a2 w fun (ξ3 : Int) =>
  pr.idxK 1 q_1 last_7 fun (a4 : Addr) =>
  pr.load1 (.int .i64) a4 w fun (ξ5 : Int) =>
  pr.idxK 1 places_2 k_8 fun (a6 : Addr) =>
  pr.load1 (.int .i64) a6 w fun (ξ7 : Int) =>
  pr.idxK 1 p_0 (w64 (ξ7 - 1)) fun (a8 : Addr) =>
  pr.load1 (.int .i64) a8 w fun (ξ9 : Int) =>
  pr.idxK 1 places_2 last_7 fun (a10 : Addr) =>
  pr.load1 (.int .i64) a10 w fun (ξ11 : Int) =>
  pr.idxK 1 p_0 (w64 (ξ11 - 1)) fun (a12 : Addr) =>
  pr.load1 (.int .i64) a12 w fun (ξ13 : Int) =>
  pr.drewAll w fun ω14 =>
  bif !((decide (ξ3 < ξ5)) == (decide (ξ9 < ξ13))) then (
  Q .ret [(6, .bool false)] ω14)
  else (
  k (emb3 p_0 q_1 places_2 last_7 (w64 (k_8 + 1))) ω14))
  else (
  Q (.exit 0) (x0) w)) := by kernel_rfl
theorem B3_s (p_0 : Sl) (q_1 : Sl) (places_2 : Sl) (last_7 : Int) (k_8 : Int) (w : World) (k : Env → World → Prop) (Q : Exit → Env → World → Prop) : B3 std p_0 q_1 places_2 last_7 k_8 w k Q = (
  bif decide (k_8 < last_7) then (
  idxK 1 q_1 k_8 fun (a2 : Addr) =>
  load1 (.int .i64) a2 w fun (ξ3 : Int) =>
  idxK 1 q_1 last_7 fun (a4 : Addr) =>
  load1 (.int .i64) a4 w fun (ξ5 : Int) =>
  idxK 1 places_2 k_8 fun (a6 : Addr) =>
  load1 (.int .i64) a6 w fun (ξ7 : Int) =>
  idxK 1 p_0 (w64 (ξ7 - 1)) fun (a8 : Addr) =>
  load1 (.int .i64) a8 w fun (ξ9 : Int) =>
  idxK 1 places_2 last_7 fun (a10 : Addr) =>
  load1 (.int .i64) a10 w fun (ξ11 : Int) =>
  idxK 1 p_0 (w64 (ξ11 - 1)) fun (a12 : Addr) =>
  load1 (.int .i64) a12 w fun (ξ13 : Int) =>
  drewAll w fun ω14 =>
  bif !((decide (ξ3 < ξ5)) == (decide (ξ9 < ξ13))) then (
  Q .ret [(6, .bool false)] ω14)
  else (
  k (emb3 p_0 q_1 places_2 last_7 (w64 (k_8 + 1))) ω14))
  else (
  Q (.exit 0) (x0) w)) := B3_eq std p_0 q_1 places_2 last_7 k_8 w k Q
theorem L3_rule (p_0 : Sl) (q_1 : Sl) (places_2 : Sl) (last_7 : Int) (k_8 : Int) (w : World) (Q : Exit → Env → World → Prop) (I : Int → World → Prop) (μ : Int → World → Nat) (h0 : I k_8 w)
    (h : ∀ (k_8 : Int) (w' : World), I k_8 w' → B3 std p_0 q_1 places_2 last_7 k_8 w' (fun e2 w2 => ∃ k_8_n, e2 = emb3 p_0 q_1 places_2 last_7 k_8_n ∧ I k_8_n w2 ∧ μ k_8_n w2 < μ k_8 w') Q) :
    L3 std p_0 q_1 places_2 last_7 k_8 w Q := by
  unfold L3
  refine LoopE.intro (σ := Int) (step := S3 std Q) (fun s => emb3 p_0 q_1 places_2 last_7 s) (fun s w => I s w) (fun s w => μ s w) k_8 rfl h0 ?_
  intro s w' hI
  have h1 := h s w' hI
  unfold B3 at h1
  exact h1
theorem A3_0_eq (pr : Prims) (w : World) (R : Ending → World → Prop) : (q1 pr R) (.exit 0) (x0) w = (
  R (.returned (.bool true)) w) := by kernel_rfl
theorem A3_0_s (w : World) (R : Ending → World → Prop) : (q1 std R) (.exit 0) (x0) w = (
  R (.returned (.bool true)) w) := A3_0_eq std w R
theorem R3_eq (pr : Prims) (v6 : Value) (w : World) (R : Ending → World → Prop) : (q1 pr R) .ret [(6, v6)] w = (
  R (.returned (v6)) w) := by kernel_rfl
theorem R3_s (v6 : Value) (w : World) (R : Ending → World → Prop) : (q1 std R) .ret [(6, v6)] w = (
  R (.returned (v6)) w) := R3_eq std v6 w R
theorem E_eq (pr : Prims) (p_0 : Sl) (q_1 : Sl) (places_2 : Sl) (w : World) (R : Ending → World → Prop) : E pr p_0 q_1 places_2 w R = (
  L3 pr p_0 q_1 places_2 (w64 ((places_2.n : Int) - 1)) 0 w (q1 pr R)) := by kernel_rfl
theorem E_s (p_0 : Sl) (q_1 : Sl) (places_2 : Sl) (w : World) (R : Ending → World → Prop) : E std p_0 q_1 places_2 w R = (
  L3 std p_0 q_1 places_2 (w64 ((places_2.n : Int) - 1)) 0 w (q1 std R)) := E_eq std p_0 q_1 places_2 w R
theorem drawsOk : drawsOk PP cfg okD (codeOf Tryz.f81) = true := by kernel_rfl
theorem calls (p_0 : Sl) (q_1 : Sl) (places_2 : Sl) {w : World} {R : Ending → World → Prop} (h : E std p_0 q_1 places_2 w R) : Calls PP F.spec_l7Fits #[Sl.v p_0, Sl.v q_1, Sl.v places_2] w R :=
  calls_of noCount mixed drawOk Tryz.func81 rfl (c := cfg) (args := [Sl.v p_0, Sl.v q_1, Sl.v places_2]) rfl (Nat.le_of_ble_eq_true (by kernel_rfl)) drawsOk h
end spec_l7Fits

namespace impl_has
@[reducible] def cfg : Cfg := ⟨83, [(12, [0, 1, 2, 8, 9, 10, 42, 43, 44]), (8, [0, 1, 2, 8, 9])], [(3, [0, 1, 2, 8, 9, 10, 42, 43, 44]), (2, [0, 1, 2, 8, 9, 10]), (1, [0, 1, 2, 8, 9]), (0, [])], [(6, [0, 1, 2, 7])], [6], [14], [13, 32, 63, 81], [41, 4, 46, 44, 48]⟩
def q0 (pr : Prims) (R : Ending → World → Prop) : Exit → Env → World → Prop := fun ex e w => normQ ex (fun e w => contE pr cfg (sub (codeOf Tryz.f30) [1, 1, 1, 1]) (fun e w => wpC pr PP cfg (DD pr) (sub (codeOf Tryz.f30) [1, 1, 1, 1]) (retQ Tryz.f30.results.toList R) e w) e w) (retQ Tryz.f30.results.toList R) e w
def q3 (pr : Prims) (R : Ending → World → Prop) : Exit → Env → World → Prop := fun ex e w => normQ ex (fun e w => contE pr cfg (sub (codeOf Tryz.f30) [1, 1, 1, 1, 1, 1]) (fun e w => wpC pr PP cfg (DD pr) (sub (codeOf Tryz.f30) [1, 1, 1, 1, 1, 1]) (retQ Tryz.f30.results.toList R) e w) e w) (retQ Tryz.f30.results.toList R) e w
def q4 (pr : Prims) (R : Ending → World → Prop) : Exit → Env → World → Prop := fun ex e w => blockQ ex 0 (q3 pr R) e w
def q5 (pr : Prims) (k : Env → World → Prop) (Q : Exit → Env → World → Prop) : Exit → Env → World → Prop := fun ex e w => normQ ex (fun e w => contE pr cfg (sub (codeOf Tryz.f30) [1, 1, 1, 1, 1, 0, 1, 0, 0, 1, 1]) (fun e w => wpC pr PP cfg (DD pr) (sub (codeOf Tryz.f30) [1, 1, 1, 1, 1, 0, 1, 0, 0, 1, 1]) (fun ex e w => normQ ex (fun e' w' => k (Env.restr e' (lookN cfg.loops (keyOf (sub (codeOf Tryz.f30) [1, 1, 1, 1, 1, 0, 1, 0, 0])))) w') Q e w) e w) e w) (fun ex e w => normQ ex (fun e' w' => k (Env.restr e' (lookN cfg.loops (keyOf (sub (codeOf Tryz.f30) [1, 1, 1, 1, 1, 0, 1, 0, 0])))) w') Q e w) e w
def q6 (pr : Prims) (k : Env → World → Prop) (Q : Exit → Env → World → Prop) : Exit → Env → World → Prop := fun ex e w => blockQ ex 1 (q5 pr k Q) e w
def q7 (pr : Prims) (k : Env → World → Prop) (Q : Exit → Env → World → Prop) : Exit → Env → World → Prop := fun ex e w => normQ ex (fun e w => contE pr cfg (sub (codeOf Tryz.f30) [1, 1, 1, 1, 1, 0, 1, 0, 0, 1, 0, 0, 1, 1]) (fun e w => wpC pr PP cfg (DD pr) (sub (codeOf Tryz.f30) [1, 1, 1, 1, 1, 0, 1, 0, 0, 1, 0, 0, 1, 1]) (q6 pr k Q) e w) e w) (q6 pr k Q) e w
def q8 (pr : Prims) (k : Env → World → Prop) (Q : Exit → Env → World → Prop) : Exit → Env → World → Prop := fun ex e w => blockQ ex 2 (q7 pr k Q) e w
def j6 (p_0 : Sl) (q_1 : Sl) (chosen_2 : Sl) (from_7 : Int) : Env := [(0, Sl.v p_0), (1, Sl.v q_1), (2, Sl.v chosen_2), (7, vI from_7)]
def emb8 (p_0 : Sl) (q_1 : Sl) (chosen_2 : Sl) (k_8 : Int) (i_9 : Int) : Env := [(0, Sl.v p_0), (1, Sl.v q_1), (2, Sl.v chosen_2), (8, vI k_8), (9, vI i_9)]
def emb12 (p_0 : Sl) (q_1 : Sl) (chosen_2 : Sl) (k_8 : Int) (i_9 : Int) (fits_10 : Bool) (t42 : Sl) (t43 : Int) (t44 : Int) : Env := [(0, Sl.v p_0), (1, Sl.v q_1), (2, Sl.v chosen_2), (8, vI k_8), (9, vI i_9), (10, .bool fits_10), (42, Sl.v t42), (43, vI t43), (44, vI t44)]
def x2 (p_0 : Sl) (q_1 : Sl) (chosen_2 : Sl) (k_8 : Int) (i_9 : Int) (fits_10 : Bool) : Env := [(0, Sl.v p_0), (1, Sl.v q_1), (2, Sl.v chosen_2), (8, vI k_8), (9, vI i_9), (10, .bool fits_10)]
def x0 : Env := []
def S12 (pr : Prims) (Q : Exit → Env → World → Prop) : (Env → World → Prop) → Env → World → Prop := fun k e w => wpC pr PP cfg (DD pr) (sub (codeOf Tryz.f30) [1, 1, 1, 1, 1, 0, 1, 0, 0, 1, 0, 0, 1, 0, 1, 0, 0]) (fun ex e w => normQ ex (fun e' w' => k (Env.restr e' (lookN cfg.loops (keyOf (sub (codeOf Tryz.f30) [1, 1, 1, 1, 1, 0, 1, 0, 0, 1, 0, 0, 1, 0, 1, 0, 0])))) w') Q e w) e w
def S8 (pr : Prims) (Q : Exit → Env → World → Prop) : (Env → World → Prop) → Env → World → Prop := fun k e w => wpC pr PP cfg (DD pr) (sub (codeOf Tryz.f30) [1, 1, 1, 1, 1, 0, 1, 0, 0]) (fun ex e w => normQ ex (fun e' w' => k (Env.restr e' (lookN cfg.loops (keyOf (sub (codeOf Tryz.f30) [1, 1, 1, 1, 1, 0, 1, 0, 0])))) w') Q e w) e w
def B12 (pr : Prims) (p_0 : Sl) (q_1 : Sl) (chosen_2 : Sl) (k_8 : Int) (i_9 : Int) (fits_10 : Bool) (t42 : Sl) (t43 : Int) (t44 : Int) (w : World) (k : Env → World → Prop) (Q : Exit → Env → World → Prop) : Prop :=
  S12 pr Q k (emb12 p_0 q_1 chosen_2 k_8 i_9 fits_10 t42 t43 t44) w
def L12 (pr : Prims) (p_0 : Sl) (q_1 : Sl) (chosen_2 : Sl) (k_8 : Int) (i_9 : Int) (fits_10 : Bool) (t42 : Sl) (t43 : Int) (t44 : Int) (w : World) (Q : Exit → Env → World → Prop) : Prop :=
  pr.loop (S12 pr Q) (emb12 p_0 q_1 chosen_2 k_8 i_9 fits_10 t42 t43 t44) w
def B8 (pr : Prims) (p_0 : Sl) (q_1 : Sl) (chosen_2 : Sl) (k_8 : Int) (i_9 : Int) (w : World) (k : Env → World → Prop) (Q : Exit → Env → World → Prop) : Prop :=
  S8 pr Q k (emb8 p_0 q_1 chosen_2 k_8 i_9) w
def L8 (pr : Prims) (p_0 : Sl) (q_1 : Sl) (chosen_2 : Sl) (k_8 : Int) (i_9 : Int) (w : World) (Q : Exit → Env → World → Prop) : Prop :=
  pr.loop (S8 pr Q) (emb8 p_0 q_1 chosen_2 k_8 i_9) w
def J6 (pr : Prims) (p_0 : Sl) (q_1 : Sl) (chosen_2 : Sl) (from_7 : Int) (w : World) (R : Ending → World → Prop) : Prop :=
  pr.seg (fun e w => wpC pr PP cfg (DD pr) (sub (codeOf Tryz.f30) [1, 1, 1, 1]) (retQ Tryz.f30.results.toList R) e w) (j6 p_0 q_1 chosen_2 from_7) w
def E (pr : Prims) (p_0 : Sl) (q_1 : Sl) (chosen_2 : Sl) (w : World) (R : Ending → World → Prop) : Prop :=
  wpC pr PP cfg (DD pr) (codeOf Tryz.f30) (retQ Tryz.f30.results.toList R) (argE 0 [Sl.v p_0, Sl.v q_1, Sl.v chosen_2]) w
theorem B12_eq (pr : Prims) (p_0 : Sl) (q_1 : Sl) (chosen_2 : Sl) (k_8 : Int) (i_9 : Int) (fits_10 : Bool) (t42 : Sl) (t43 : Int) (t44 : Int) (w : World) (k : Env → World → Prop) (Q : Exit → Env → World → Prop) : B12 pr p_0 q_1 chosen_2 k_8 i_9 fits_10 t42 t43 t44 w k Q = (
  bif decide (t44 < t43) then (
  pr.idxK 1 t42 t44 fun (a9 : Addr) =>
  pr.load1 (.int .i64) a9 w fun (ξ10 : Int) =>
  bif fits_10 then (
  pr.idxK 1 p_0 ξ10 fun (a11 : Addr) =>
  pr.load1 (.int .i64) a11 w fun (ξ12 : Int) =>
  pr.idxK 1 p_0 i_9 fun (a13 : Addr) =>
  pr.load1 (.int .i64) a13 w fun (ξ14 : Int) =>
  pr.idxK 1 q_1 t44 fun (a15 : Addr) =>
  pr.load1 (.int .i64) a15 w fun (ξ16 : Int) =>
  pr.idxK 1 q_1 k_8 fun (a17 : Addr) =>
  pr.load1 (.int .i64) a17 w fun (ξ18 : Int) =>
  pr.drewAll w fun ω19 =>
  k (emb12 p_0 q_1 chosen_2 k_8 i_9 ((decide (ξ12 < ξ14)) == (decide (ξ16 < ξ18))) t42 t43 (w64 (t44 + 1))) ω19)
  else (
  pr.drewAll w fun ω20 =>
  k (emb12 p_0 q_1 chosen_2 k_8 i_9 false t42 t43 (w64 (t44 + 1))) ω20))
  else (
  Q (.exit 2) (x2 p_0 q_1 chosen_2 k_8 i_9 fits_10) w)) := by kernel_rfl
theorem B12_s (p_0 : Sl) (q_1 : Sl) (chosen_2 : Sl) (k_8 : Int) (i_9 : Int) (fits_10 : Bool) (t42 : Sl) (t43 : Int) (t44 : Int) (w : World) (k : Env → World → Prop) (Q : Exit → Env → World → Prop) : B12 std p_0 q_1 chosen_2 k_8 i_9 fits_10 t42 t43 t44 w k Q = (
  bif decide (t44 < t43) then (
  idxK 1 t42 t44 fun (a9 : Addr) =>
  load1 (.int .i64) a9 w fun (ξ10 : Int) =>
  bif fits_10 then (
  idxK 1 p_0 ξ10 fun (a11 : Addr) =>
  load1 (.int .i64) a11 w fun (ξ12 : Int) =>
  idxK 1 p_0 i_9 fun (a13 : Addr) =>
  load1 (.int .i64) a13 w fun (ξ14 : Int) =>
  idxK 1 q_1 t44 fun (a15 : Addr) =>
  load1 (.int .i64) a15 w fun (ξ16 : Int) =>
  idxK 1 q_1 k_8 fun (a17 : Addr) =>
  load1 (.int .i64) a17 w fun (ξ18 : Int) =>
  drewAll w fun ω19 =>
  k (emb12 p_0 q_1 chosen_2 k_8 i_9 ((decide (ξ12 < ξ14)) == (decide (ξ16 < ξ18))) t42 t43 (w64 (t44 + 1))) ω19)
  else (
  drewAll w fun ω20 =>
  k (emb12 p_0 q_1 chosen_2 k_8 i_9 false t42 t43 (w64 (t44 + 1))) ω20))
  else (
  Q (.exit 2) (x2 p_0 q_1 chosen_2 k_8 i_9 fits_10) w)) := B12_eq std p_0 q_1 chosen_2 k_8 i_9 fits_10 t42 t43 t44 w k Q
theorem L12_rule (p_0 : Sl) (q_1 : Sl) (chosen_2 : Sl) (k_8 : Int) (i_9 : Int) (fits_10 : Bool) (t42 : Sl) (t43 : Int) (t44 : Int) (w : World) (Q : Exit → Env → World → Prop) (I : Bool → Int → World → Prop) (μ : Bool → Int → World → Nat) (h0 : I fits_10 t44 w)
    (h : ∀ (fits_10 : Bool) (t44 : Int) (w' : World), I fits_10 t44 w' → B12 std p_0 q_1 chosen_2 k_8 i_9 fits_10 t42 t43 t44 w' (fun e2 w2 => ∃ fits_10_n t44_n, e2 = emb12 p_0 q_1 chosen_2 k_8 i_9 fits_10_n t42 t43 t44_n ∧ I fits_10_n t44_n w2 ∧ μ fits_10_n t44_n w2 < μ fits_10 t44 w') Q) :
    L12 std p_0 q_1 chosen_2 k_8 i_9 fits_10 t42 t43 t44 w Q := by
  unfold L12
  refine LoopE.intro (σ := Bool × Int) (step := S12 std Q) (fun s => emb12 p_0 q_1 chosen_2 k_8 i_9 s.1 t42 t43 s.2) (fun s w => I s.1 s.2 w) (fun s w => μ s.1 s.2 w) (fits_10, t44) rfl h0 ?_
  intro s w' hI
  have h1 := h s.1 s.2 w' hI
  unfold B12 at h1
  simp only [Prod.exists]
  exact h1
theorem A12_2_eq (pr : Prims) (p_0 : Sl) (q_1 : Sl) (chosen_2 : Sl) (k_8 : Int) (i_9 : Int) (fits_10 : Bool) (w : World) (k : Env → World → Prop) (Q : Exit → Env → World → Prop) : (q8 pr k Q) (.exit 2) (x2 p_0 q_1 chosen_2 k_8 i_9 fits_10) w = (
  bif fits_10 then (
  pr.call1 .sl PP F.slices_Clone___int_int_ #[Sl.v chosen_2] w fun (ρ21 : Sl) ω22 =>
  pr.sem1 .sl PP (Instr.buildSlice T_Sint 1 #[(0, vI i_9)]) ω22 fun (ρ23 : Sl) ω24 =>
  pr.sem1 .sl PP (Builtin.append_ #[T_Sint, T_Sint] T_Sint #[Sl.v ρ21, Sl.v ρ23]) ω24 fun (ρ25 : Sl) ω26 =>
  pr.call1 .bool PP F.impl_has #[Sl.v p_0, Sl.v q_1, Sl.v ρ25] ω26 fun (ρ27 : Bool) ω28 =>
  bif ρ27 then (
  Q .ret [(6, .bool true)] ω28)
  else (
  k (emb8 p_0 q_1 chosen_2 k_8 (w64 (i_9 + 1))) ω28))
  else (
  k (emb8 p_0 q_1 chosen_2 k_8 (w64 (i_9 + 1))) w)) := by kernel_rfl
theorem A12_2_s (p_0 : Sl) (q_1 : Sl) (chosen_2 : Sl) (k_8 : Int) (i_9 : Int) (fits_10 : Bool) (w : World) (k : Env → World → Prop) (Q : Exit → Env → World → Prop) : (q8 std k Q) (.exit 2) (x2 p_0 q_1 chosen_2 k_8 i_9 fits_10) w = (
  bif fits_10 then (
  call1 .sl PP F.slices_Clone___int_int_ #[Sl.v chosen_2] w fun (ρ21 : Sl) ω22 =>
  sem1 .sl PP (Instr.buildSlice T_Sint 1 #[(0, vI i_9)]) ω22 fun (ρ23 : Sl) ω24 =>
  sem1 .sl PP (Builtin.append_ #[T_Sint, T_Sint] T_Sint #[Sl.v ρ21, Sl.v ρ23]) ω24 fun (ρ25 : Sl) ω26 =>
  call1 .bool PP F.impl_has #[Sl.v p_0, Sl.v q_1, Sl.v ρ25] ω26 fun (ρ27 : Bool) ω28 =>
  bif ρ27 then (
  Q .ret [(6, .bool true)] ω28)
  else (
  k (emb8 p_0 q_1 chosen_2 k_8 (w64 (i_9 + 1))) ω28))
  else (
  k (emb8 p_0 q_1 chosen_2 k_8 (w64 (i_9 + 1))) w)) := A12_2_eq std p_0 q_1 chosen_2 k_8 i_9 fits_10 w k Q
theorem B8_eq (pr : Prims) (p_0 : Sl) (q_1 : Sl) (chosen_2 : Sl) (k_8 : Int) (i_9 : Int) (w : World) (k : Env → World → Prop) (Q : Exit → Env → World → Prop) : B8 pr p_0 q_1 chosen_2 k_8 i_9 w k Q = (
  bif decide (i_9 ≤ (w64 ((p_0.n : Int) - (w64 ((q_1.n : Int) - k_8))))) then (
  L12 pr p_0 q_1 chosen_2 k_8 i_9 true chosen_2 (chosen_2.n : Int) 0 w (q8 pr k Q))
  else (
  Q (.exit 0) (x0) w)) := by kernel_rfl
theorem B8_s (p_0 : Sl) (q_1 : Sl) (chosen_2 : Sl) (k_8 : Int) (i_9 : Int) (w : World) (k : Env → World → Prop) (Q : Exit → Env → World → Prop) : B8 std p_0 q_1 chosen_2 k_8 i_9 w k Q = (
  bif decide (i_9 ≤ (w64 ((p_0.n : Int) - (w64 ((q_1.n : Int) - k_8))))) then (
  L12 std p_0 q_1 chosen_2 k_8 i_9 true chosen_2 (chosen_2.n : Int) 0 w (q8 std k Q))
  else (
  Q (.exit 0) (x0) w)) := B8_eq std p_0 q_1 chosen_2 k_8 i_9 w k Q
theorem L8_rule (p_0 : Sl) (q_1 : Sl) (chosen_2 : Sl) (k_8 : Int) (i_9 : Int) (w : World) (Q : Exit → Env → World → Prop) (I : Int → World → Prop) (μ : Int → World → Nat) (h0 : I i_9 w)
    (h : ∀ (i_9 : Int) (w' : World), I i_9 w' → B8 std p_0 q_1 chosen_2 k_8 i_9 w' (fun e2 w2 => ∃ i_9_n, e2 = emb8 p_0 q_1 chosen_2 k_8 i_9_n ∧ I i_9_n w2 ∧ μ i_9_n w2 < μ i_9 w') Q) :
    L8 std p_0 q_1 chosen_2 k_8 i_9 w Q := by
  unfold L8
  refine LoopE.intro (σ := Int) (step := S8 std Q) (fun s => emb8 p_0 q_1 chosen_2 k_8 s) (fun s w => I s w) (fun s w => μ s w) i_9 rfl h0 ?_
  intro s w' hI
  have h1 := h s w' hI
  unfold B8 at h1
  exact h1
theorem A8_0_eq (pr : Prims) (w : World) (R : Ending → World → Prop) : (q4 pr R) (.exit 0) (x0) w = (
  R (.returned (.bool false)) w) := by kernel_rfl
theorem A8_0_s (w : World) (R : Ending → World → Prop) : (q4 std R) (.exit 0) (x0) w = (
  R (.returned (.bool false)) w) := A8_0_eq std w R
theorem R8_eq (pr : Prims) (v6 : Value) (w : World) (R : Ending → World → Prop) : (q4 pr R) .ret [(6, v6)] w = (
  R (.returned (v6)) w) := by kernel_rfl
theorem R8_s (v6 : Value) (w : World) (R : Ending → World → Prop) : (q4 std R) .ret [(6, v6)] w = (
  R (.returned (v6)) w) := R8_eq std v6 w R
theorem J6_gen (pr : Prims) (p_0 : Sl) (q_1 : Sl) (chosen_2 : Sl) (from_7 : Int) (w : World) (R : Ending → World → Prop) : wpC pr PP cfg (DD pr) (sub (codeOf Tryz.f30) [1, 1, 1, 1]) (retQ Tryz.f30.results.toList R) (j6 p_0 q_1 chosen_2 from_7) w = (
  L8 pr p_0 q_1 chosen_2 (chosen_2.n : Int) from_7 w (q4 pr R)) := by kernel_rfl
theorem J6_s (p_0 : Sl) (q_1 : Sl) (chosen_2 : Sl) (from_7 : Int) (w : World) (R : Ending → World → Prop) : J6 std p_0 q_1 chosen_2 from_7 w R = (
  L8 std p_0 q_1 chosen_2 (chosen_2.n : Int) from_7 w (q4 std R)) := J6_gen std p_0 q_1 chosen_2 from_7 w R
theorem E_eq (pr : Prims) (p_0 : Sl) (q_1 : Sl) (chosen_2 : Sl) (w : World) (R : Ending → World → Prop) : E pr p_0 q_1 chosen_2 w R = (
  bif (chosen_2.n : Int) == (q_1.n : Int) then (
  R (.returned (.bool true)) w)
  else (
  bif decide ((chosen_2.n : Int) > 0) then (
  pr.idxK 1 chosen_2 (w64 ((chosen_2.n : Int) - 1)) fun (a1 : Addr) =>
  pr.load1 (.int .i64) a1 w fun (ξ2 : Int) =>
  J6 pr p_0 q_1 chosen_2 (w64 (ξ2 + 1)) w R)
  else (
  J6 pr p_0 q_1 chosen_2 0 w R))) := by kernel_rfl
theorem E_s (p_0 : Sl) (q_1 : Sl) (chosen_2 : Sl) (w : World) (R : Ending → World → Prop) : E std p_0 q_1 chosen_2 w R = (
  bif (chosen_2.n : Int) == (q_1.n : Int) then (
  R (.returned (.bool true)) w)
  else (
  bif decide ((chosen_2.n : Int) > 0) then (
  idxK 1 chosen_2 (w64 ((chosen_2.n : Int) - 1)) fun (a1 : Addr) =>
  load1 (.int .i64) a1 w fun (ξ2 : Int) =>
  J6 std p_0 q_1 chosen_2 (w64 (ξ2 + 1)) w R)
  else (
  J6 std p_0 q_1 chosen_2 0 w R))) := E_eq std p_0 q_1 chosen_2 w R
theorem drawsOk : drawsOk PP cfg okD (codeOf Tryz.f30) = true := by kernel_rfl
theorem calls (p_0 : Sl) (q_1 : Sl) (chosen_2 : Sl) {w : World} {R : Ending → World → Prop} (h : E std p_0 q_1 chosen_2 w R) : Calls PP F.impl_has #[Sl.v p_0, Sl.v q_1, Sl.v chosen_2] w R :=
  calls_of noCount mixed drawOk Tryz.func30 rfl (c := cfg) (args := [Sl.v p_0, Sl.v q_1, Sl.v chosen_2]) rfl (Nat.le_of_ble_eq_true (by kernel_rfl)) drawsOk h
end impl_has

end Go.Proofs.YtlcemelmnkipmaaGreat

/- What each function does, step by step, written by a program (Gen.lean); each equation is checked by the kernel. -/
namespace Go.Proofs.YtlcemelmnkipmaaGreat
open Go
set_option linter.unusedVariables false
set_option maxRecDepth 100000
namespace slices_Clone___int_int_
@[reducible] def cfg : Cfg := ⟨8, [], [], [], [2], [], [13, 32, 63, 81], [41, 4, 46, 44, 48]⟩
def E (pr : Prims) (s_0 : Sl) (w : World) (R : Ending → World → Prop) : Prop :=
  wpC pr PP cfg (DD pr) (codeOf Tryz.f56) (retQ Tryz.f56.results.toList R) (argE 0 [Sl.v s_0]) w
theorem E_eq (pr : Prims) (s_0 : Sl) (w : World) (R : Ending → World → Prop) : E pr s_0 w R = (
  bif s_0.a.isNone then (
  R (.returned (Sl.v Sl.nil)) w)
  else (
  pr.sem1 .sl PP (Instr.buildSlice T_Sint 0 #[]) w fun (ρ0 : Sl) ω1 =>
  pr.sem1 .sl PP (Builtin.append_ #[T_Sint, T_Sint] T_Sint #[Sl.v ρ0, Sl.v s_0]) ω1 fun (ρ2 : Sl) ω3 =>
  R (.returned (Sl.v ρ2)) ω3)) := by kernel_rfl
theorem E_s (s_0 : Sl) (w : World) (R : Ending → World → Prop) : E std s_0 w R = (
  bif s_0.a.isNone then (
  R (.returned (Sl.v Sl.nil)) w)
  else (
  sem1 .sl PP (Instr.buildSlice T_Sint 0 #[]) w fun (ρ0 : Sl) ω1 =>
  sem1 .sl PP (Builtin.append_ #[T_Sint, T_Sint] T_Sint #[Sl.v ρ0, Sl.v s_0]) ω1 fun (ρ2 : Sl) ω3 =>
  R (.returned (Sl.v ρ2)) ω3)) := E_eq std s_0 w R
theorem drawsOk : drawsOk PP cfg okD (codeOf Tryz.f56) = true := by kernel_rfl
theorem calls (s_0 : Sl) {w : World} {R : Ending → World → Prop} (h : E std s_0 w R) : Calls PP F.slices_Clone___int_int_ #[Sl.v s_0] w R :=
  calls_of noCount mixed drawOk Tryz.func56 rfl (c := cfg) (args := [Sl.v s_0]) rfl (Nat.le_of_ble_eq_true (by kernel_rfl)) drawsOk h
end slices_Clone___int_int_

end Go.Proofs.YtlcemelmnkipmaaGreat

/- Rows given by a function of the place. -/
namespace Go.Proofs.YtlcemelmnkipmaaGreat
open Go Go.RowKit
set_option maxRecDepth 100000

def tab (n : Nat) (f : Nat → Int) : List Int := (List.range n).map f
theorem tab_length (n : Nat) (f : Nat → Int) : (tab n f).length = n := by simp [tab]
theorem tab_getD {n : Nat} (f : Nat → Int) {i : Nat} (h : i < n) : (tab n f).getD i 0 = f i := by simp [tab, List.getD_eq_getElem?_getD, h]
theorem tab_set {n : Nat} (f : Nat → Int) (i : Nat) (v : Int) : (tab n f).set i v = tab n (fun j => if j = i then v else f j) := by
  apply List.ext_getElem?
  intro k
  simp only [tab, List.getElem?_set, List.getElem?_map, List.length_map, List.length_range]
  by_cases hk : k < n
  · rw [List.getElem?_range hk]
    by_cases hik : i = k
    · subst hik; simp [hk]
    · simp [hik, Ne.symm hik]
  · rw [List.getElem?_eq_none (by simpa using hk)]
    by_cases hik : i = k
    · subst hik; simp [hk]
    · simp [hik]
theorem tab_congr {n : Nat} {f g : Nat → Int} (h : ∀ j, j < n → f j = g j) : tab n f = tab n g := by
  unfold tab; apply List.map_congr_left; intro j hj; exact h j (by simpa using hj)
theorem grownBy_trans {a b c : World} {r : Option Nat} (h : a.grownBy b r) (k : b.grownBy c r) : a.grownBy c r :=
  ⟨k.os.trans h.os, k.tape.trans h.tape, k.output.trans h.output, Nat.le_trans h.size k.size, fun x hx hne => (k.block x (Nat.lt_of_lt_of_le hx h.size) hne).trans (h.block x hx hne)⟩
theorem grownBy_refl (a : World) (r : Option Nat) : a.grownBy a r := ⟨rfl, rfl, rfl, Nat.le_refl _, fun _ _ _ => rfl⟩
theorem Drew.grownBy {a b : World} (h : Drew a b) (r : Option Nat) : a.grownBy b r := by obtain ⟨n, rfl⟩ := h; exact ⟨rfl, rfl, rfl, Nat.le_refl _, fun _ _ _ => rfl⟩
theorem tab_succ (n : Nat) (f : Nat → Int) : tab (n + 1) f = tab n f ++ [f n] := by simp [tab, List.range_succ]
theorem tab_self (L : List Int) : tab L.length (fun k => L.getD k 0) = L := by
  apply List.ext_getElem?
  intro k
  by_cases hk : k < L.length
  · simp [tab, List.getElem?_range hk, List.getD_eq_getElem?_getD, List.getElem?_eq_getElem hk, hk]
  · rw [List.getElem?_eq_none (by simp [tab]; omega), List.getElem?_eq_none (by omega)]
theorem tab_reverse (L : List Int) : tab L.length (fun k => L.getD (L.length - 1 - k) 0) = L.reverse := by
  apply List.ext_getElem?
  intro k
  by_cases hk : k < L.length
  · rw [List.getElem?_reverse hk]
    simp [tab, List.getElem?_range hk, List.getD_eq_getElem?_getD, List.getElem?_eq_getElem (show L.length - 1 - k < L.length by omega)]
  · rw [List.getElem?_eq_none (by simp [tab]; omega), List.getElem?_eq_none (by simp; omega)]
end Go.Proofs.YtlcemelmnkipmaaGreat

/- The library's Clone of a row of ints. -/
namespace Go.Proofs.YtlcemelmnkipmaaGreat
open Go Go.RowKit
set_option maxRecDepth 100000

theorem c_Clone {w : World} {a : Sl} {L : List Int} (ha : RowI w a L) (hL : L.length < 2^38) :
    Calls PP F.slices_Clone___int_int_ #[a.v] w fun e w' => ∃ s : Sl, e = .returned s.v ∧ OwnI w' w.heap.size s L ∧ Below w.heap.size w w' := by
  refine slices_Clone___int_int_.calls a ?_
  rw [slices_Clone___int_int_.E_s]
  refine bif_intro (fun h => ?_) (fun h => ?_)
  · have : L = [] := by
      cases L with
      | nil => rfl
      | cons x r => obtain ⟨b, hb, _⟩ := ha.cell 0 (vI x) rfl; rw [hb] at h; cases h
    subst this
    exact ⟨Sl.nil, rfl, Own.nil _ _ _, Below.refl _ _⟩
  · refine lit0 oneInt (B := w.heap.size) (Nat.le_refl _) ?_
    intro t w1 ht hg _
    have hb := below_of_grow hg
    refine append_row oneInt ht hb.size (ha.grow hb) (fun v hv => by obtain ⟨x, _, rfl⟩ := List.mem_map.1 hv; exact One.int x) (by simp; omega) ?_
    intro s w2 hs hg2 _ _
    exact ⟨s, rfl, by simpa using hs, hb.grown hg2 hb.size (fun g hg => (ht.lt g hg).1)⟩
end Go.Proofs.YtlcemelmnkipmaaGreat

/- What each function does, step by step, written by a program (Gen.lean); each equation is checked by the kernel. -/
namespace Go.Proofs.YtlcemelmnkipmaaGreat
open Go
set_option linter.unusedVariables false
set_option maxRecDepth 100000
namespace spec_l1In
@[reducible] def cfg : Cfg := ⟨15, [], [], [], [6], [], [13, 32, 63, 81], [41, 4, 46, 44, 48]⟩
def E (pr : Prims) (x_0 : Int) (lo_1 : Int) (hi_2 : Int) (w : World) (R : Ending → World → Prop) : Prop :=
  wpC pr PP cfg (DD pr) (codeOf Tryz.f44) (retQ Tryz.f44.results.toList R) (argE 0 [vI x_0, vI lo_1, vI hi_2]) w
theorem E_eq (pr : Prims) (x_0 : Int) (lo_1 : Int) (hi_2 : Int) (w : World) (R : Ending → World → Prop) : E pr x_0 lo_1 hi_2 w R = (
  bif decide (x_0 ≥ lo_1) then (
  R (.returned (.bool (decide (x_0 ≤ hi_2)))) w)
  else (
  R (.returned (.bool false)) w)) := by kernel_rfl
theorem E_s (x_0 : Int) (lo_1 : Int) (hi_2 : Int) (w : World) (R : Ending → World → Prop) : E std x_0 lo_1 hi_2 w R = (
  bif decide (x_0 ≥ lo_1) then (
  R (.returned (.bool (decide (x_0 ≤ hi_2)))) w)
  else (
  R (.returned (.bool false)) w)) := E_eq std x_0 lo_1 hi_2 w R
theorem drawsOk : drawsOk PP cfg okD (codeOf Tryz.f44) = true := by kernel_rfl
theorem calls (x_0 : Int) (lo_1 : Int) (hi_2 : Int) {w : World} {R : Ending → World → Prop} (h : E std x_0 lo_1 hi_2 w R) : Calls PP F.spec_l1In #[vI x_0, vI lo_1, vI hi_2] w R :=
  calls_of noCount mixed drawOk Tryz.func44 rfl (c := cfg) (args := [vI x_0, vI lo_1, vI hi_2]) rfl (Nat.le_of_ble_eq_true (by kernel_rfl)) drawsOk h
end spec_l1In

namespace spec_l1Bit
@[reducible] def cfg : Cfg := ⟨4, [], [], [], [2], [], [13, 32, 63, 81], [41, 4, 46, 44, 48]⟩
def E (pr : Prims) (on_0 : Bool) (w : World) (R : Ending → World → Prop) : Prop :=
  wpC pr PP cfg (DD pr) (codeOf Tryz.f46) (retQ Tryz.f46.results.toList R) (argE 0 [.bool on_0]) w
theorem E_eq (pr : Prims) (on_0 : Bool) (w : World) (R : Ending → World → Prop) : E pr on_0 w R = (
  bif on_0 then (
  R (.returned (vI 1)) w)
  else (
  R (.returned (vI 0)) w)) := by kernel_rfl
theorem E_s (on_0 : Bool) (w : World) (R : Ending → World → Prop) : E std on_0 w R = (
  bif on_0 then (
  R (.returned (vI 1)) w)
  else (
  R (.returned (vI 0)) w)) := E_eq std on_0 w R
theorem drawsOk : drawsOk PP cfg okD (codeOf Tryz.f46) = true := by kernel_rfl
theorem calls (on_0 : Bool) {w : World} {R : Ending → World → Prop} (h : E std on_0 w R) : Calls PP F.spec_l1Bit #[.bool on_0] w R :=
  calls_of noCount mixed drawOk Tryz.func46 rfl (c := cfg) (args := [.bool on_0]) rfl (Nat.le_of_ble_eq_true (by kernel_rfl)) drawsOk h
end spec_l1Bit

namespace impl_isPerm
@[reducible] def cfg : Cfg := ⟨34, [(3, [0, 3, 10, 11, 12])], [(1, [0, 3, 10, 11, 12]), (0, [])], [], [2], [], [13, 32, 63, 81], [41, 4, 46, 44, 48]⟩
def q2 (pr : Prims) (R : Ending → World → Prop) : Exit → Env → World → Prop := fun ex e w => normQ ex (fun e w => contE pr cfg (sub (codeOf Tryz.f55) [1, 1, 1]) (fun e w => wpC pr PP cfg (DD pr) (sub (codeOf Tryz.f55) [1, 1, 1]) (retQ Tryz.f55.results.toList R) e w) e w) (retQ Tryz.f55.results.toList R) e w
def q3 (pr : Prims) (R : Ending → World → Prop) : Exit → Env → World → Prop := fun ex e w => blockQ ex 0 (q2 pr R) e w
def emb3 (p_0 : Sl) (seen_3 : Sl) (t10 : Sl) (t11 : Int) (t12 : Int) : Env := [(0, Sl.v p_0), (3, Sl.v seen_3), (10, Sl.v t10), (11, vI t11), (12, vI t12)]
def x0 : Env := []
def S3 (pr : Prims) (Q : Exit → Env → World → Prop) : (Env → World → Prop) → Env → World → Prop := fun k e w => wpC pr PP cfg (DD pr) (sub (codeOf Tryz.f55) [1, 1, 0, 1, 0, 0]) (fun ex e w => normQ ex (fun e' w' => k (Env.restr e' (lookN cfg.loops (keyOf (sub (codeOf Tryz.f55) [1, 1, 0, 1, 0, 0])))) w') Q e w) e w
def B3 (pr : Prims) (p_0 : Sl) (seen_3 : Sl) (t10 : Sl) (t11 : Int) (t12 : Int) (w : World) (k : Env → World → Prop) (Q : Exit → Env → World → Prop) : Prop :=
  S3 pr Q k (emb3 p_0 seen_3 t10 t11 t12) w
def L3 (pr : Prims) (p_0 : Sl) (seen_3 : Sl) (t10 : Sl) (t11 : Int) (t12 : Int) (w : World) (Q : Exit → Env → World → Prop) : Prop :=
  pr.loop (S3 pr Q) (emb3 p_0 seen_3 t10 t11 t12) w
def E (pr : Prims) (p_0 : Sl) (w : World) (R : Ending → World → Prop) : Prop :=
  wpC pr PP cfg (DD pr) (codeOf Tryz.f55) (retQ Tryz.f55.results.toList R) (argE 0 [Sl.v p_0]) w
theorem B3_eq (pr : Prims) (p_0 : Sl) (seen_3 : Sl) (t10 : Sl) (t11 : Int) (t12 : Int) (w : World) (k : Env → World → Prop) (Q : Exit → Env → World → Prop) : B3 pr p_0 seen_3 t10 t11 t12 w k Q = (
  bif decide (t12 < t11) then (
  pr.idxK 1 t10 t12 fun (a4 : Addr) =>
  pr.load1 (.int .i64) a4 w fun (ξ5 : Int) =>
  bif decide (ξ5 < 1) then (
  Q .ret [(2, .bool false)] w)
  else (
  bif decide (ξ5 > (p_0.n : Int)) then (
  Q .ret [(2, .bool false)] w)
  else (
  pr.idxK 1 seen_3 ξ5 fun (a6 : Addr) =>
  pr.load1 .bool a6 w fun (ξ7 : Bool) =>
  bif ξ7 then (
  Q .ret [(2, .bool false)] w)
  else (
  pr.idxK 1 seen_3 ξ5 fun (a8 : Addr) =>
  pr.storeC a8 (.bool true) w fun ω9 =>
  k (emb3 p_0 seen_3 t10 t11 (w64 (t12 + 1))) ω9))))
  else (
  Q (.exit 0) (x0) w)) := by kernel_rfl
theorem B3_s (p_0 : Sl) (seen_3 : Sl) (t10 : Sl) (t11 : Int) (t12 : Int) (w : World) (k : Env → World → Prop) (Q : Exit → Env → World → Prop) : B3 std p_0 seen_3 t10 t11 t12 w k Q = (
  bif decide (t12 < t11) then (
  idxK 1 t10 t12 fun (a4 : Addr) =>
  load1 (.int .i64) a4 w fun (ξ5 : Int) =>
  bif decide (ξ5 < 1) then (
  Q .ret [(2, .bool false)] w)
  else (
  bif decide (ξ5 > (p_0.n : Int)) then (
  Q .ret [(2, .bool false)] w)
  else (
  idxK 1 seen_3 ξ5 fun (a6 : Addr) =>
  load1 .bool a6 w fun (ξ7 : Bool) =>
  bif ξ7 then (
  Q .ret [(2, .bool false)] w)
  else (
  idxK 1 seen_3 ξ5 fun (a8 : Addr) =>
  storeC a8 (.bool true) w fun ω9 =>
  k (emb3 p_0 seen_3 t10 t11 (w64 (t12 + 1))) ω9))))
  else (
  Q (.exit 0) (x0) w)) := B3_eq std p_0 seen_3 t10 t11 t12 w k Q
theorem L3_rule (p_0 : Sl) (seen_3 : Sl) (t10 : Sl) (t11 : Int) (t12 : Int) (w : World) (Q : Exit → Env → World → Prop) (I : Int → World → Prop) (μ : Int → World → Nat) (h0 : I t12 w)
    (h : ∀ (t12 : Int) (w' : World), I t12 w' → B3 std p_0 seen_3 t10 t11 t12 w' (fun e2 w2 => ∃ t12_n, e2 = emb3 p_0 seen_3 t10 t11 t12_n ∧ I t12_n w2 ∧ μ t12_n w2 < μ t12 w') Q) :
    L3 std p_0 seen_3 t10 t11 t12 w Q := by
  unfold L3
  refine LoopE.intro (σ := Int) (step := S3 std Q) (fun s => emb3 p_0 seen_3 t10 t11 s) (fun s w => I s w) (fun s w => μ s w) t12 rfl h0 ?_
  intro s w' hI
  have h1 := h s w' hI
  unfold B3 at h1
  exact h1
theorem A3_0_eq (pr : Prims) (w : World) (R : Ending → World → Prop) : (q3 pr R) (.exit 0) (x0) w = (
  R (.returned (.bool true)) w) := by kernel_rfl
theorem A3_0_s (w : World) (R : Ending → World → Prop) : (q3 std R) (.exit 0) (x0) w = (
  R (.returned (.bool true)) w) := A3_0_eq std w R
theorem R3_eq (pr : Prims) (v2 : Value) (w : World) (R : Ending → World → Prop) : (q3 pr R) .ret [(2, v2)] w = (
  R (.returned (v2)) w) := by kernel_rfl
theorem R3_s (v2 : Value) (w : World) (R : Ending → World → Prop) : (q3 std R) .ret [(2, v2)] w = (
  R (.returned (v2)) w) := R3_eq std v2 w R
theorem E_eq (pr : Prims) (p_0 : Sl) (w : World) (R : Ending → World → Prop) : E pr p_0 w R = (
  pr.sem1 .sl PP (Instr.makeSlice T_Sbool (vI (w64 ((p_0.n : Int) + 1))) (vI (w64 ((p_0.n : Int) + 1)))) w fun (ρ0 : Sl) ω1 =>
  L3 pr p_0 ρ0 p_0 (p_0.n : Int) 0 ω1 (q3 pr R)) := by kernel_rfl
theorem E_s (p_0 : Sl) (w : World) (R : Ending → World → Prop) : E std p_0 w R = (
  sem1 .sl PP (Instr.makeSlice T_Sbool (vI (w64 ((p_0.n : Int) + 1))) (vI (w64 ((p_0.n : Int) + 1)))) w fun (ρ0 : Sl) ω1 =>
  L3 std p_0 ρ0 p_0 (p_0.n : Int) 0 ω1 (q3 std R)) := E_eq std p_0 w R
theorem drawsOk : drawsOk PP cfg okD (codeOf Tryz.f55) = true := by kernel_rfl
theorem calls (p_0 : Sl) {w : World} {R : Ending → World → Prop} (h : E std p_0 w R) : Calls PP F.impl_isPerm #[Sl.v p_0] w R :=
  calls_of noCount mixed drawOk Tryz.func55 rfl (c := cfg) (args := [Sl.v p_0]) rfl (Nat.le_of_ble_eq_true (by kernel_rfl)) drawsOk h
end impl_isPerm

namespace impl_IsPerm
@[reducible] def cfg : Cfg := ⟨10, [], [], [], [2], [], [13, 32, 63, 81], [41, 4, 46, 44, 48]⟩
def E (pr : Prims) (p_0 : Sl) (w : World) (R : Ending → World → Prop) : Prop :=
  wpC pr PP cfg (DD pr) (codeOf Tryz.f29) (retQ Tryz.f29.results.toList R) (argE 0 [Sl.v p_0]) w
theorem E_eq (pr : Prims) (p_0 : Sl) (w : World) (R : Ending → World → Prop) : E pr p_0 w R = (
  bif decide ((p_0.n : Int) ≤ 8) then (
  pr.call1 .bool PP F.impl_isPerm #[Sl.v p_0] w fun (ρ0 : Bool) ω1 =>
  R (.returned (.bool ρ0)) ω1)
  else (
  R (.returned (.bool false)) w)) := by kernel_rfl
theorem E_s (p_0 : Sl) (w : World) (R : Ending → World → Prop) : E std p_0 w R = (
  bif decide ((p_0.n : Int) ≤ 8) then (
  call1 .bool PP F.impl_isPerm #[Sl.v p_0] w fun (ρ0 : Bool) ω1 =>
  R (.returned (.bool ρ0)) ω1)
  else (
  R (.returned (.bool false)) w)) := E_eq std p_0 w R
theorem drawsOk : drawsOk PP cfg okD (codeOf Tryz.f29) = true := by kernel_rfl
theorem calls (p_0 : Sl) {w : World} {R : Ending → World → Prop} (h : E std p_0 w R) : Calls PP F.impl_IsPerm #[Sl.v p_0] w R :=
  calls_of noCount mixed drawOk Tryz.func29 rfl (c := cfg) (args := [Sl.v p_0]) rfl (Nat.le_of_ble_eq_true (by kernel_rfl)) drawsOk h
end impl_IsPerm

namespace spec_IsPerm
@[reducible] def cfg : Cfg := ⟨36, [(2, [0, 3])], [(1, [0, 3]), (0, [0])], [], [2], [4], [13, 32, 63, 81], [41, 4, 46, 44, 48]⟩
def q0 (pr : Prims) (R : Ending → World → Prop) : Exit → Env → World → Prop := fun ex e w => normQ ex (fun e w => contE pr cfg (sub (codeOf Tryz.f32) [1, 1]) (fun e w => wpC pr PP cfg (DD pr) (sub (codeOf Tryz.f32) [1, 1]) (retQ Tryz.f32.results.toList R) e w) e w) (retQ Tryz.f32.results.toList R) e w
def q1 (pr : Prims) (R : Ending → World → Prop) : Exit → Env → World → Prop := fun ex e w => blockQ ex 0 (q0 pr R) e w
def emb2 (p_0 : Sl) (k_3 : Int) : Env := [(0, Sl.v p_0), (3, vI k_3)]
def x0 (p_0 : Sl) : Env := [(0, Sl.v p_0)]
def S2 (pr : Prims) (Q : Exit → Env → World → Prop) : (Env → World → Prop) → Env → World → Prop := fun k e w => wpC pr PP cfg (DD pr) (sub (codeOf Tryz.f32) [1, 0, 1, 0, 0]) (fun ex e w => normQ ex (fun e' w' => k (Env.restr e' (lookN cfg.loops (keyOf (sub (codeOf Tryz.f32) [1, 0, 1, 0, 0])))) w') Q e w) e w
def B2 (pr : Prims) (p_0 : Sl) (k_3 : Int) (w : World) (k : Env → World → Prop) (Q : Exit → Env → World → Prop) : Prop :=
  S2 pr Q k (emb2 p_0 k_3) w
def L2 (pr : Prims) (p_0 : Sl) (k_3 : Int) (w : World) (Q : Exit → Env → World → Prop) : Prop :=
  pr.loop (S2 pr Q) (emb2 p_0 k_3) w
def E (pr : Prims) (p_0 : Sl) (w : World) (R : Ending → World → Prop) : Prop :=
  wpC pr PP cfg (DD pr) (codeOf Tryz.f32) (retQ Tryz.f32.results.toList R) (argE 0 [Sl.v p_0]) w
theorem B2_eq (pr : Prims) (p_0 : Sl) (k_3 : Int) (w : World) (k : Env → World → Prop) (Q : Exit → Env → World → Prop) : B2 pr p_0 k_3 w k Q = (
  bif decide (k_3 < (p_0.n : Int)) then (
  bif decide ((p_0.n : Int) ≤ 8) then (
  pr.idxK 1 p_0 k_3 fun (a2 : Addr) =>
  pr.load1 (.int .i64) a2 w fun (ξ3 : Int) =>
  pr.pcall1 .bool PP F.spec_l1In #[vI ξ3, vI 1, vI (p_0.n : Int)] fun (ρ4 : Bool) =>
  bif !ρ4 then (
  pr.drewAll w fun ω5 =>
  Q .ret [(2, .bool false)] ω5)
  else (
  pr.cutK 1 p_0 none (some k_3) fun (s6 : Sl) =>
  pr.idxK 1 p_0 k_3 fun (a7 : Addr) =>
  pr.load1 (.int .i64) a7 w fun (ξ8 : Int) =>
  pr.qcall1 .bool PP F.spec_l2Has #[Sl.v s6, vI ξ8] w fun (ρ9 : Bool) =>
  pr.drewAll w fun ω10 =>
  bif ρ9 then (
  Q .ret [(2, .bool false)] ω10)
  else (
  k (emb2 p_0 (w64 (k_3 + 1))) ω10)))
  else (
  Q (.exit 0) (x0 p_0) w))
  else (
  Q (.exit 0) (x0 p_0) w)) := by kernel_rfl
theorem B2_s (p_0 : Sl) (k_3 : Int) (w : World) (k : Env → World → Prop) (Q : Exit → Env → World → Prop) : B2 std p_0 k_3 w k Q = (
  bif decide (k_3 < (p_0.n : Int)) then (
  bif decide ((p_0.n : Int) ≤ 8) then (
  idxK 1 p_0 k_3 fun (a2 : Addr) =>
  load1 (.int .i64) a2 w fun (ξ3 : Int) =>
  pcall1 .bool PP F.spec_l1In #[vI ξ3, vI 1, vI (p_0.n : Int)] fun (ρ4 : Bool) =>
  bif !ρ4 then (
  drewAll w fun ω5 =>
  Q .ret [(2, .bool false)] ω5)
  else (
  cutK 1 p_0 none (some k_3) fun (s6 : Sl) =>
  idxK 1 p_0 k_3 fun (a7 : Addr) =>
  load1 (.int .i64) a7 w fun (ξ8 : Int) =>
  qcall1 .bool PP F.spec_l2Has #[Sl.v s6, vI ξ8] w fun (ρ9 : Bool) =>
  drewAll w fun ω10 =>
  bif ρ9 then (
  Q .ret [(2, .bool false)] ω10)
  else (
  k (emb2 p_0 (w64 (k_3 + 1))) ω10)))
  else (
  Q (.exit 0) (x0 p_0) w))
  else (
  Q (.exit 0) (x0 p_0) w)) := B2_eq std p_0 k_3 w k Q
theorem L2_rule (p_0 : Sl) (k_3 : Int) (w : World) (Q : Exit → Env → World → Prop) (I : Int → World → Prop) (μ : Int → World → Nat) (h0 : I k_3 w)
    (h : ∀ (k_3 : Int) (w' : World), I k_3 w' → B2 std p_0 k_3 w' (fun e2 w2 => ∃ k_3_n, e2 = emb2 p_0 k_3_n ∧ I k_3_n w2 ∧ μ k_3_n w2 < μ k_3 w') Q) :
    L2 std p_0 k_3 w Q := by
  unfold L2
  refine LoopE.intro (σ := Int) (step := S2 std Q) (fun s => emb2 p_0 s) (fun s w => I s w) (fun s w => μ s w) k_3 rfl h0 ?_
  intro s w' hI
  have h1 := h s w' hI
  unfold B2 at h1
  exact h1
theorem A2_0_eq (pr : Prims) (p_0 : Sl) (w : World) (R : Ending → World → Prop) : (q1 pr R) (.exit 0) (x0 p_0) w = (
  R (.returned (.bool (decide ((p_0.n : Int) ≤ 8)))) w) := by kernel_rfl
theorem A2_0_s (p_0 : Sl) (w : World) (R : Ending → World → Prop) : (q1 std R) (.exit 0) (x0 p_0) w = (
  R (.returned (.bool (decide ((p_0.n : Int) ≤ 8)))) w) := A2_0_eq std p_0 w R
theorem R2_eq (pr : Prims) (v2 : Value) (w : World) (R : Ending → World → Prop) : (q1 pr R) .ret [(2, v2)] w = (
  R (.returned (v2)) w) := by kernel_rfl
theorem R2_s (v2 : Value) (w : World) (R : Ending → World → Prop) : (q1 std R) .ret [(2, v2)] w = (
  R (.returned (v2)) w) := R2_eq std v2 w R
theorem E_eq (pr : Prims) (p_0 : Sl) (w : World) (R : Ending → World → Prop) : E pr p_0 w R = (
  L2 pr p_0 0 w (q1 pr R)) := by kernel_rfl
theorem E_s (p_0 : Sl) (w : World) (R : Ending → World → Prop) : E std p_0 w R = (
  L2 std p_0 0 w (q1 std R)) := E_eq std p_0 w R
theorem drawsOk : drawsOk PP cfg okD (codeOf Tryz.f32) = true := by kernel_rfl
theorem calls (p_0 : Sl) {w : World} {R : Ending → World → Prop} (h : E std p_0 w R) : Calls PP F.spec_IsPerm #[Sl.v p_0] w R :=
  calls_of noCount mixed drawOk Tryz.func32 rfl (c := cfg) (args := [Sl.v p_0]) rfl (Nat.le_of_ble_eq_true (by kernel_rfl)) drawsOk h
end spec_IsPerm

namespace spec_l2Has
@[reducible] def cfg : Cfg := ⟨18, [(2, [0, 1, 5])], [(1, [0, 1, 5]), (0, [])], [], [4], [], [13, 32, 63, 81], [41, 4, 46, 44, 48]⟩
def q0 (pr : Prims) (R : Ending → World → Prop) : Exit → Env → World → Prop := fun ex e w => normQ ex (fun e w => contE pr cfg (sub (codeOf Tryz.f63) [1, 1]) (fun e w => wpC pr PP cfg (DD pr) (sub (codeOf Tryz.f63) [1, 1]) (retQ Tryz.f63.results.toList R) e w) e w) (retQ Tryz.f63.results.toList R) e w
def q1 (pr : Prims) (R : Ending → World → Prop) : Exit → Env → World → Prop := fun ex e w => blockQ ex 0 (q0 pr R) e w
def emb2 (list_0 : Sl) (n_1 : Int) (k_5 : Int) : Env := [(0, Sl.v list_0), (1, vI n_1), (5, vI k_5)]
def x0 : Env := []
def S2 (pr : Prims) (Q : Exit → Env → World → Prop) : (Env → World → Prop) → Env → World → Prop := fun k e w => wpC pr PP cfg (DD pr) (sub (codeOf Tryz.f63) [1, 0, 1, 0, 0]) (fun ex e w => normQ ex (fun e' w' => k (Env.restr e' (lookN cfg.loops (keyOf (sub (codeOf Tryz.f63) [1, 0, 1, 0, 0])))) w') Q e w) e w
def B2 (pr : Prims) (list_0 : Sl) (n_1 : Int) (k_5 : Int) (w : World) (k : Env → World → Prop) (Q : Exit → Env → World → Prop) : Prop :=
  S2 pr Q k (emb2 list_0 n_1 k_5) w
def L2 (pr : Prims) (list_0 : Sl) (n_1 : Int) (k_5 : Int) (w : World) (Q : Exit → Env → World → Prop) : Prop :=
  pr.loop (S2 pr Q) (emb2 list_0 n_1 k_5) w
def E (pr : Prims) (list_0 : Sl) (n_1 : Int) (w : World) (R : Ending → World → Prop) : Prop :=
  wpC pr PP cfg (DD pr) (codeOf Tryz.f63) (retQ Tryz.f63.results.toList R) (argE 0 [Sl.v list_0, vI n_1]) w
theorem B2_eq (pr : Prims) (list_0 : Sl) (n_1 : Int) (k_5 : Int) (w : World) (k : Env → World → Prop) (Q : Exit → Env → World → Prop) : B2 pr list_0 n_1 k_5 w k Q = (
  bif decide (k_5 < (list_0.n : Int)) then (
  pr.idxK 1 list_0 k_5 fun (a2 : Addr) =>
  pr.load1 (.int .i64) a2 w fun (ξ3 : Int) =>
  bif ξ3 == n_1 then (
  Q .ret [(4, .bool true)] w)
  else (
  k (emb2 list_0 n_1 (w64 (k_5 + 1))) w))
  else (
  Q (.exit 0) (x0) w)) := by kernel_rfl
theorem B2_s (list_0 : Sl) (n_1 : Int) (k_5 : Int) (w : World) (k : Env → World → Prop) (Q : Exit → Env → World → Prop) : B2 std list_0 n_1 k_5 w k Q = (
  bif decide (k_5 < (list_0.n : Int)) then (
  idxK 1 list_0 k_5 fun (a2 : Addr) =>
  load1 (.int .i64) a2 w fun (ξ3 : Int) =>
  bif ξ3 == n_1 then (
  Q .ret [(4, .bool true)] w)
  else (
  k (emb2 list_0 n_1 (w64 (k_5 + 1))) w))
  else (
  Q (.exit 0) (x0) w)) := B2_eq std list_0 n_1 k_5 w k Q
theorem L2_rule (list_0 : Sl) (n_1 : Int) (k_5 : Int) (w : World) (Q : Exit → Env → World → Prop) (I : Int → World → Prop) (μ : Int → World → Nat) (h0 : I k_5 w)
    (h : ∀ (k_5 : Int) (w' : World), I k_5 w' → B2 std list_0 n_1 k_5 w' (fun e2 w2 => ∃ k_5_n, e2 = emb2 list_0 n_1 k_5_n ∧ I k_5_n w2 ∧ μ k_5_n w2 < μ k_5 w') Q) :
    L2 std list_0 n_1 k_5 w Q := by
  unfold L2
  refine LoopE.intro (σ := Int) (step := S2 std Q) (fun s => emb2 list_0 n_1 s) (fun s w => I s w) (fun s w => μ s w) k_5 rfl h0 ?_
  intro s w' hI
  have h1 := h s w' hI
  unfold B2 at h1
  exact h1
theorem A2_0_eq (pr : Prims) (w : World) (R : Ending → World → Prop) : (q1 pr R) (.exit 0) (x0) w = (
  R (.returned (.bool false)) w) := by kernel_rfl
theorem A2_0_s (w : World) (R : Ending → World → Prop) : (q1 std R) (.exit 0) (x0) w = (
  R (.returned (.bool false)) w) := A2_0_eq std w R
theorem R2_eq (pr : Prims) (v4 : Value) (w : World) (R : Ending → World → Prop) : (q1 pr R) .ret [(4, v4)] w = (
  R (.returned (v4)) w) := by kernel_rfl
theorem R2_s (v4 : Value) (w : World) (R : Ending → World → Prop) : (q1 std R) .ret [(4, v4)] w = (
  R (.returned (v4)) w) := R2_eq std v4 w R
theorem E_eq (pr : Prims) (list_0 : Sl) (n_1 : Int) (w : World) (R : Ending → World → Prop) : E pr list_0 n_1 w R = (
  L2 pr list_0 n_1 0 w (q1 pr R)) := by kernel_rfl
theorem E_s (list_0 : Sl) (n_1 : Int) (w : World) (R : Ending → World → Prop) : E std list_0 n_1 w R = (
  L2 std list_0 n_1 0 w (q1 std R)) := E_eq std list_0 n_1 w R
theorem drawsOk : drawsOk PP cfg okD (codeOf Tryz.f63) = true := by kernel_rfl
theorem calls (list_0 : Sl) (n_1 : Int) {w : World} {R : Ending → World → Prop} (h : E std list_0 n_1 w R) : Calls PP F.spec_l2Has #[Sl.v list_0, vI n_1] w R :=
  calls_of noCount mixed drawOk Tryz.func63 rfl (c := cfg) (args := [Sl.v list_0, vI n_1]) rfl (Nat.le_of_ble_eq_true (by kernel_rfl)) drawsOk h
end spec_l2Has

namespace spec_LongestUp
@[reducible] def cfg : Cfg := ⟨8, [], [], [], [2], [], [13, 32, 63, 81], [41, 4, 46, 44, 48]⟩
def E (pr : Prims) (p_0 : Sl) (w : World) (R : Ending → World → Prop) : Prop :=
  wpC pr PP cfg (DD pr) (codeOf Tryz.f26) (retQ Tryz.f26.results.toList R) (argE 0 [Sl.v p_0]) w
theorem E_eq (pr : Prims) (p_0 : Sl) (w : World) (R : Ending → World → Prop) : E pr p_0 w R = (
  pr.call1 .bool PP F.spec_IsPerm #[Sl.v p_0] w fun (ρ0 : Bool) ω1 =>
  bif !ρ0 then (
  R (.returned (vI (-1))) ω1)
  else (
  pr.call1 (.int .i64) PP F.spec_l20Up #[Sl.v p_0] ω1 fun (ρ2 : Int) ω3 =>
  R (.returned (vI ρ2)) ω3)) := by kernel_rfl
theorem E_s (p_0 : Sl) (w : World) (R : Ending → World → Prop) : E std p_0 w R = (
  call1 .bool PP F.spec_IsPerm #[Sl.v p_0] w fun (ρ0 : Bool) ω1 =>
  bif !ρ0 then (
  R (.returned (vI (-1))) ω1)
  else (
  call1 (.int .i64) PP F.spec_l20Up #[Sl.v p_0] ω1 fun (ρ2 : Int) ω3 =>
  R (.returned (vI ρ2)) ω3)) := E_eq std p_0 w R
theorem drawsOk : drawsOk PP cfg okD (codeOf Tryz.f26) = true := by kernel_rfl
theorem calls (p_0 : Sl) {w : World} {R : Ending → World → Prop} (h : E std p_0 w R) : Calls PP F.spec_LongestUp #[Sl.v p_0] w R :=
  calls_of noCount mixed drawOk Tryz.func26 rfl (c := cfg) (args := [Sl.v p_0]) rfl (Nat.le_of_ble_eq_true (by kernel_rfl)) drawsOk h
end spec_LongestUp

namespace spec_l1Max
@[reducible] def cfg : Cfg := ⟨10, [], [], [], [4], [], [13, 32, 63, 81], [41, 4, 46, 44, 48]⟩
def E (pr : Prims) (a_0 : Int) (b_1 : Int) (w : World) (R : Ending → World → Prop) : Prop :=
  wpC pr PP cfg (DD pr) (codeOf Tryz.f48) (retQ Tryz.f48.results.toList R) (argE 0 [vI a_0, vI b_1]) w
theorem E_eq (pr : Prims) (a_0 : Int) (b_1 : Int) (w : World) (R : Ending → World → Prop) : E pr a_0 b_1 w R = (
  bif decide (a_0 > b_1) then (
  R (.returned (vI a_0)) w)
  else (
  R (.returned (vI b_1)) w)) := by kernel_rfl
theorem E_s (a_0 : Int) (b_1 : Int) (w : World) (R : Ending → World → Prop) : E std a_0 b_1 w R = (
  bif decide (a_0 > b_1) then (
  R (.returned (vI a_0)) w)
  else (
  R (.returned (vI b_1)) w)) := E_eq std a_0 b_1 w R
theorem drawsOk : drawsOk PP cfg okD (codeOf Tryz.f48) = true := by kernel_rfl
theorem calls (a_0 : Int) (b_1 : Int) {w : World} {R : Ending → World → Prop} (h : E std a_0 b_1 w R) : Calls PP F.spec_l1Max #[vI a_0, vI b_1] w R :=
  calls_of noCount mixed drawOk Tryz.func48 rfl (c := cfg) (args := [vI a_0, vI b_1]) rfl (Nat.le_of_ble_eq_true (by kernel_rfl)) drawsOk h
end spec_l1Max

namespace impl_isSix
@[reducible] def cfg : Cfg := ⟨9, [], [], [], [2], [], [13, 32, 63, 81], [41, 4, 46, 44, 48]⟩
def E (pr : Prims) (n_0 : Int) (w : World) (R : Ending → World → Prop) : Prop :=
  wpC pr PP cfg (DD pr) (codeOf Tryz.f41) (retQ Tryz.f41.results.toList R) (argE 0 [vI n_0]) w
theorem E_eq (pr : Prims) (n_0 : Int) (w : World) (R : Ending → World → Prop) : E pr n_0 w R = (
  bif decide (n_0 ≥ 0) then (
  R (.returned (.bool (decide (n_0 ≤ 6)))) w)
  else (
  R (.returned (.bool false)) w)) := by kernel_rfl
theorem E_s (n_0 : Int) (w : World) (R : Ending → World → Prop) : E std n_0 w R = (
  bif decide (n_0 ≥ 0) then (
  R (.returned (.bool (decide (n_0 ≤ 6)))) w)
  else (
  R (.returned (.bool false)) w)) := E_eq std n_0 w R
theorem drawsOk : drawsOk PP cfg okD (codeOf Tryz.f41) = true := by kernel_rfl
theorem calls (n_0 : Int) {w : World} {R : Ending → World → Prop} (h : E std n_0 w R) : Calls PP F.impl_isSix #[vI n_0] w R :=
  calls_of noCount mixed drawOk Tryz.func41 rfl (c := cfg) (args := [vI n_0]) rfl (Nat.le_of_ble_eq_true (by kernel_rfl)) drawsOk h
end impl_isSix

namespace spec_IdentityPerm
@[reducible] def cfg : Cfg := ⟨20, [(3, [0, 3, 4])], [(1, [0, 3, 4]), (0, [3])], [], [2], [], [13, 32, 63, 81], [41, 4, 46, 44, 48]⟩
def q2 (pr : Prims) (R : Ending → World → Prop) : Exit → Env → World → Prop := fun ex e w => normQ ex (fun e w => contE pr cfg (sub (codeOf Tryz.f39) [1, 1, 1]) (fun e w => wpC pr PP cfg (DD pr) (sub (codeOf Tryz.f39) [1, 1, 1]) (retQ Tryz.f39.results.toList R) e w) e w) (retQ Tryz.f39.results.toList R) e w
def q3 (pr : Prims) (R : Ending → World → Prop) : Exit → Env → World → Prop := fun ex e w => blockQ ex 0 (q2 pr R) e w
def emb3 (n_0 : Int) (out_3 : Sl) (k_4 : Int) : Env := [(0, vI n_0), (3, Sl.v out_3), (4, vI k_4)]
def x0 (out_3 : Sl) : Env := [(3, Sl.v out_3)]
def S3 (pr : Prims) (Q : Exit → Env → World → Prop) : (Env → World → Prop) → Env → World → Prop := fun k e w => wpC pr PP cfg (DD pr) (sub (codeOf Tryz.f39) [1, 1, 0, 1, 0, 0]) (fun ex e w => normQ ex (fun e' w' => k (Env.restr e' (lookN cfg.loops (keyOf (sub (codeOf Tryz.f39) [1, 1, 0, 1, 0, 0])))) w') Q e w) e w
def B3 (pr : Prims) (n_0 : Int) (out_3 : Sl) (k_4 : Int) (w : World) (k : Env → World → Prop) (Q : Exit → Env → World → Prop) : Prop :=
  S3 pr Q k (emb3 n_0 out_3 k_4) w
def L3 (pr : Prims) (n_0 : Int) (out_3 : Sl) (k_4 : Int) (w : World) (Q : Exit → Env → World → Prop) : Prop :=
  pr.loop (S3 pr Q) (emb3 n_0 out_3 k_4) w
def E (pr : Prims) (n_0 : Int) (w : World) (R : Ending → World → Prop) : Prop :=
  wpC pr PP cfg (DD pr) (codeOf Tryz.f39) (retQ Tryz.f39.results.toList R) (argE 0 [vI n_0]) w
theorem B3_eq (pr : Prims) (n_0 : Int) (out_3 : Sl) (k_4 : Int) (w : World) (k : Env → World → Prop) (Q : Exit → Env → World → Prop) : B3 pr n_0 out_3 k_4 w k Q = (
  bif decide (k_4 ≤ n_0) then (
  bif decide (n_0 ≤ 8) then (
  pr.sem1 .sl PP (Instr.buildSlice T_Sint 1 #[(0, vI k_4)]) w fun (ρ4 : Sl) ω5 =>
  pr.sem1 .sl PP (Builtin.append_ #[T_Sint, T_Sint] T_Sint #[Sl.v out_3, Sl.v ρ4]) ω5 fun (ρ6 : Sl) ω7 =>
  k (emb3 n_0 ρ6 (w64 (k_4 + 1))) ω7)
  else (
  Q (.exit 0) (x0 out_3) w))
  else (
  Q (.exit 0) (x0 out_3) w)) := by kernel_rfl
theorem B3_s (n_0 : Int) (out_3 : Sl) (k_4 : Int) (w : World) (k : Env → World → Prop) (Q : Exit → Env → World → Prop) : B3 std n_0 out_3 k_4 w k Q = (
  bif decide (k_4 ≤ n_0) then (
  bif decide (n_0 ≤ 8) then (
  sem1 .sl PP (Instr.buildSlice T_Sint 1 #[(0, vI k_4)]) w fun (ρ4 : Sl) ω5 =>
  sem1 .sl PP (Builtin.append_ #[T_Sint, T_Sint] T_Sint #[Sl.v out_3, Sl.v ρ4]) ω5 fun (ρ6 : Sl) ω7 =>
  k (emb3 n_0 ρ6 (w64 (k_4 + 1))) ω7)
  else (
  Q (.exit 0) (x0 out_3) w))
  else (
  Q (.exit 0) (x0 out_3) w)) := B3_eq std n_0 out_3 k_4 w k Q
theorem L3_rule (n_0 : Int) (out_3 : Sl) (k_4 : Int) (w : World) (Q : Exit → Env → World → Prop) (I : Sl → Int → World → Prop) (μ : Sl → Int → World → Nat) (h0 : I out_3 k_4 w)
    (h : ∀ (out_3 : Sl) (k_4 : Int) (w' : World), I out_3 k_4 w' → B3 std n_0 out_3 k_4 w' (fun e2 w2 => ∃ out_3_n k_4_n, e2 = emb3 n_0 out_3_n k_4_n ∧ I out_3_n k_4_n w2 ∧ μ out_3_n k_4_n w2 < μ out_3 k_4 w') Q) :
    L3 std n_0 out_3 k_4 w Q := by
  unfold L3
  refine LoopE.intro (σ := Sl × Int) (step := S3 std Q) (fun s => emb3 n_0 s.1 s.2) (fun s w => I s.1 s.2 w) (fun s w => μ s.1 s.2 w) (out_3, k_4) rfl h0 ?_
  intro s w' hI
  have h1 := h s.1 s.2 w' hI
  unfold B3 at h1
  simp only [Prod.exists]
  exact h1
theorem A3_0_eq (pr : Prims) (out_3 : Sl) (w : World) (R : Ending → World → Prop) : (q3 pr R) (.exit 0) (x0 out_3) w = (
  R (.returned (Sl.v out_3)) w) := by kernel_rfl
theorem A3_0_s (out_3 : Sl) (w : World) (R : Ending → World → Prop) : (q3 std R) (.exit 0) (x0 out_3) w = (
  R (.returned (Sl.v out_3)) w) := A3_0_eq std out_3 w R
theorem E_eq (pr : Prims) (n_0 : Int) (w : World) (R : Ending → World → Prop) : E pr n_0 w R = (
  pr.sem1 .sl PP (Instr.buildSlice T_Sint 0 #[]) w fun (ρ0 : Sl) ω1 =>
  L3 pr n_0 ρ0 1 ω1 (q3 pr R)) := by kernel_rfl
theorem E_s (n_0 : Int) (w : World) (R : Ending → World → Prop) : E std n_0 w R = (
  sem1 .sl PP (Instr.buildSlice T_Sint 0 #[]) w fun (ρ0 : Sl) ω1 =>
  L3 std n_0 ρ0 1 ω1 (q3 std R)) := E_eq std n_0 w R
theorem drawsOk : drawsOk PP cfg okD (codeOf Tryz.f39) = true := by kernel_rfl
theorem calls (n_0 : Int) {w : World} {R : Ending → World → Prop} (h : E std n_0 w R) : Calls PP F.spec_IdentityPerm #[vI n_0] w R :=
  calls_of noCount mixed drawOk Tryz.func39 rfl (c := cfg) (args := [vI n_0]) rfl (Nat.le_of_ble_eq_true (by kernel_rfl)) drawsOk h
end spec_IdentityPerm

end Go.Proofs.YtlcemelmnkipmaaGreat

/- Small helpers of the model text. -/
namespace Go.Proofs.YtlcemelmnkipmaaGreat
open Go Go.RowKit
set_option maxRecDepth 100000

theorem c_l1In (n lo hi : Int) : Pure F.spec_l1In #[vI n, vI lo, vI hi] (.bool (decide (lo ≤ n) && decide (n ≤ hi))) := by
  intro w
  refine spec_l1In.calls n lo hi ?_
  rw [spec_l1In.E_s]
  refine bif_dec (fun h => ?_) (fun h => ?_)
  · have h' : lo ≤ n := h
    simp [h']
  · have h' : ¬ lo ≤ n := h
    simp [h']
theorem c_l1Bit (b : Bool) : Pure F.spec_l1Bit #[.bool b] (vI (if b then 1 else 0)) := by
  intro w
  refine spec_l1Bit.calls b ?_
  rw [spec_l1Bit.E_s]
  cases b <;> simp
end Go.Proofs.YtlcemelmnkipmaaGreat

/- The laws' helpers over rows of ints: the copy and the comparison. -/
namespace Go.Proofs.YtlcemelmnkipmaaGreat
open Go Go.RowKit
set_option maxRecDepth 100000

theorem take_step {α : Type} (L : List α) (z : α) {i : Nat} (hi : i < L.length) : (L.take i ++ List.replicate (L.length - i) z).set i L[i] = L.take (i + 1) ++ List.replicate (L.length - (i + 1)) z := by
  have h1 : List.replicate (L.length - i) z = z :: List.replicate (L.length - (i + 1)) z := by
    rw [show L.length - i = (L.length - (i + 1)) + 1 by omega, List.replicate_succ]
  have h2 : (L.take i).length = i := by simp; omega
  have h3 : L.take (i + 1) = L.take i ++ [L[i]] := by simp
  rw [h1, List.set_append_right _ _ (by omega), h2, Nat.sub_self, List.set_cons_zero, h3, List.append_assoc]
  rfl
theorem getD_eq {L : List Int} {i : Nat} (hi : i < L.length) : L.getD i 0 = L[i] := by simp [List.getD_eq_getElem?_getD, List.getElem?_eq_getElem hi]

end Go.Proofs.YtlcemelmnkipmaaGreat

/- Both tests of a permutation answer alike. -/
namespace Go.Proofs.YtlcemelmnkipmaaGreat
open Go Go.RowKit
set_option maxRecDepth 100000

/-- Each of the numbers 1 to the length once. -/
def pOk (L : List Int) (j : Nat) : Prop := 1 ≤ L.getD j 0 ∧ L.getD j 0 ≤ L.length ∧ ∀ i, i < j → L.getD i 0 ≠ L.getD j 0
def PermOk (L : List Int) : Prop := ∀ j, j < L.length → pOk L j
def IsP (L : List Int) : Prop := L.length ≤ 8 ∧ PermOk L
theorem oneBool : OneT T_Sbool T_bool (.bool false) := oneT_of (by kernel_rfl) (by kernel_rfl) rfl

open Classical in
theorem c_isPerm {w : World} {a : Sl} {L : List Int} (ha : RowI w a L) (hL : L.length < 2^38) :
    Calls PP F.impl_isPerm #[a.v] w fun e w' => e = .returned (.bool (decide (PermOk L))) ∧ Below w.heap.size w w' := by
  have han : a.n = L.length := by have := ha.n; simpa using this
  refine impl_isPerm.calls a ?_
  rw [impl_isPerm.E_s]
  rw [w64_succ (n := (a.n : Int)) (by omega) (by omega)]
  refine make_own oneBool (B := w.heap.size) (Nat.le_refl _) (by omega) (by omega) ?_
  intro s w1 hown hg _
  refine impl_isPerm.L3_rule _ _ _ _ _ _ _ (I := fun k w' => 0 ≤ k ∧ k ≤ L.length ∧ Below w.heap.size w w' ∧ (∀ j, j < k.toNat → pOk L j) ∧
      ∃ bs : List Bool, bs.length = L.length + 1 ∧ Own w' w.heap.size T_bool s (bs.map Value.bool) ∧ ∀ v : Nat, v < bs.length → (bs.getD v false = true ↔ ∃ i, i < k.toNat ∧ L.getD i 0 = v)) (μ := fun k _ => (L.length - k).toNat)
    ⟨by omega, by omega, below_of_grow hg, fun j hj => by simp at hj, List.replicate (L.length + 1) false, by simp, by simpa [han] using hown, fun v hv => by simp [List.getD_eq_getElem?_getD, List.getElem?_replicate]; split <;> simp⟩ ?_
  rintro k w' ⟨h0, hk, hb, hall, bs, hbl, hown, hseen⟩
  have hsucc : (k + 1).toNat = k.toNat + 1 := by omega
  have bad : k < L.length → ¬ pOk L k.toNat → impl_isPerm.q3 std (fun e w' => e = .returned (.bool (decide (PermOk L))) ∧ Below w.heap.size w w') .ret [(2, .bool false)] w' := by
    intro hk3 hbd
    rw [impl_isPerm.R3_s]
    have : ¬ PermOk L := fun h => hbd (h k.toNat (by omega))
    exact ⟨by simp [this], hb⟩
  rw [impl_isPerm.B3_s]
  refine bif_dec (fun h3 => ?_) (fun h3 => ?_)
  · have hlt : k.toNat < L.length := by omega
    refine RowI.get (ha.grow hb) h0 (by omega) ?_
    refine bif_dec (fun h4 => bad (by omega) fun hg => by have := hg.1; omega) (fun h4 => ?_)
    refine bif_dec (fun h5 => bad (by omega) fun hg => by have := hg.2.1; omega) (fun h5 => ?_)
    have hx0 : 1 ≤ L.getD k.toNat 0 := by omega
    have hx1 : L.getD k.toNat 0 ≤ L.length := by omega
    generalize hx : L.getD k.toNat 0 = x at hx0 hx1 h4 h5 ⊢
    have hxl : x.toNat < bs.length := by omega
    have hval : (bs.map Value.bool)[x.toNat]? = some (Sh.bool.enc (bs.getD x.toNat false)) := by simp [List.getD_eq_getElem?_getD, List.getElem?_eq_getElem hxl]
    refine Row.get (sh := .bool) hown.row (by omega) hval ?_
    refine bif_intro (fun h6 => bad (by omega) fun hg => ?_) (fun h6 => ?_)
    · obtain ⟨i, hi, he⟩ := (hseen x.toNat hxl).1 h6
      exact hg.2.2 i hi (by rw [he, hx]; omega)
    · refine Own.put hown (by omega) (by simp; omega) ?_
      intro w2 hown2 hg2 _
      refine ⟨k + 1, by rw [w64_succ h0 (by omega)], ⟨by omega, by omega, hb.grown hg2 hb.size (fun g hg => (hown.lt g hg).1), fun j hj => ?_, bs.set x.toNat true, by simpa using hbl, by simpa [List.map_set] using hown2, fun v hv => ?_⟩, by omega⟩
      · by_cases hj2 : j < k.toNat
        · exact hall j hj2
        · have : j = k.toNat := by omega
          subst this
          refine ⟨by omega, by omega, fun i hi he => ?_⟩
          have := (hseen x.toNat hxl).2 ⟨i, hi, by rw [he, hx]; omega⟩
          rw [this] at h6; cases h6
      · rw [hsucc]
        simp only [List.length_set] at hv
        by_cases hvx : x.toNat = v
        · subst hvx
          simp only [List.getD_eq_getElem?_getD, List.getElem?_set, if_pos hxl]
          simp
          exact ⟨k.toNat, by omega, by rw [← List.getD_eq_getElem?_getD, hx]; omega⟩
        · have e1 : (bs.set x.toNat true).getD v false = bs.getD v false := by simp [List.getD_eq_getElem?_getD, List.getElem?_set, hvx]
          rw [e1, hseen v hv]
          constructor
          · rintro ⟨i, hi, he⟩; exact ⟨i, by omega, he⟩
          · rintro ⟨i, hi, he⟩
            by_cases hi2 : i < k.toNat
            · exact ⟨i, hi2, he⟩
            · have : i = k.toNat := by omega
              subst this
              rw [hx] at he; omega
  · rw [impl_isPerm.A3_0_s]
    have : PermOk L := fun j hj => hall j (by omega)
    exact ⟨by simp [this], hb⟩

open Classical in
theorem c_implIsPerm {w : World} {a : Sl} {L : List Int} (ha : RowI w a L) (hL : L.length < 2^38) :
    Calls PP F.impl_IsPerm #[a.v] w fun e w' => e = .returned (.bool (decide (IsP L))) ∧ Below w.heap.size w w' := by
  have han : a.n = L.length := by have := ha.n; simpa using this
  refine impl_IsPerm.calls a ?_
  rw [impl_IsPerm.E_s]
  refine bif_dec (fun h => ?_) (fun h => ?_)
  · refine (c_isPerm ha hL).mono ?_
    rintro e w' ⟨rfl, hb⟩
    refine ⟨_, rfl, ?_, hb⟩
    have : L.length ≤ 8 := by omega
    simp [IsP, this]
  · have : ¬ L.length ≤ 8 := by omega
    exact ⟨by simp [IsP, this], Below.refl _ _⟩

open Classical in
theorem c_l2Has {w : World} {a : Sl} {L : List Int} (ha : RowI w a L) (hL : L.length < 2^38) (n : Int) :
    Quiet F.spec_l2Has #[a.v, vI n] w (.bool (decide (n ∈ L))) := by
  intro w1 hd
  have han : a.n = L.length := by have := ha.n; simpa using this
  refine spec_l2Has.calls a n ?_
  rw [spec_l2Has.E_s]
  refine spec_l2Has.L2_rule _ _ _ _ _ (I := fun k w' => w' = w1 ∧ 0 ≤ k ∧ k ≤ L.length ∧ ∀ j, j < k.toNat → L.getD j 0 ≠ n) (μ := fun k _ => (L.length - k).toNat) ⟨rfl, by omega, by omega, fun j hj => by simp at hj⟩ ?_
  rintro k w' ⟨rfl, h0, hk, hall⟩
  rw [spec_l2Has.B2_s]
  refine bif_dec (fun h3 => ?_) (fun h3 => ?_)
  · have hlt : k.toNat < L.length := by omega
    refine RowI.get (ha.heap hd.heap') h0 (by omega) ?_
    refine bif_intro (fun h4 => ?_) (fun h4 => ?_)
    · rw [spec_l2Has.R2_s]
      have h4 : L.getD k.toNat 0 = n := by simpa using h4
      have : n ∈ L := by rw [← h4, getD_eq hlt]; exact List.getElem_mem hlt
      exact ⟨by simp [this], Drew.refl _⟩
    · have h4 : ¬ L.getD k.toNat 0 = n := by simpa using h4
      refine ⟨k + 1, by rw [w64_succ h0 (by omega)], ⟨rfl, by omega, by omega, fun j hj => ?_⟩, by omega⟩
      by_cases hj2 : j < k.toNat
      · exact hall j hj2
      · have : j = k.toNat := by omega
        subst this; exact h4
  · rw [spec_l2Has.A2_0_s]
    have : n ∉ L := fun h => by
      obtain ⟨i, hi, he⟩ := List.getElem_of_mem h
      exact hall i (by omega) (by rw [getD_eq hi]; exact he)
    exact ⟨by simp [this], Drew.refl _⟩

open Classical in
theorem c_specIsPerm {w : World} {a : Sl} {L : List Int} (ha : RowI w a L) (hL : L.length < 2^38) :
    Quiet F.spec_IsPerm #[a.v] w (.bool (decide (IsP L))) := by
  intro w1 hd
  have han : a.n = L.length := by have := ha.n; simpa using this
  refine spec_IsPerm.calls a ?_
  rw [spec_IsPerm.E_s]
  refine spec_IsPerm.L2_rule _ _ _ _ (I := fun k w' => Drew w1 w' ∧ 0 ≤ k ∧ k ≤ L.length ∧ ∀ j, j < k.toNat → pOk L j) (μ := fun k _ => (L.length - k).toNat) ⟨Drew.refl _, by omega, by omega, fun j hj => by simp at hj⟩ ?_
  rintro k w' ⟨hd2, h0, hk, hall⟩
  have hh : w'.heap = w.heap := (hd.trans hd2).heap'
  rw [spec_IsPerm.B2_s]
  refine bif_dec (fun h3 => bif_dec (fun h4 => ?_) (fun h4 => ?_)) (fun h3 => ?_)
  · have hlt : k.toNat < L.length := by omega
    have nb : ¬ pOk L k.toNat → ¬ IsP L := fun hb h => hb (h.2 k.toNat hlt)
    refine RowI.get (ha.heap hh) h0 (by omega) ?_
    refine Pure.pcall1 (s := .bool) (c_l1In _ _ _) ?_
    refine bif_intro (fun h5 => ?_) (fun h5 => ?_)
    · refine drew_intro fun w2 hd3 => ?_
      rw [spec_IsPerm.R2_s]
      have : ¬ IsP L := nb fun hg => by
        have h1 := hg.1
        have h2 := hg.2.1
        simp [-List.getD_eq_getElem?_getD] at h5
        omega
      exact ⟨by simp [this], hd2.trans hd3⟩
    · have h5 : 1 ≤ L.getD k.toNat 0 ∧ L.getD k.toNat 0 ≤ L.length := by simpa [han] using h5
      refine Row.cut (ha.heap hh) (by simp) (by simpa using h0) (by simp; omega) ?_
      intro t ht
      have ht : RowI w' t (L.take k.toNat) := by simpa [RowI, List.map_take] using ht
      refine RowI.get (ha.heap hh) h0 (by omega) ?_
      refine Quiet.qcall1 (s := .bool) (c_l2Has ht (by simp; omega) _) ?_
      have hmem : L.getD k.toNat 0 ∈ L.take k.toNat ↔ ∃ i, i < k.toNat ∧ L.getD i 0 = L.getD k.toNat 0 := by
        constructor
        · intro h
          obtain ⟨i, hi, he⟩ := List.getElem_of_mem h
          have hi2 : i < k.toNat ∧ i < L.length := by simp at hi; omega
          refine ⟨i, hi2.1, ?_⟩
          rw [getD_eq hi2.2, ← he]; simp
        · rintro ⟨i, hi, he⟩
          rw [← he, getD_eq (show i < L.length by omega)]
          exact List.mem_take_iff_getElem.2 ⟨i, by omega, rfl⟩
      refine drew_intro fun w2 hd3 => ?_
      refine bif_intro (fun h6 => ?_) (fun h6 => ?_)
      · rw [spec_IsPerm.R2_s]
        have h6 := hmem.1 (by simpa using h6)
        have : ¬ IsP L := nb fun hg => by
          obtain ⟨i, hi, he⟩ := h6
          exact hg.2.2 i hi he
        exact ⟨by simp [this], hd2.trans hd3⟩
      · have h6 : ¬ ∃ i, i < k.toNat ∧ L.getD i 0 = L.getD k.toNat 0 := fun h => by
          rw [decide_eq_true (hmem.2 h)] at h6
          cases h6
        refine ⟨k + 1, by rw [w64_succ h0 (by omega)], ⟨hd2.trans hd3, by omega, by omega, fun j hj => ?_⟩, by omega⟩
        by_cases hj2 : j < k.toNat
        · exact hall j hj2
        · have : j = k.toNat := by omega
          subst this; exact ⟨h5.1, h5.2, fun i hi he => h6 ⟨i, hi, he⟩⟩
  · rw [spec_IsPerm.A2_0_s]
    have : ¬ L.length ≤ 8 := by omega
    exact ⟨by simp [IsP, han, this]; omega, hd2⟩
  · rw [spec_IsPerm.A2_0_s]
    have : PermOk L := fun j hj => hall j (by omega)
    exact ⟨by simp [IsP, han, this]; omega, hd2⟩
end Go.Proofs.YtlcemelmnkipmaaGreat

/- Permutations as lists: plain facts, no program in sight. -/
namespace Go.Proofs.YtlcemelmnkipmaaGreat
open Go
set_option maxRecDepth 100000

/-- 1, 2, .., n -/
def idn (n : Nat) : List Int := (List.range n).map fun (i : Nat) => (i : Int) + 1
theorem idn_length (n : Nat) : (idn n).length = n := by simp [idn]
theorem idn_succ (n : Nat) : idn (n + 1) = idn n ++ [(n : Int) + 1] := by simp [idn, List.range_succ]
theorem mem_idn {n : Nat} {x : Int} : x ∈ idn n ↔ 1 ≤ x ∧ x ≤ n := by
  simp only [idn, List.mem_map, List.mem_range]
  constructor
  · rintro ⟨i, hi, rfl⟩; omega
  · rintro ⟨h1, h2⟩; exact ⟨(x - 1).toNat, by omega, by omega⟩
theorem idn_nodup (n : Nat) : (idn n).Nodup := by
  simp only [idn, List.nodup_iff_pairwise_ne, List.pairwise_map]
  exact List.Pairwise.imp (fun h e => h (by omega)) (List.nodup_iff_pairwise_ne.1 List.nodup_range)
theorem idn_getD {n i : Nat} (h : i < n) : (idn n).getD i 0 = (i : Int) + 1 := by simp [idn, List.getD_eq_getElem?_getD, h]
theorem getD_lt {L : List Int} {i : Nat} (h : i < L.length) : L.getD i 0 = L[i] := by simp [List.getD_eq_getElem?_getD, List.getElem?_eq_getElem h]
theorem ext_getD {L M : List Int} (h : L.length = M.length) (hh : ∀ i, i < L.length → L.getD i 0 = M.getD i 0) : L = M := by
  apply List.ext_getElem h
  intro i h1 h2
  have := hh i h1
  rw [getD_lt h1, getD_lt h2] at this
  exact this
theorem permOk_iff {L : List Int} : PermOk L ↔ L.Nodup ∧ ∀ x ∈ L, 1 ≤ x ∧ x ≤ L.length := by
  constructor
  · intro h
    refine ⟨?_, fun x hx => ?_⟩
    · rw [List.nodup_iff_pairwise_ne, List.pairwise_iff_getElem]
      intro i j hi hj hij e
      have := (h j hj).2.2 i hij
      rw [getD_lt hi, getD_lt hj] at this
      exact this e
    · obtain ⟨i, hi, rfl⟩ := List.getElem_of_mem hx
      have := h i hi
      unfold pOk at this
      rw [getD_lt hi] at this
      exact ⟨this.1, this.2.1⟩
  · rintro ⟨h1, h2⟩ j hj
    have h3 := h2 L[j] (List.getElem_mem hj)
    unfold pOk
    rw [getD_lt hj]
    refine ⟨h3.1, h3.2, fun i hij e => ?_⟩
    rw [List.nodup_iff_pairwise_ne, List.pairwise_iff_getElem] at h1
    rw [getD_lt (by omega)] at e
    exact h1 i j (by omega) hj hij e
theorem perm_of_nodup : ∀ {n : Nat} {L : List Int}, L.Nodup → (∀ x ∈ L, 1 ≤ x ∧ x ≤ n) → L.length = n → L.Perm (idn n)
  | 0, L, _, _, hl => by
    have : L = [] := List.eq_nil_of_length_eq_zero hl
    subst this; exact List.Perm.refl _
  | n + 1, L, h1, h2, hl => by
    by_cases hm : ((n : Int) + 1) ∈ L
    · have hp := List.perm_cons_erase hm
      have h3 : (L.erase ((n : Int) + 1)).Perm (idn n) := by
        refine perm_of_nodup (h1.erase _) (fun x hx => ?_) (by rw [List.length_erase_of_mem hm]; omega)
        rw [List.Nodup.mem_erase_iff h1] at hx
        have := h2 x hx.2
        have hne := hx.1
        omega
      rw [idn_succ]
      exact hp.trans ((List.Perm.cons _ h3).trans (List.perm_append_singleton _ _).symm)
    · have : L.length ≤ (idn n).length := List.Nodup.length_le_of_subset h1 (fun x hx => by
        have := h2 x hx
        have hne : x ≠ (n : Int) + 1 := fun e => hm (e ▸ hx)
        rw [mem_idn]; omega)
      rw [idn_length] at this
      omega
theorem permOk_perm {L : List Int} : PermOk L ↔ L.Perm (idn L.length) := by
  rw [permOk_iff]
  constructor
  · rintro ⟨h1, h2⟩; exact perm_of_nodup h1 h2 rfl
  · intro h
    refine ⟨h.nodup_iff.2 (idn_nodup _), fun x hx => ?_⟩
    have := h.mem_iff.1 hx
    rwa [mem_idn] at this
theorem IsP.perm {L : List Int} (h : IsP L) : L.Perm (idn L.length) := permOk_perm.1 h.2
theorem IsP.nodup {L : List Int} (h : IsP L) : L.Nodup := (permOk_iff.1 h.2).1
theorem IsP.mem {L : List Int} (h : IsP L) {x : Int} : x ∈ L ↔ 1 ≤ x ∧ x ≤ L.length := by rw [h.perm.mem_iff, mem_idn]
theorem isP_of_perm {L M : List Int} (h : M.Perm L) (hL : IsP L) : IsP M := by
  have hl := h.length_eq
  refine ⟨by rw [hl]; exact hL.1, permOk_perm.2 ?_⟩
  rw [hl]; exact h.trans hL.perm
theorem isP_of {n : Nat} {M : List Int} (h : M.Perm (idn n)) (hn : n ≤ 8) : IsP M := by
  have hl : M.length = n := by rw [h.length_eq, idn_length]
  refine ⟨by omega, permOk_perm.2 ?_⟩
  rw [hl]; exact h
/-- Ascending (not strictly), by neighbours. -/
def Rising (L : List Int) : Prop := ∀ i, i + 1 < L.length → L.getD i 0 ≤ L.getD (i + 1) 0
theorem Rising.all {L : List Int} (h : Rising L) : ∀ j, ∀ i, i ≤ j → j < L.length → L.getD i 0 ≤ L.getD j 0 := by
  intro j
  induction j with
  | zero => intro i hi hj; have : i = 0 := by omega
            subst this; exact Int.le_refl _
  | succ j ih =>
    intro i hi hj
    by_cases e : i = j + 1
    · subst e; exact Int.le_refl _
    · exact Int.le_trans (ih i (by omega) (by omega)) (h j hj)
theorem rising_pairwise {L : List Int} (h : Rising L) : L.Pairwise (· ≤ ·) := by
  rw [List.pairwise_iff_getElem]
  intro i j hi hj hij
  have := h.all j i (by omega) hj
  rwa [getD_lt hi, getD_lt hj] at this
theorem idn_pairwise (n : Nat) : (idn n).Pairwise (· ≤ ·) := by
  simp only [idn, List.pairwise_map]
  exact List.Pairwise.imp (fun h => by omega) List.pairwise_lt_range
theorem rising_idn (n : Nat) : Rising (idn n) := fun i hi => by
  rw [idn_length] at hi
  rw [idn_getD (by omega), idn_getD hi]; omega
theorem IsP.rising {L : List Int} (h : IsP L) : Rising L ↔ L = idn L.length := by
  constructor
  · intro hr
    exact List.Perm.eq_of_pairwise (fun a b _ _ h1 h2 => Int.le_antisymm h1 h2) (rising_pairwise hr) (idn_pairwise _) h.perm
  · intro e; rw [e]; exact rising_idn _
theorem isP_idn {n : Nat} (hn : n ≤ 8) : IsP (idn n) := isP_of (List.Perm.refl _) hn
theorem isP_nil : IsP [] := isP_idn (n := 0) (by omega)
end Go.Proofs.YtlcemelmnkipmaaGreat

/- Occurrences of a pattern, as lists: plain facts. -/
namespace Go.Proofs.YtlcemelmnkipmaaGreat
open Go
set_option maxRecDepth 100000

/-- a, a+1, .. (c numbers) -/
def seqI (a : Int) (c : Nat) : List Int := (List.range c).map fun (i : Nat) => a + (i : Int)
theorem seqI_length (a : Int) (c : Nat) : (seqI a c).length = c := by simp [seqI]
theorem seqI_succ (a : Int) (c : Nat) : seqI a (c + 1) = seqI a c ++ [a + (c : Int)] := by simp [seqI, List.range_succ]
theorem mem_seqI {a : Int} {c : Nat} {x : Int} : x ∈ seqI a c ↔ a ≤ x ∧ x < a + c := by
  simp only [seqI, List.mem_map, List.mem_range]
  constructor
  · rintro ⟨i, hi, rfl⟩; omega
  · rintro ⟨h1, h2⟩; exact ⟨(x - a).toNat, by omega, by omega⟩
/-- The last number of a list, 0 of none. -/
def lastD (h : List Int) : Int := h.getD (h.length - 1) 0
theorem lastD_nil : lastD [] = 0 := rfl
theorem lastD_snoc (h : List Int) (x : Int) : lastD (h ++ [x]) = x := by simp [lastD, List.getD_eq_getElem?_getD]
def fitsAt (P Q h : List Int) (x : Int) (k : Nat) : Bool := decide (P.getD (h.getD k 0 - 1).toNat 0 < P.getD (x - 1).toNat 0) == decide (Q.getD k 0 < Q.getD h.length 0)
/-- May the place x be the next one behind the places h? -/
def fitsB (P Q h : List Int) (x : Int) : Bool := (List.range h.length).all (fitsAt P Q h x)
theorem fitsB_iff {P Q h : List Int} {x : Int} : fitsB P Q h x = true ↔ ∀ k, k < h.length → fitsAt P Q h x k = true := by simp [fitsB]
/-- All ways to go on from the places h with m more. -/
def occN (P Q : List Int) : Nat → List Int → List (List Int)
  | 0, h => [h]
  | m + 1, h => (seqI (lastD h + 1) ((P.length : Int) - lastD h).toNat).flatMap fun x => if fitsB P Q h x then occN P Q m (h ++ [x]) else []
def hasB (P Q : List Int) (m : Nat) (h : List Int) : Bool := !(occN P Q m h).isEmpty
theorem hasB_zero (P Q h : List Int) : hasB P Q 0 h = true := rfl
theorem hasB_succ {P Q h : List Int} {m : Nat} : hasB P Q (m + 1) h = true ↔ ∃ x, lastD h < x ∧ x ≤ P.length ∧ fitsB P Q h x = true ∧ hasB P Q m (h ++ [x]) = true := by
  simp only [hasB, occN, Bool.not_eq_true', List.isEmpty_eq_false_iff, ne_eq, List.flatMap_eq_nil_iff, mem_seqI]
  constructor
  · intro hn
    apply Classical.byContradiction
    intro hc
    apply hn
    intro x hx
    split
    · rename_i hf
      apply Classical.byContradiction
      intro hne
      exact hc ⟨x, by omega, by omega, hf, hne⟩
    · rfl
  · rintro ⟨x, h1, h2, h3, h4⟩ hall
    have := hall x ⟨by omega, by omega⟩
    rw [if_pos h3] at this
    exact h4 this
/-- Places of a list. -/
def Places (P h : List Int) : Prop := ∀ x ∈ h, 1 ≤ x ∧ x ≤ P.length
theorem Places.snoc {P h : List Int} {x : Int} (hh : Places P h) (h1 : 1 ≤ x) (h2 : x ≤ P.length) : Places P (h ++ [x]) := fun y hy => by
  rcases List.mem_append.1 hy with h3 | h3
  · exact hh y h3
  · have : y = x := by simpa using h3
    subst this; exact ⟨h1, h2⟩
theorem lastD_mem {h : List Int} (hne : h ≠ []) : lastD h ∈ h := by
  unfold lastD
  have : 0 < h.length := List.length_pos_iff.2 hne
  rw [getD_lt (by omega)]
  exact List.getElem_mem _
theorem Places.last {P h : List Int} (hh : Places P h) : 0 ≤ lastD h ∧ lastD h ≤ P.length := by
  by_cases hne : h = []
  · subst hne; simp [lastD]
  · have := hh _ (lastD_mem hne); omega
theorem Places.nil (P : List Int) : Places P [] := fun x hx => by simp at hx
/-- There must be room. -/
theorem hasB_room {P Q : List Int} : ∀ (m : Nat) (h : List Int), Places P h → hasB P Q m h = true → lastD h + m ≤ P.length
  | 0, h, hh, _ => by have := hh.last; omega
  | m + 1, h, hh, hb => by
    obtain ⟨x, h1, h2, _, h4⟩ := hasB_succ.1 hb
    have h0 := hh.last
    have := hasB_room m (h ++ [x]) (hh.snoc (by omega) h2) h4
    rw [lastD_snoc] at this
    omega
theorem length_flatMap_le {α β : Type} (l : List α) (f : α → List β) (c : Nat) (h : ∀ x ∈ l, (f x).length ≤ c) : (l.flatMap f).length ≤ l.length * c := by
  induction l with
  | nil => simp
  | cons x r ih =>
    have h1 := h x (by simp)
    have h2 := ih (fun y hy => h y (by simp [hy]))
    simp only [List.flatMap_cons, List.length_append, List.length_cons, Nat.succ_mul]
    omega
theorem occN_length {P Q : List Int} : ∀ (m : Nat) (h : List Int), Places P h → (occN P Q m h).length ≤ P.length ^ m
  | 0, h, _ => by simp [occN]
  | m + 1, h, hh => by
    have h0 := hh.last
    rw [occN]
    refine Nat.le_trans (length_flatMap_le _ _ (P.length ^ m) (fun x hx => ?_)) ?_
    · rw [mem_seqI] at hx
      split
      · exact occN_length m (h ++ [x]) (hh.snoc (by omega) (by omega))
      · simp
    · rw [seqI_length, Nat.pow_succ, Nat.mul_comm]
      exact Nat.mul_le_mul_left _ (by omega)
/-- Does the pattern occur? -/
def hasP (P Q : List Int) : Bool := hasB P Q Q.length []
end Go.Proofs.YtlcemelmnkipmaaGreat

/- Occurrences of a pattern: the model's search and the program's. -/
namespace Go.Proofs.YtlcemelmnkipmaaGreat
open Go Go.RowKit
set_option maxRecDepth 100000

theorem getD_snoc_lt {h : List Int} {x : Int} {k : Nat} (hk : k < h.length) : (h ++ [x]).getD k 0 = h.getD k 0 := by
  simp [List.getD_eq_getElem?_getD, List.getElem?_append_left hk]
theorem getD_snoc_eq (h : List Int) (x : Int) : (h ++ [x]).getD h.length 0 = x := by simp [List.getD_eq_getElem?_getD]
theorem Places.at_ {P h : List Int} (hh : Places P h) {k : Nat} (hk : k < h.length) : 1 ≤ h.getD k 0 ∧ h.getD k 0 ≤ P.length := by
  rw [getD_lt hk]; exact hh _ (List.getElem_mem hk)

theorem c_l7Fits {w : World} {p q pl : Sl} {P Q h : List Int} {x : Int} (hp : RowI w p P) (hq : RowI w q Q) (hpl : RowI w pl (h ++ [x])) (hP : P.length < 2^38) (hQ : h.length < Q.length) (hQ2 : Q.length < 2^38) (hh : Places P (h ++ [x])) :
    Quiet F.spec_l7Fits #[p.v, q.v, pl.v] w (.bool (fitsB P Q h x)) := by
  intro w1 hd
  have hpn : pl.n = h.length + 1 := by have := hpl.n; simpa using this
  have hx := hh x (by simp)
  refine spec_l7Fits.calls p q pl ?_
  rw [spec_l7Fits.E_s, hpn, w64_id (by omega) (by omega)]
  rw [show ((h.length + 1 : Nat) : Int) - 1 = (h.length : Int) by omega]
  refine spec_l7Fits.L3_rule _ _ _ _ _ _ _ (I := fun k w' => 0 ≤ k ∧ k ≤ h.length ∧ (∀ j, j < k.toNat → fitsAt P Q h x j = true) ∧ Drew w1 w') (μ := fun k _ => (h.length - k).toNat)
    ⟨by omega, by omega, fun j hj => by simp at hj, Drew.refl _⟩ ?_
  rintro k w' ⟨h0, hk, hall, hd2⟩
  have hhp : w'.heap = w.heap := (hd.trans hd2).heap'
  rw [spec_l7Fits.B3_s]
  refine bif_dec (fun h3 => ?_) (fun h3 => ?_)
  · have hlt : k.toNat < h.length := by omega
    have hat := Places.at_ (P := P) (h := h) (fun y hy => hh y (by simp [hy])) hlt
    refine RowI.get (hq.heap hhp) h0 (by omega) ?_
    refine RowI.get (hq.heap hhp) (by omega) (by omega) ?_
    refine RowI.get (hpl.heap hhp) h0 (by simp; omega) ?_
    rw [getD_snoc_lt hlt, w64_id (n := h.getD k.toNat 0 - 1) (by omega) (by omega)]
    refine RowI.get (hp.heap hhp) (by omega) (by omega) ?_
    refine RowI.get (hpl.heap hhp) (by omega) (by simp; omega) ?_
    rw [Int.toNat_natCast, getD_snoc_eq, w64_id (n := x - 1) (by omega) (by omega)]
    refine RowI.get (hp.heap hhp) (by omega) (by omega) ?_
    refine drew_intro fun w3 hd3 => ?_
    have e1 : fitsAt P Q h x k.toNat = (decide (Q.getD k.toNat 0 < Q.getD h.length 0) == decide (P.getD (h.getD k.toNat 0 - 1).toNat 0 < P.getD (x - 1).toNat 0)) := by
      rw [fitsAt, Bool.beq_comm]
    rw [← e1]
    refine bif_intro (fun h4 => ?_) (fun h4 => ?_)
    · rw [spec_l7Fits.R3_s]
      have : fitsB P Q h x = false := by
        cases hb : fitsB P Q h x
        · rfl
        · have := fitsB_iff.1 hb k.toNat hlt
          rw [this] at h4; simp at h4
      exact ⟨by rw [this], hd2.trans hd3⟩
    · refine ⟨k + 1, by rw [w64_succ h0 (by omega)], ⟨by omega, by omega, fun j hj => ?_, hd2.trans hd3⟩, by omega⟩
      by_cases e : j = k.toNat
      · rw [e]; simpa using h4
      · exact hall j (by omega)
  · rw [spec_l7Fits.A3_0_s]
    have : fitsB P Q h x = true := fitsB_iff.2 fun j hj => hall j (by omega)
    exact ⟨by rw [this], hd2⟩

theorem c_l7Find {w0 : World} {p q : Sl} {P Q : List Int} (hp : RowI w0 p P) (hq : RowI w0 q Q) (hP : P.length ≤ 8) (hQ : Q.length ≤ 8) : ∀ (m : Nat) (w : World) (hd out : Sl) (rs : List Sl) (h : List Int) (LL : List (List Int)),
    Below w0.heap.size w0 w → OwnRows w w0.heap.size out rs LL → OwnI w w0.heap.size hd h → (∀ t ∈ rs, Apt t hd) → h.length + m = Q.length → Places P h → LL.length + 8 ^ m ≤ 2^30 →
    Calls PP F.spec_l7Find #[p.v, q.v, hd.v, out.v] w fun e w' => ∃ s : Sl, e = .returned s.v ∧ OwnSS w' w0.heap.size s (LL ++ occN P Q m h) ∧ w.grownBy w' out.blk ∧ Next w out s
  | 0, w, hd, out, rs, h, LL, hb, ho, hh, hap, hl, hpl, hc => by
    have hdn : hd.n = h.length := by have := hh.n; simpa using this
    have hqn : q.n = Q.length := by have := hq.n; simpa using this
    refine spec_l7Find.calls p q hd out ?_
    rw [spec_l7Find.E_s]
    refine bif_t (by simp; omega) ?_
    refine append_sl ho hb.size hh hap (by omega) ?_
    intro s' w' h1 h2 h3
    exact ⟨s', rfl, ⟨_, h1⟩, h2, h3⟩
  | m + 1, w, hd, out, rs, h, LL, hb, ho, hh, hap, hl, hpl, hc => by
    have hdn : hd.n = h.length := by have := hh.n; simpa using this
    have hqn : q.n = Q.length := by have := hq.n; simpa using this
    have hpn : p.n = P.length := by have := hp.n; simpa using this
    have h0 := hpl.last
    have main : spec_l7Find.J6 std p q hd out (lastD h + 1) w (fun e w' => ∃ s : Sl, e = .returned s.v ∧ OwnSS w' w0.heap.size s (LL ++ occN P Q (m + 1) h) ∧ w.grownBy w' out.blk ∧ Next w out s) := by
      rw [spec_l7Find.J6_s]
      refine spec_l7Find.L7_rule _ _ _ _ _ _ _ (I := fun s x w' => lastD h + 1 ≤ x ∧ x ≤ P.length + 1 ∧ OwnSS w' w0.heap.size s (LL ++ (seqI (lastD h + 1) (x - (lastD h + 1)).toNat).flatMap fun x => if fitsB P Q h x then occN P Q m (h ++ [x]) else []) ∧ w.grownBy w' out.blk ∧ Next w out s) (μ := fun _ x _ => (P.length + 1 - x).toNat)
        ⟨by omega, by omega, by simpa [seqI] using ⟨rs, ho⟩, grownBy_refl _ _, fun g hg => .inl hg⟩ ?_
      rintro s x w' ⟨hx0, hx, hs, hg, hn⟩
      have hbw : Below w0.heap.size w0 w' := hb.grown hg hb.size (fun g hg => (ho.out.lt g hg).1)
      have hh' : OwnI w' w0.heap.size hd h := hh.kept hg (fun g hg' e => (ho.out.apt hh (by decide)) g e hg')
      rw [spec_l7Find.B7_s]
      refine bif_dec (fun h3 => ?_) (fun h3 => ?_)
      · rw [hpn] at h3
        obtain ⟨rs', hs⟩ := hs
        refine lit0 oneInt (B := w'.heap.size) (Nat.le_refl _) ?_
        intro t1 w1 ht1 hg1 _
        have hb1 := below_of_grow hg1
        refine append_row oneInt ht1 hb1.size (hh'.row.grow hb1) (fun v hv => by obtain ⟨y, _, rfl⟩ := List.mem_map.1 hv; exact One.int y) (by simp; omega) ?_
        intro t2 w2 ht2 hg2 _ _
        have ht2 : OwnI w2 w'.heap.size t2 h := by simpa [OwnI] using ht2
        have hb2 := hb1.grown hg2 hb1.size (fun g hg => (ht1.lt g hg).1)
        refine append_int ht2 hb2.size (by omega) ?_
        intro t3 w3 ht3 hg3 _
        have hb3 := hb2.grown hg3 hb2.size (fun g hg => (ht2.lt g hg).1)
        have hb03 : Below w0.heap.size w0 w3 := hbw.trans (hb3.mono hbw.size)
        have hpl2 : Places P (h ++ [x]) := hpl.snoc (by omega) h3
        refine Quiet.call1 (s := .bool) (c_l7Fits (hp.grow hb03) (hq.grow hb03) ht3.row (by omega) (by omega) (by omega) hpl2) ?_
        intro w4 hd4
        have hb4 : Below w'.heap.size w' w4 := hb3.trans (hd4.below _)
        have esq : ∀ f : Int → List (List Int), (seqI (lastD h + 1) (x + 1 - (lastD h + 1)).toNat).flatMap f = (seqI (lastD h + 1) (x - (lastD h + 1)).toNat).flatMap f ++ f x := fun f => by
          rw [show (x + 1 - (lastD h + 1)).toNat = (x - (lastD h + 1)).toNat + 1 by omega, seqI_succ, List.flatMap_append]
          simp only [List.flatMap_cons, List.flatMap_nil, List.append_nil]
          congr 2; omega
        have hcnt : ((seqI (lastD h + 1) (x - (lastD h + 1)).toNat).flatMap fun x => if fitsB P Q h x then occN P Q m (h ++ [x]) else []).length ≤ 7 * 8 ^ m := by
          refine Nat.le_trans (length_flatMap_le _ _ (8 ^ m) (fun y hy => ?_)) ?_
          · rw [mem_seqI] at hy
            split
            · exact Nat.le_trans (occN_length m (h ++ [y]) (hpl.snoc (by omega) (by omega))) (Nat.pow_le_pow_left hP m)
            · simp
          · rw [seqI_length]; exact Nat.mul_le_mul_right _ (by omega)
        have hpow : 8 ^ (m + 1) = 8 * 8 ^ m := by rw [Nat.pow_succ]; omega
        refine bif_intro (fun h5 => ?_) (fun h5 => ?_)
        · have hs4 := hs.grow hb4
          refine (c_l7Find hp hq hP hQ m w4 t3 s rs' (h ++ [x]) _ (hb03.trans (hd4.below _)) hs4 ((ht3.heap hd4.heap').mono hbw.size) (fun t ht => Apt.of_lt (fun g hg => (hs.lt ht hg).2) (fun g hg => (ht3.lt g hg).1)) (by simp; omega) hpl2 (by rw [List.length_append]; omega)).mono ?_
          rintro e w5 ⟨s5, rfl, hs5, hg5, hn5⟩
          refine ⟨s5, rfl, s5, x + 1, by rw [w64_id (by omega) (by omega)], ⟨by omega, by omega, ?_, ?_, ?_⟩, by omega⟩
          · rw [esq, if_pos h5, ← List.append_assoc]; exact hs5
          · refine ⟨hg5.os.trans (hb4.os.trans hg.os), hg5.tape.trans (hb4.tape.trans hg.tape), hg5.output.trans (hb4.output.trans hg.output), Nat.le_trans hg.size (Nat.le_trans hb4.size hg5.size), fun k hk hne => ?_⟩
            have hk' : k < w'.heap.size := Nat.lt_of_lt_of_le hk hg.size
            rw [hg5.block k (Nat.lt_of_lt_of_le hk' hb4.size) (fun e => by
              rcases hn k e.symm with h6 | h6
              · exact hne h6.symm
              · omega), hb4.block k hk', hg.block k hk hne]
          · intro g hg'
            rcases hn5 g hg' with h6 | h6
            · exact hn g h6
            · have := hg.size; have := hb4.size; exact .inr (by omega)
        · refine ⟨s, x + 1, by rw [w64_id (by omega) (by omega)], ⟨by omega, by omega, ?_, ?_, hn⟩, by omega⟩
          · rw [esq, if_neg (by simp [h5]), List.append_nil]; exact ⟨rs', hs.grow hb4⟩
          · refine ⟨hb4.os.trans hg.os, hb4.tape.trans hg.tape, hb4.output.trans hg.output, Nat.le_trans hg.size hb4.size, fun k hk hne => ?_⟩
            rw [hb4.block k (Nat.lt_of_lt_of_le hk hg.size), hg.block k hk hne]
      · rw [spec_l7Find.A7_0_s]
        rw [hpn] at h3
        have e : x = P.length + 1 := by omega
        subst e
        refine ⟨s, rfl, ?_, hg, hn⟩
        rw [occN, show ((P.length : Int) - lastD h).toNat = ((P.length : Int) + 1 - (lastD h + 1)).toNat by omega]
        exact hs
    refine spec_l7Find.calls p q hd out ?_
    rw [spec_l7Find.E_s]
    refine bif_f (by simp; omega) ?_
    refine bif_dec (fun h4 => ?_) (fun h4 => ?_)
    · rw [hdn, w64_id (by omega) (by omega)]
      refine RowI.get hh.row (by omega) (by omega) ?_
      rw [show ((h.length : Int) - 1).toNat = h.length - 1 by omega]
      show spec_l7Find.J6 std p q hd out (w64 (lastD h + 1)) w _
      rw [w64_id (by omega) (by omega)]
      exact main
    · have : h = [] := List.eq_nil_of_length_eq_zero (by omega)
      subst this
      exact main

theorem c_l7Has {w : World} {p q : Sl} {P Q : List Int} (hp : RowI w p P) (hq : RowI w q Q) (hP : P.length ≤ 8) (hQ : Q.length ≤ 8) :
    Calls PP F.spec_l7Has #[p.v, q.v] w fun e w' => e = .returned (.bool (hasP P Q)) ∧ Below w.heap.size w w' := by
  refine spec_l7Has.calls p q ?_
  rw [spec_l7Has.E_s]
  refine lit0 oneInt (B := w.heap.size) (Nat.le_refl _) ?_
  intro s w1 hs hg1 hc1
  refine lit0 oneSint (B := w.heap.size) (by have := hg1.size; omega) ?_
  intro t w2 ht hg2 hc2
  have hb1 := below_of_grow hg1
  have hb2 := hb1.grown hg2 hb1.size (by simp)
  have h8 : 8 ^ Q.length ≤ 8 ^ 8 := Nat.pow_le_pow_right (by omega) hQ
  refine (c_l7Find hp hq hP hQ Q.length w2 s t [] [] [] hb2 (OwnRows.nil ht) (hs.kept hg2 (by simp)) (fun t ht => by simp at ht) (by simp) (Places.nil P) (by simp only [List.length_nil]; omega)).mono ?_
  rintro e w3 ⟨u, rfl, hu, hg3, _⟩
  refine ⟨u, rfl, ?_, hb2.grown hg3 hb2.size (fun g hg => (ht.lt g hg).1)⟩
  have hn := hu.row.n
  rw [List.nil_append] at hn
  rw [hn]
  congr 2
  unfold hasP hasB
  cases occN P Q Q.length [] <;> simp <;> omega

theorem c_has {w0 : World} {p q : Sl} {P Q : List Int} (hp : RowI w0 p P) (hq : RowI w0 q Q) (hP : P.length < 2^37) (hQ : Q.length < 2^37) : ∀ (m : Nat) (w : World) (ch : Sl) (h : List Int),
    Below w0.heap.size w0 w → RowI w ch (h.map (· - 1)) → h.length + m = Q.length → Places P h →
    Calls PP F.impl_has #[p.v, q.v, ch.v] w fun e w' => e = .returned (.bool (hasB P Q m h)) ∧ Below w.heap.size w w'
  | 0, w, ch, h, hb, hh, hl, hpl => by
    have hdn : ch.n = h.length := by have := hh.n; simpa using this
    have hqn : q.n = Q.length := by have := hq.n; simpa using this
    refine impl_has.calls p q ch ?_
    rw [impl_has.E_s]
    refine bif_t (by simp; omega) ?_
    exact ⟨by rw [hasB_zero], Below.refl _ _⟩
  | m + 1, w, ch, h, hb, hh, hl, hpl => by
    have hdn : ch.n = h.length := by have := hh.n; simpa using this
    have hqn : q.n = Q.length := by have := hq.n; simpa using this
    have hpn : p.n = P.length := by have := hp.n; simpa using this
    have h0 := hpl.last
    have main : impl_has.J6 std p q ch (lastD h) w (fun e w' => e = .returned (.bool (hasB P Q (m + 1) h)) ∧ Below w.heap.size w w') := by
      rw [impl_has.J6_s]
      refine impl_has.L8_rule _ _ _ _ _ _ _ (I := fun i w' => lastD h ≤ i ∧ i ≤ P.length + 1 ∧ Below w.heap.size w w' ∧ ∀ x, lastD h < x → x ≤ i → x ≤ P.length → fitsB P Q h x = true → hasB P Q m (h ++ [x]) = false) (μ := fun i _ => (P.length + 2 - i).toNat)
        ⟨by omega, by omega, Below.refl _ _, fun x h1 h2 => by omega⟩ ?_
      rintro i w' ⟨hi0, hi, hbw, hall⟩
      have hb0 : Below w0.heap.size w0 w' := hb.trans (hbw.mono hb.size)
      have hh' := hh.grow hbw
      have elen : (List.map (fun x => x - 1) h).length = h.length := by simp
      rw [impl_has.B8_s, hpn, hqn, hdn]
      rw [w64_id (n := (Q.length : Int) - h.length) (by omega) (by omega), w64_id (n := (P.length : Int) - ((Q.length : Int) - h.length)) (by omega) (by omega)]
      refine bif_dec (fun h3 => ?_) (fun h3 => ?_)
      · have hx1 : 1 ≤ i + 1 := by omega
        refine impl_has.L12_rule _ _ _ _ _ _ _ _ _ _ _ (I := fun f k w2 => 0 ≤ k ∧ k ≤ h.length ∧ f = (List.range k.toNat).all (fitsAt P Q h (i + 1)) ∧ Drew w' w2) (μ := fun _ k _ => (h.length - k).toNat)
          ⟨by omega, by omega, by simp, Drew.refl _⟩ ?_
        rintro f k w2 ⟨hk0, hk, hf, hd⟩
        have hhp2 := hd.heap'
        rw [impl_has.B12_s]
        refine bif_dec (fun h4 => ?_) (fun h4 => ?_)
        · have hlt : k.toNat < h.length := by omega
          have hat := hpl.at_ hlt
          refine RowI.get (hh'.heap hhp2) hk0 (by rw [elen]; omega) ?_
          have e0 : (List.map (fun x => x - 1) h).getD k.toNat 0 = h.getD k.toNat 0 - 1 := by
            rw [getD_lt (by rw [elen]; exact hlt), getD_lt hlt, List.getElem_map]
          rw [e0]
          have hs : (List.range (k + 1).toNat).all (fitsAt P Q h (i + 1)) = (f && fitsAt P Q h (i + 1) k.toNat) := by
            rw [show (k + 1).toNat = k.toNat + 1 by omega, List.range_succ, List.all_append, ← hf]; simp
          refine bif_intro (fun h5 => ?_) (fun h5 => ?_)
          · refine RowI.get ((hp.grow hb0).heap hhp2) (by omega) (by omega) ?_
            refine RowI.get ((hp.grow hb0).heap hhp2) (by omega) (by omega) ?_
            refine RowI.get ((hq.grow hb0).heap hhp2) hk0 (by omega) ?_
            refine RowI.get ((hq.grow hb0).heap hhp2) (by omega) (by omega) ?_
            refine drew_intro fun w3 hd3 => ?_
            refine ⟨_, k + 1, by rw [w64_succ hk0 (by omega)], ⟨by omega, by omega, ?_, hd.trans hd3⟩, by omega⟩
            rw [hs, h5, Bool.true_and, fitsAt, Int.toNat_natCast, show i + 1 - 1 = i by omega]
          · refine drew_intro fun w3 hd3 => ?_
            refine ⟨_, k + 1, by rw [w64_succ hk0 (by omega)], ⟨by omega, by omega, ?_, hd.trans hd3⟩, by omega⟩
            rw [hs, h5, Bool.false_and]
        · rw [impl_has.A12_2_s]
          have ek : k.toNat = h.length := by omega
          rw [ek] at hf
          have hf : f = fitsB P Q h (i + 1) := hf
          have hbw2 := hbw.trans (hd.below _)
          refine bif_intro (fun h5 => ?_) (fun h5 => ?_)
          · refine (c_Clone (hh'.heap hhp2) (by rw [elen]; omega)).mono ?_
            rintro e w3 ⟨s, rfl, hs, hb3⟩
            refine ⟨s, rfl, ?_⟩
            refine append_int hs hb3.size (by rw [elen]; omega) ?_
            intro t w4 ht hg4 _
            have hb4 : Below w2.heap.size w2 w4 := hb3.grown hg4 hb3.size (fun g hg => (hs.lt g hg).1)
            have hb04 : Below w0.heap.size w0 w4 := (hb0.trans (hd.below _)).trans (hb4.mono (by have := hb0.size; have := hhp2; rw [hhp2]; exact this |> fun _ => hb0.size))
            have hpl2 : Places P (h ++ [i + 1]) := hpl.snoc (by omega) (by omega)
            have ht' : RowI w4 t ((h ++ [i + 1]).map (· - 1)) := by
              have := ht.row
              rw [List.map_append, List.map_cons, List.map_nil, show i + 1 - 1 = i by omega]
              exact this
            refine (c_has hp hq hP hQ m w4 t (h ++ [i + 1]) hb04 ht' (by simp; omega) hpl2).mono ?_
            rintro e w5 ⟨rfl, hb5⟩
            refine ⟨_, rfl, ?_⟩
            have hb15 : Below w.heap.size w w5 := (hbw2.trans (hb4.mono hbw2.size)).trans (hb5.mono (Nat.le_trans hbw2.size hb4.size))
            refine bif_intro (fun h6 => ?_) (fun h6 => ?_)
            · rw [impl_has.R8_s]
              have : hasB P Q (m + 1) h = true := hasB_succ.2 ⟨i + 1, by omega, by omega, by rw [← hf]; exact h5, h6⟩
              exact ⟨by rw [this], hb15⟩
            · refine ⟨i + 1, by rw [w64_succ (by omega) (by omega)], ⟨by omega, by omega, hb15, fun x h7 h8 h9 h10 => ?_⟩, by omega⟩
              by_cases e : x = i + 1
              · rw [e]; exact h6
              · exact hall x h7 (by omega) h9 h10
          · refine ⟨i + 1, by rw [w64_succ (by omega) (by omega)], ⟨by omega, by omega, hbw2, fun x h7 h8 h9 h10 => ?_⟩, by omega⟩
            by_cases e : x = i + 1
            · rw [e, ← hf, h5] at h10; cases h10
            · exact hall x h7 (by omega) h9 h10
      · rw [impl_has.A8_0_s]
        have : hasB P Q (m + 1) h = false := by
          cases hb2 : hasB P Q (m + 1) h
          · rfl
          · obtain ⟨x, h7, h8, h9, h10⟩ := hasB_succ.1 hb2
            have h11 := hasB_room m (h ++ [x]) (hpl.snoc (by omega) h8) h10
            rw [lastD_snoc] at h11
            rw [hall x h7 (by omega) h8 h9] at h10
            cases h10
        exact ⟨by rw [this], hbw⟩
    refine impl_has.calls p q ch ?_
    rw [impl_has.E_s]
    refine bif_f (by simp; omega) ?_
    refine bif_dec (fun h4 => ?_) (fun h4 => ?_)
    · rw [hdn, w64_id (by omega) (by omega)]
      refine RowI.get hh (by omega) (by simp; omega) ?_
      have e0 : (List.map (fun x => x - 1) h).getD ((h.length : Int) - 1).toNat 0 = lastD h - 1 := by
        rw [getD_lt (by simp; omega), List.getElem_map, lastD, getD_lt (by omega)]
        congr 2; omega
      rw [e0, show lastD h - 1 + 1 = lastD h by omega, w64_id (by omega) (by omega)]
      exact main
    · have : h = [] := List.eq_nil_of_length_eq_zero (by omega)
      subst this
      exact main
theorem c_has_nil {w : World} {p q : Sl} {P Q : List Int} (hp : RowI w p P) (hq : RowI w q Q) (hP : P.length < 2^37) (hQ : Q.length < 2^37) :
    Calls PP F.impl_has #[p.v, q.v, Sl.nil.v] w fun e w' => e = .returned (.bool (hasP P Q)) ∧ Below w.heap.size w w' :=
  c_has hp hq hP hQ Q.length w Sl.nil [] (Below.refl _ _) ⟨rfl, Nat.le_refl _, fun i v hv => by simp at hv⟩ (by simp) (Places.nil P)
end Go.Proofs.YtlcemelmnkipmaaGreat

/-
  DERIVED: THE SHELF's CONTRACTS AT THIS DUMP, IN PLAIN WORDS (tools/lay-plain.mjs out of 'TryzShelf.lean', which tools/lay-shelf.mjs wrote): THE SAME DECLARATIONS UNDER THE SAME NAMES: 'import', 'namespace', 'open', 'def', 'theorem' AND NOTHING ELSE: no command of the shelf's: FOR A HAND-IN. Each laying: the table of numbers ('.._ren') and one theorem, a field a fact of the dump's own or the kernel's comparison; each contract: ONE APPLICATION.
-/
namespace Go.Proofs
open Go.Shelf
def Tryz.lays105_ren : Go.Shelf.Ren := ⟨fun | 105 => 31 | 212 => 57 | 99 => 58 | 165 => 59 | 166 => 60 | 170 => 61 | 169 => 62 | 263 => 76 | 264 => 77 | 206 => 78 | 240 => 79 | 241 => 80 | 276 => 98 | 277 => 99 | n => n, fun | 9 => 9 | 3 => 3 | 4 => 4 | 20 => 20 | 0 => 0 | 46 => 65 | 109 => 66 | 5 => 5 | 72 => 71 | 76 => 75 | 51 => 89 | 146 => 90 | 53 => 92 | 148 => 93 | 70 => 69 | 37 => 22 | 75 => 74 | 127 => 95 | 164 => 109 | 80 => 78 | n => n, fun | n => n⟩
theorem Tryz.lays105 : Go.Proofs.Lays.n105 Tryz.prog Tryz.lays105_ren := {
  mixed := by kernel_rfl
  f99 := Tryz.func58.trans (congrArg some (by kernel_rfl))
  f105 := Tryz.func31.trans (congrArg some (by kernel_rfl))
  f165 := Tryz.func59.trans (congrArg some (by kernel_rfl))
  f166 := Tryz.func60.trans (congrArg some (by kernel_rfl))
  f169 := Tryz.func62.trans (congrArg some (by kernel_rfl))
  f170 := Tryz.func61.trans (congrArg some (by kernel_rfl))
  f206 := Tryz.func78.trans (congrArg some (by kernel_rfl))
  f212 := Tryz.func57.trans (congrArg some (by kernel_rfl))
  f240 := Tryz.func79.trans (congrArg some (by kernel_rfl))
  f241 := Tryz.func80.trans (congrArg some (by kernel_rfl))
  f263 := Tryz.func76.trans (congrArg some (by kernel_rfl))
  f264 := Tryz.func77.trans (congrArg some (by kernel_rfl))
  f276 := Tryz.func98.trans (congrArg some (by kernel_rfl))
  f277 := Tryz.func99.trans (congrArg some (by kernel_rfl))
  t0 := Tryz.underlying0
  a0 := Tryz.isAgg0
  z0 := Tryz.sizeOf0
  v0 := Tryz.zeroValue0
  t3 := Tryz.underlying3
  a3 := Tryz.isAgg3
  z3 := Tryz.sizeOf3
  v3 := Tryz.zeroValue3
  t4 := Tryz.underlying4
  a4 := Tryz.isAgg4
  z4 := Tryz.sizeOf4
  v4 := Tryz.zeroValue4
  t5 := Tryz.underlying5
  a5 := Tryz.isAgg5
  z5 := Tryz.sizeOf5
  v5 := Tryz.zeroValue5
  t9 := Tryz.underlying9
  a9 := Tryz.isAgg9
  z9 := Tryz.sizeOf9
  v9 := Tryz.zeroValue9
  t20 := Tryz.underlying20
  a20 := Tryz.isAgg20
  z20 := Tryz.sizeOf20
  v20 := Tryz.zeroValue20
  t37 := Tryz.underlying22
  a37 := Tryz.isAgg22
  z37 := Tryz.sizeOf22
  v37 := Tryz.zeroValue22
  t46 := Tryz.underlying65
  a46 := Tryz.isAgg65
  z46 := Tryz.sizeOf65
  v46 := Tryz.zeroValue65
  t51 := Tryz.underlying89
  a51 := Tryz.isAgg89
  z51 := Tryz.sizeOf89
  v51 := Tryz.zeroValue89
  t53 := Tryz.underlying92
  a53 := Tryz.isAgg92
  z53 := Tryz.sizeOf92
  v53 := Tryz.zeroValue92
  t70 := Tryz.underlying69
  a70 := Tryz.isAgg69
  z70 := Tryz.sizeOf69
  v70 := Tryz.zeroValue69
  t72 := Tryz.underlying71
  a72 := Tryz.isAgg71
  z72 := Tryz.sizeOf71
  v72 := Tryz.zeroValue71
  t75 := Tryz.underlying74
  a75 := Tryz.isAgg74
  z75 := Tryz.sizeOf74
  v75 := Tryz.zeroValue74
  t76 := Tryz.underlying75
  a76 := Tryz.isAgg75
  z76 := Tryz.sizeOf75
  v76 := Tryz.zeroValue75
  t109 := Tryz.underlying66
  a109 := Tryz.isAgg66
  z109 := Tryz.sizeOf66
  v109 := Tryz.zeroValue66
  t127 := Tryz.underlying95
  a127 := Tryz.isAgg95
  z127 := Tryz.sizeOf95
  v127 := Tryz.zeroValue95
  t146 := Tryz.underlying90
  a146 := Tryz.isAgg90
  z146 := Tryz.sizeOf90
  v146 := Tryz.zeroValue90
  t148 := Tryz.underlying93
  a148 := Tryz.isAgg93
  z148 := Tryz.sizeOf93
  v148 := Tryz.zeroValue93
  t164 := Tryz.underlying109
  a164 := Tryz.isAgg109
  z164 := Tryz.sizeOf109
  v164 := Tryz.zeroValue109 }
theorem Tryz.Builder_Extra_105 : Builder.Extra Tryz.prog Tryz.lays105_ren := {
  sizeBuilder := by kernel_rfl
  liesBuilder := by kernel_rfl
  t5 := Tryz.underlying5
  a5 := Tryz.isAgg5
  z5 := Tryz.sizeOf5
  v5 := Tryz.zeroValue5
  infoByte := by kernel_rfl
  cellsByte := by kernel_rfl
  sizeByte := by kernel_rfl
  neB5 := by decide }
open Go.RowKit Go.Lib in
/-- **strings.Repeat: count ≥ 0, the result within one allocation: count copies of s.** (LAID: no walk: one application.) -/
theorem Tryz.strings_Repeat (s : ByteArray) (c : Nat) (w : World) (hc : c ≤ 9223372036854775807) (hlen : s.size * c ≤ 140737488355328) :
    Calls Tryz.prog 31 #[.string s, .int .i64 c] w fun e w' => e = .returned (.string ⟨(Lib.repeatL s.data.toList c).toArray⟩) ∧ Below w.heap.size w w' := Any.strings_Repeat Tryz.lays105 Tryz.Builder_Extra_105 s c w hc hlen
end Go.Proofs

/- Function values with one bool result; new variables. -/
namespace Go.Proofs.YtlcemelmnkipmaaGreat
open Go Go.RowKit
set_option maxRecDepth 100000

/-- A function value that answers b, and adds to memory at most. -/
def FnB (w0 : World) (f : Value) (args : List Value) (b : Bool) : Prop := ∀ w, Below w0.heap.size w0 w → ∃ g first cap, f = .func (.func g) first cap ∧ bodied PP g = true ∧ Calls PP g ((first ++ args.toArray) ++ cap) w fun e w' => e = .returned (.bool b) ∧ Below w.heap.size w w'
theorem FnB.callV1 {w0 f args b} (h : FnB w0 f args b) {w : World} (hb : Below w0.heap.size w0 w) {K : Bool → World → Prop} (hk : ∀ w', Below w.heap.size w w' → K b w') : callV1 .bool PP f args w K := by
  obtain ⟨g, first, cap, hf, hbd, hc⟩ := h w hb
  exact ⟨g, first, cap, hf, hbd, hc.mono fun e w' ⟨he, hb⟩ => ⟨b, he, hk w' hb⟩⟩
theorem FnB.grow {w0 f args b} (h : FnB w0 f args b) {w : World} (hb : Below w0.heap.size w0 w) : FnB w f args b := fun w' hb' => h w' (hb.trans (hb'.mono hb.size))
theorem cell_grow {w w' : World} {a : Addr} {v : Value} (h : w.cell? a = some v) (hb : Below w.heap.size w w') : w'.cell? a = some v := by
  rw [hb.cell (World.block_lt_of_cell? w _ h)]; exact h
theorem new_one {t : TypeId} {v : Value} {w : World} {K : Addr → World → Prop} (h : ∀ ad w', w'.cell? ad = some v → Below w.heap.size w w' → K ad w') : newK t #[v] w K := by
  refine h ⟨w.heap.size, 0, none⟩ (w.alloc (.cells #[v] t)) ?_ (below_of_grow (World.grownBy_alloc w _ none))
  have := cell_of_row (w.alloc (.cells #[v] t)) w.heap.size 0 #[v] t (0, 0) (heap_alloc_new w _)
  rw [this]; rfl
/-- A new variable, set at once. -/
theorem new_set {t : TypeId} {u v : Value} {w : World} {K : Addr → World → Prop} (h : ∀ ad w', w'.cell? ad = some v → Below w.heap.size w w' → K ad w') : newK t #[u] w fun ad w1 => storeC ad v w1 (K ad) := by
  have hnew := heap_alloc_new w (.cells #[u] t)
  have hc : (w.alloc (.cells #[u] t)).cell? ⟨w.heap.size, 0, none⟩ = some u := by
    have := cell_of_row (w.alloc (.cells #[u] t)) w.heap.size 0 #[u] t (0, 0) hnew
    rw [this]; rfl
  refine ⟨⟨u, hc⟩, by simp only [World.frozen?, hnew]; rfl, h _ _ ?_ ?_⟩
  · have h1 : ((w.alloc (.cells #[u] t)).setCell ⟨w.heap.size, 0, none⟩ v).heap[w.heap.size]? = some (.cells (#[u].setIfInBounds 0 v) t (0, 0)) := by
      simp only [World.setCell, Array.getElem?_modify, hnew]; rfl
    have := cell_of_row _ w.heap.size 0 _ t (0, 0) h1
    rw [this]; rfl
  · have hb := below_of_grow (World.grownBy_alloc w (.cells #[u] t) none)
    refine ⟨hb.os, hb.tape, hb.output, by simp [World.setCell], fun k hk => ?_⟩
    rw [Below.heap_setCell _ _ _ _ (by simp; omega)]
    exact hb.block k hk
def idxF {α : Type} (φ : α → Bool) (l : List α) : Int := if l.findIdx φ < l.length then (l.findIdx φ : Int) else -1
theorem idxF_nonneg {α : Type} {φ : α → Bool} {l : List α} : decide (idxF φ l ≥ 0) = l.any φ := by
  unfold idxF
  split
  · rename_i h
    rw [List.findIdx_lt_length] at h
    obtain ⟨x, h1, h2⟩ := h
    rw [List.any_eq_true.2 ⟨x, h1, h2⟩, decide_eq_true (by omega)]
  · rename_i h
    rw [List.findIdx_lt_length] at h
    rw [decide_eq_false (by omega)]
    symm
    rw [List.any_eq_false]
    intro x hx hp
    exact h ⟨x, hx, hp⟩
theorem idxF_at {α : Type} {φ : α → Bool} {l : List α} {i : Nat} (hi : i < l.length) (h1 : φ l[i] = true) (h2 : ∀ j (hj : j < i), φ (l[j]'(by omega)) = false) : idxF φ l = i := by
  have : l.findIdx φ = i := by rw [List.findIdx_eq hi]; exact ⟨h1, h2⟩
  rw [idxF, this, if_pos hi]
theorem idxF_none {α : Type} {φ : α → Bool} {l : List α} (h : ∀ j (hj : j < l.length), φ l[j] = false) : idxF φ l = -1 := by
  rw [idxF, if_neg]
  intro h5
  rw [List.findIdx_lt_length] at h5
  obtain ⟨x, h6, h7⟩ := h5
  obtain ⟨i, hi, rfl⟩ := List.getElem_of_mem h6
  rw [h i hi] at h7; cases h7
end Go.Proofs.YtlcemelmnkipmaaGreat

/- The laws' helpers that mark a row and look whether the marks stand. -/
namespace Go.Proofs.YtlcemelmnkipmaaGreat
open Go Go.RowKit
set_option maxRecDepth 100000

/-- k, k+1, .. -/
def marks (k : Int) (n : Nat) : List Int := (List.range n).map fun (i : Nat) => k + (i : Int)
theorem marks_length (k : Int) (n : Nat) : (marks k n).length = n := by simp [marks]
theorem marks_getD {k : Int} {n i : Nat} (h : i < n) : (marks k n).getD i 0 = k + i := by simp [marks, List.getD_eq_getElem?_getD, h]
theorem marks_step (L : List Int) (k : Int) {i : Nat} (hi : i < L.length) : (marks k i ++ L.drop i).set i (k + i) = marks k (i + 1) ++ L.drop (i + 1) := by
  have h1 : L.drop i = L[i] :: L.drop (i + 1) := by rw [List.drop_eq_getElem_cons hi]
  have h2 : (marks k i).length = i := marks_length k i
  have h3 : marks k (i + 1) = marks k i ++ [k + (i : Int)] := by simp [marks, List.range_succ]
  rw [h1, List.set_append_right _ _ (by omega), h2, Nat.sub_self, List.set_cons_zero, h3, List.append_assoc]
  rfl

end Go.Proofs.YtlcemelmnkipmaaGreat

/- PathOf: both texts. -/
namespace Go.Proofs.YtlcemelmnkipmaaGreat
open Go Go.RowKit
set_option maxRecDepth 100000

/-- Greater numbers behind place k, up to place i. -/
def laterT (L : List Int) (k : Nat) : Nat → Int
  | 0 => 0
  | m + 1 => laterT L k m + if L.getD (k + 1 + m) 0 > L.getD k 0 then 1 else 0
def laterV (L : List Int) (k : Nat) : Int := laterT L k (L.length - (k + 1))
theorem laterT_le (L : List Int) (k : Nat) : ∀ m, 0 ≤ laterT L k m ∧ laterT L k m ≤ m
  | 0 => by simp [laterT]
  | m + 1 => by
    have := laterT_le L k m
    rw [laterT]
    split <;> omega
def us (o : ByteArray) : Nat → ByteArray
  | 0 => o
  | k + 1 => us o k ++ ⟨#[85]⟩
def hV (L : List Int) : Nat → Int
  | 0 => 0
  | k + 1 => max (hV L k) (laterV L k + 1) - 1
def pV (L : List Int) : Nat → ByteArray
  | 0 => ⟨#[]⟩
  | k + 1 => us (pV L k) (laterV L k + 1 - hV L k).toNat ++ ⟨#[68]⟩
theorem us_size (o : ByteArray) : ∀ k, (us o k).size = o.size + k
  | 0 => rfl
  | k + 1 => by rw [us, ByteArray.size_append, us_size o k]; rfl
theorem hV_le {L : List Int} (k : Nat) (h8 : L.length ≤ 8) : 0 ≤ hV L k ∧ hV L k ≤ 8 := by
  induction k with
  | zero => simp [hV]
  | succ k ih =>
    have := laterT_le L k (L.length - (k + 1))
    rw [hV, laterV]; omega
theorem pV_size {L : List Int} (h8 : L.length ≤ 8) : ∀ k, (pV L k).size ≤ k * 20
  | 0 => by simp [pV]; rfl
  | k + 1 => by
    have h1 := pV_size h8 k
    have h2 := hV_le k h8
    have h3 := laterT_le L k (L.length - (k + 1))
    have h4 : (⟨#[68]⟩ : ByteArray).size = 1 := rfl
    rw [pV, ByteArray.size_append, us_size, h4, laterV]; omega
theorem us_repeat (o : ByteArray) : ∀ c, o ++ ⟨(Lib.repeatL [85] c).toArray⟩ = us o c
  | 0 => by
    rw [us]; apply ByteArray.ext; simp [Lib.repeatL]
  | c + 1 => by
    rw [us, ← us_repeat o c, Lib.repeatL_add]
    apply ByteArray.ext
    simp [Lib.repeatL]
theorem c_l18Later {w : World} {a : Sl} {L : List Int} (ha : RowI w a L) (h8 : L.length ≤ 8) {k : Nat} (hk : k < L.length) :
    Calls PP F.spec_l18Later #[a.v, vI k] w fun e w' => e = .returned (vI (laterV L k)) ∧ Below w.heap.size w w' := by
  have han : a.n = L.length := by have := ha.n; simpa using this
  refine spec_l18Later.calls a k ?_
  rw [spec_l18Later.E_s, w64_succ (n := (k : Int)) (by omega) (by omega)]
  refine spec_l18Later.L3_rule _ _ _ _ _ _ (I := fun n i w' => (k : Int) + 1 ≤ i ∧ i ≤ L.length ∧ Below w.heap.size w w' ∧ n = laterT L k (i.toNat - (k + 1))) (μ := fun _ i _ => (L.length - i).toNat)
    ⟨by omega, by omega, Below.refl _ _, by rw [show ((k : Int) + 1).toNat - (k + 1) = 0 by omega]; rfl⟩ ?_
  rintro n i w' ⟨h0, hi, hb, hn⟩
  rw [spec_l18Later.B3_s, han]
  refine bif_dec (fun h3 => ?_) (fun h3 => ?_)
  · refine RowI.get (ha.grow hb) (by omega) (by omega) ?_
    refine RowI.get (ha.grow hb) (by omega) (by omega) ?_
    refine Pure.pcall1 (s := .int .i64) (c_l1Bit _) ?_
    refine drew_intro fun w2 hd => ?_
    have hle := laterT_le L k (i.toNat - (k + 1))
    refine ⟨_, i + 1, by rw [w64_succ (n := i) (by omega) (by omega)], ⟨by omega, by omega, hb.trans (hd.below _), ?_⟩, by omega⟩
    rw [show (i + 1).toNat - (k + 1) = (i.toNat - (k + 1)) + 1 by omega, laterT, hn, show k + 1 + (i.toNat - (k + 1)) = i.toNat by omega, Int.toNat_natCast]
    by_cases h5 : L.getD i.toNat 0 > L.getD k 0
    · rw [if_pos h5, if_pos (decide_eq_true h5), w64_id (by omega) (by omega)]
    · rw [if_neg h5, if_neg (by simpa using h5), w64_id (by omega) (by omega)]
  · rw [spec_l18Later.A3_0_s]
    rw [show i.toNat = L.length by omega] at hn
    exact ⟨by rw [hn, laterV], hb⟩
theorem fill_three (z v u x : Value) (hz : z.cells = #[z]) (hv : One v) (hu : One u) (hx : One x) : Instr.fill (fun i => some (i * 1, 1)) ((Array.range (3 * 1)).map (z.cells[· % z.cells.size]!)) [(0, v), (1, u), (2, x)] = some #[v, u, x] := by
  simp [Instr.fill, hv.1, hu.1, hx.1, hz, Array.range]
  rfl
theorem lit3 {t e z} (hT : OneT t e z) {w : World} {B : Nat} (hB : B ≤ w.heap.size) {v u x : Value} (hv : One v) (hu2 : One u) (hx : One x) {K : Sl → World → Prop}
    (h : ∀ s w', Own w' B e s [v, u, x] → w.grownBy w' none → K s w') : sem1 .sl PP (Instr.buildSlice t 3 #[(0, v), (1, u), (2, x)]) w K := by
  obtain ⟨i, hu, hi, hz, hs, hb, hzc⟩ := hT
  have hrun : (Instr.buildSlice t 3 #[(0, v), (1, u), (2, x)]).run PP w = .ok (.slice (some ⟨w.heap.size, 0, none⟩) 3 3) (w.alloc (.cells #[v, u, x] e)) := by
    refine run_buildSlice w t e 3 #[(0, v), (1, u), (2, x)] #[v, u, x] i z hu hi hz (by rw [hs]; decide) (by rw [hs]; decide) ?_
    rw [hs]
    exact fill_three z v u x hzc hv hu2 hx
  exact ⟨⟨some ⟨w.heap.size, 0, none⟩, 3, 3⟩, _, hrun, h _ _ ⟨rfl, Nat.le_refl _, by simp only [maxLen]; omega, .inr ⟨_, _, rfl, hB, heap_alloc_new w _, rfl, rfl⟩⟩ (World.grownBy_alloc w _ none)⟩
def PthOk (L : List Int) : Prop := IsP L ∧ hasP L [1, 3, 2] = false
open Classical in
noncomputable def PathOfV (L : List Int) : ByteArray := if PthOk L then pV L L.length else ⟨#[]⟩
open Classical in
noncomputable def PathOfV1 (L : List Int) : Bool := decide (PthOk L)
theorem szmax {o : ByteArray} {n m : Nat} (h : o.size ≤ 1000) (hm : m ≤ 1000) : ((o.size + m : Nat) : Int) ≤ IntKind.i64.max := by
  have : IntKind.i64.max = 9223372036854775807 := by decide
  rw [this]; omega
open Classical in
theorem c_specPathOf {w : World} {a : Sl} {L : List Int} (ha : RowI w a L) (hL : L.length < 2^38) :
    Calls PP F.spec_PathOf #[a.v] w fun e w' => e = .returned (.tuple #[.string (PathOfV L), .bool (PathOfV1 L)]) ∧ Below w.heap.size w w' := by
  have han : a.n = L.length := by have := ha.n; simpa using this
  have no : ∀ w', Below w.heap.size w w' → ¬ PthOk L → (Ending.returned (.tuple #[.string ⟨#[]⟩, .bool false])) = .returned (.tuple #[.string (PathOfV L), .bool (PathOfV1 L)]) ∧ Below w.heap.size w w' := fun w' hb hn => ⟨by rw [PathOfV, PathOfV1, if_neg hn, decide_eq_false hn], hb⟩
  refine spec_PathOf.calls a ?_
  rw [spec_PathOf.E_s]
  refine Quiet.call1 (s := .bool) (c_specIsPerm ha hL) ?_
  intro w1 hd1
  have hb1 := hd1.below w.heap.size
  refine bif_intro (fun h => ?_) (fun h => ?_)
  · exact no w1 hb1 fun hh => by have := hh.1; simp [this] at h
  have hP : IsP L := by simpa using h
  have h8 := hP.1
  refine lit3 oneInt (B := w1.heap.size) (Nat.le_refl _) (One.int 1) (One.int 3) (One.int 2) ?_
  intro q w2 hq hg2
  have hb12 := below_of_grow hg2
  have hb2 := hb1.trans (hb12.mono hb1.size)
  refine (c_l7Has (Q := [1, 3, 2]) (ha.grow hb2) hq.row h8 (by simp)).mono ?_
  rintro e w3 ⟨rfl, hb23⟩
  refine ⟨_, rfl, ?_⟩
  have hb3 := hb2.trans (hb23.mono hb2.size)
  refine bif_intro (fun h => ?_) (fun h => ?_)
  · exact no w3 hb3 fun hh => by rw [hh.2] at h; cases h
  have hok : PthOk L := ⟨hP, h⟩
  rw [PathOfV, PathOfV1, if_pos hok, decide_eq_true hok]
  refine spec_PathOf.L6_rule _ _ _ _ _ _ (I := fun o h k w' => 0 ≤ k ∧ k ≤ L.length ∧ Below w.heap.size w w' ∧ o = pV L k.toNat ∧ h = hV L k.toNat) (μ := fun _ _ k _ => (L.length - k).toNat)
    ⟨by omega, by omega, hb3, rfl, rfl⟩ ?_
  rintro o h k w4 ⟨hk0, hk, hb4, rfl, rfl⟩
  rw [spec_PathOf.B6_s, han]
  refine bif_dec (fun h3 => ?_) (fun h3 => ?_)
  · obtain ⟨k, rfl⟩ : ∃ m : Nat, k = m := ⟨k.toNat, by omega⟩
    have hlt : k < L.length := by omega
    rw [Int.toNat_natCast]
    have hs := pV_size h8 k
    have hh := hV_le k h8
    have hle := laterT_le L k (L.length - (k + 1))
    have hlv : laterV L k = laterT L k (L.length - (k + 1)) := rfl
    refine spec_PathOf.L8_rule _ _ _ _ _ _ (I := fun o h w' => hV L k ≤ h ∧ h ≤ max (hV L k) (laterV L k + 1) ∧ Below w.heap.size w w' ∧ o = us (pV L k) (h - hV L k).toNat) (μ := fun _ h _ => (laterV L k + 1 - h).toNat)
      ⟨by omega, by omega, hb4, by rw [show (hV L k - hV L k).toNat = 0 by omega]; rfl⟩ ?_
    rintro o h w5 ⟨h1, h2, hb5, rfl⟩
    rw [spec_PathOf.B8_s]
    refine (c_l18Later (ha.grow hb5) h8 hlt).mono ?_
    rintro e w6 ⟨rfl, hb6⟩
    refine ⟨_, rfl, ?_⟩
    have hb56 := hb5.trans (hb6.mono hb5.size)
    have hus := us_size (pV L k) (h - hV L k).toNat
    have ew : w64 (laterV L k + 1) = laterV L k + 1 := w64_succ (by omega) (by omega)
    simp only [ew]
    refine bif_dec (fun h7 => ?_) (fun h7 => ?_)
    · refine ⟨szmax (n := 0) (by omega) (by decide), _, h + 1, by rw [w64_succ (by omega) (by omega)], ⟨by omega, by omega, hb56, ?_⟩, by omega⟩
      rw [show (h + 1 - hV L k).toNat = (h - hV L k).toNat + 1 by omega]; rfl
    · rw [spec_PathOf.A8_2_s]
      refine ⟨szmax (n := 0) (by omega) (by decide), _, _, (k : Int) + 1, by rw [w64_succ (n := (k : Int)) hk0 (by omega), w64_id (n := h - 1) (by omega) (by omega)], ⟨by omega, by omega, hb56, ?_, ?_⟩, by omega⟩
      · rw [show ((k : Int) + 1).toNat = k + 1 by omega, pV, show (h - hV L k).toNat = (laterV L k + 1 - hV L k).toNat by omega]
      · rw [show ((k : Int) + 1).toNat = k + 1 by omega, hV]; omega
  · rw [spec_PathOf.A6_0_s]
    rw [show k.toNat = L.length by omega]
    exact ⟨rfl, hb4⟩
open Classical in
theorem c_implPathOf {w : World} {a : Sl} {L : List Int} (ha : RowI w a L) (hL : L.length < 2^38) :
    Calls PP F.impl_PathOf #[a.v] w fun e w' => e = .returned (.tuple #[.string (PathOfV L), .bool (PathOfV1 L)]) ∧ Below w.heap.size w w' := by
  have han : a.n = L.length := by have := ha.n; simpa using this
  have no : ∀ w', Below w.heap.size w w' → ¬ PthOk L → (Ending.returned (.tuple #[.string ⟨#[]⟩, .bool false])) = .returned (.tuple #[.string (PathOfV L), .bool (PathOfV1 L)]) ∧ Below w.heap.size w w' := fun w' hb hn => ⟨by rw [PathOfV, PathOfV1, if_neg hn, decide_eq_false hn], hb⟩
  refine impl_PathOf.calls a ?_
  rw [impl_PathOf.E_s]
  refine (c_implIsPerm ha hL).mono ?_
  rintro e w1 ⟨rfl, hb1⟩
  refine ⟨_, rfl, ?_⟩
  refine bif_intro (fun h => ?_) (fun h => ?_)
  · exact no w1 hb1 fun hh => by have := hh.1; simp [this] at h
  have hP : IsP L := by simpa using h
  have h8 := hP.1
  refine lit3 oneInt (B := w1.heap.size) (Nat.le_refl _) (One.int 1) (One.int 3) (One.int 2) ?_
  intro q w2 hq hg2
  have hb12 := below_of_grow hg2
  have hb2 := hb1.trans (hb12.mono hb1.size)
  refine (c_has_nil (Q := [1, 3, 2]) (ha.grow hb2) hq.row (by omega) (by simp)).mono ?_
  rintro e w3 ⟨rfl, hb23⟩
  refine ⟨_, rfl, ?_⟩
  have hb3 := hb2.trans (hb23.mono hb2.size)
  refine bif_intro (fun h => ?_) (fun h => ?_)
  · exact no w3 hb3 fun hh => by rw [hh.2] at h; cases h
  have hok : PthOk L := ⟨hP, h⟩
  rw [PathOfV, PathOfV1, if_pos hok, decide_eq_true hok]
  show impl_PathOf.L6 std a _ 0 a (a.n : Int) 0 w3 _
  rw [han]
  refine impl_PathOf.L6_rule _ _ _ _ _ _ _ _ (I := fun o h k w' => 0 ≤ k ∧ k ≤ L.length ∧ Below w.heap.size w w' ∧ o = pV L k.toNat ∧ h = hV L k.toNat) (μ := fun _ _ k _ => (L.length - k).toNat)
    ⟨by omega, by omega, hb3, rfl, rfl⟩ ?_
  rintro o h k w4 ⟨hk0, hk, hb4, rfl, rfl⟩
  rw [impl_PathOf.B6_s]
  refine bif_dec (fun h3 => ?_) (fun h3 => ?_)
  · obtain ⟨k, rfl⟩ : ∃ m : Nat, k = m := ⟨k.toNat, by omega⟩
    have hlt : k < L.length := by omega
    rw [Int.toNat_natCast]
    have hs := pV_size h8 k
    have hh := hV_le k h8
    have hle := laterT_le L k (L.length - (k + 1))
    have hlv : laterV L k = laterT L k (L.length - (k + 1)) := rfl
    refine RowI.get (ha.grow hb4) hk0 (by omega) ?_
    rw [Int.toNat_natCast, w64_succ (n := (k : Int)) hk0 (by omega)]
    refine Row.cut (ha.grow hb4) (by simp <;> omega) (by simp <;> omega) (by simp <;> omega) fun t ht => ?_
    have e2 : (List.take ((none : Option Int).getD (a.n : Int)).toNat (L.map vI)).drop ((some ((k : Int) + 1)).getD 0).toNat = (L.drop (k + 1)).map vI := by
      rw [han]; simp [List.map_drop, List.take_of_length_le]
    rw [e2] at ht
    have htn : t.n = L.length - (k + 1) := by have := ht.n; simpa using this
    rw [htn]
    refine impl_PathOf.L10_rule _ _ _ _ _ _ _ _ _ _ _ _ _ (I := fun want j w' => w' = w4 ∧ 0 ≤ j ∧ j ≤ (L.length - (k + 1) : Nat) ∧ want = 1 + laterT L k j.toNat) (μ := fun _ j _ => ((L.length - (k + 1) : Nat) - j).toNat)
      ⟨rfl, by omega, by omega, rfl⟩ ?_
    rintro want j w5 ⟨rfl, hj0, hj, rfl⟩
    have hlj := laterT_le L k j.toNat
    rw [impl_PathOf.B10_s]
    refine bif_dec (fun h5 => ?_) (fun h5 => ?_)
    · refine RowI.get ht hj0 (by simp; omega) ?_
      have e3 : (L.drop (k + 1)).getD j.toNat 0 = L.getD (k + 1 + j.toNat) 0 := by simp [List.getD_eq_getElem?_getD, List.getElem?_drop]
      rw [e3]
      have ej : (j + 1).toNat = j.toNat + 1 := by omega
      refine bif_dec (fun h6 => ?_) (fun h6 => ?_)
      · refine ⟨_, j + 1, by rw [w64_succ hj0 (by omega), w64_succ (by omega) (by omega)], ⟨rfl, by omega, by omega, ?_⟩, by omega⟩
        rw [ej, laterT, if_pos h6]; omega
      · refine ⟨_, j + 1, by rw [w64_succ hj0 (by omega)], ⟨rfl, by omega, by omega, ?_⟩, by omega⟩
        rw [ej, laterT, if_neg h6]; omega
    · rw [impl_PathOf.A10_2_s]
      rw [show j.toNat = L.length - (k + 1) by omega, ← hlv]
      have hus := us_size (pV L k) (laterV L k + 1 - hV L k).toNat
      have em : (if 1 + laterV L k > hV L k then 1 + laterV L k else hV L k) = max (hV L k) (laterV L k + 1) := by split <;> omega
      refine bif_dec (fun h7 => ?_) (fun h7 => ?_)
      · obtain ⟨c, hc⟩ : ∃ c : Nat, 1 + laterV L k - hV L k = c := ⟨(1 + laterV L k - hV L k).toNat, by omega⟩
        have ec : w64 (1 + laterV L k - hV L k) = (c : Int) := by rw [w64_id (by omega) (by omega)]; exact hc
        rw [ec]
        refine (Tryz.strings_Repeat ⟨#[85]⟩ c w5 (by omega) (by show 1 * c ≤ _; omega)).mono ?_
        rintro e w6 ⟨rfl, hb6⟩
        refine ⟨_, rfl, ?_⟩
        have hb46 := hb4.trans (hb6.mono hb4.size)
        have eu : pV L k ++ (⟨(Lib.repeatL (⟨#[85]⟩ : ByteArray).data.toList c).toArray⟩ : ByteArray) = us (pV L k) (laterV L k + 1 - hV L k).toNat := by
          rw [show (laterV L k + 1 - hV L k).toNat = c by omega]; exact us_repeat _ c
        have hsz : (⟨(Lib.repeatL (⟨#[85]⟩ : ByteArray).data.toList c).toArray⟩ : ByteArray).size ≤ 1000 := by
          have := congrArg ByteArray.size eu
          rw [ByteArray.size_append] at this
          omega
        refine ⟨szmax (n := 0) (by omega) hsz, ?_⟩
        simp only [eu]
        rw [impl_PathOf.J17_s, em]
        refine ⟨szmax (n := 0) (by omega) (by decide), _, _, (k : Int) + 1, by rw [w64_succ (n := (k : Int)) hk0 (by omega), w64_id (n := max (hV L k) (laterV L k + 1) - 1) (by omega) (by omega)], ⟨by omega, by omega, hb46, ?_, ?_⟩, by omega⟩
        · rw [show ((k : Int) + 1).toNat = k + 1 by omega, pV]
        · rw [show ((k : Int) + 1).toNat = k + 1 by omega, hV]
      · rw [impl_PathOf.J17_s, em]
        refine ⟨szmax (n := 0) (by omega) (by decide), _, _, (k : Int) + 1, by rw [w64_succ (n := (k : Int)) hk0 (by omega), w64_id (n := max (hV L k) (laterV L k + 1) - 1) (by omega) (by omega)], ⟨by omega, by omega, hb4, ?_, ?_⟩, by omega⟩
        · rw [show ((k : Int) + 1).toNat = k + 1 by omega, pV, show (laterV L k + 1 - hV L k).toNat = 0 by omega]; rfl
        · rw [show ((k : Int) + 1).toNat = k + 1 by omega, hV]
  · rw [impl_PathOf.A6_0_s]
    rw [show k.toNat = L.length by omega]
    exact ⟨rfl, hb4⟩
end Go.Proofs.YtlcemelmnkipmaaGreat
