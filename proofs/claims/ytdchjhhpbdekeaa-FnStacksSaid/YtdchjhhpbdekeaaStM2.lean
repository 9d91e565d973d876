/- The texts Draw, OpenB, CodeGS, CodeGz, Gz, CodeHp, CodeFi, CodeCl, TabFn, Clo in one (gmerge.py). -/
import Derived.Laws.Tables
import Derived.ChangeSlices
import Derived.WideShapes
import Derived.Test.YtdchjhhpbdekeaaStM1
/- The draws: a cursor over the bytes handed in, numbers below a bound, permutations, and lists that are permutations mostly. -/
namespace Go.Proofs.Ytdchjhhpbdekeaa
open Go Go.RowKit
set_option maxRecDepth 100000

/-! ### Bytes -/
@[reducible] def vB (n : Int) : Value := .int .u8 n
/-- A row of bytes. -/
@[reducible] def RowB (w : World) (s : Sl) (L : List Int) : Prop := Row w s (L.map vB)
theorem RowB.get {w s L} (h : RowB w s L) {i : Int} (h0 : 0 ≤ i) (hi : i < L.length) {K : Int → Prop} (hk : K (L.getD i.toNat 0)) : idxK 1 s i fun a => load1 (.int .u8) a w K := by
  have hlt : i.toNat < L.length := by omega
  refine Row.get (sh := .int .u8) (r := L.getD i.toNat 0) h h0 ?_ hk
  simp [List.getD_eq_getElem?_getD, List.getElem?_eq_getElem hlt]
theorem wrap_and (a : Int) (m : Nat) (hm : m < 2^63) : 0 ≤ bAnd .i64 a m ∧ bAnd .i64 a m ≤ m := by
  unfold bAnd
  have h : (BitVec.ofInt IntKind.i64.bits a &&& BitVec.ofInt IntKind.i64.bits (m : Int)).toNat ≤ m := by
    rw [BitVec.toNat_and]
    refine Nat.le_trans Nat.and_le_right ?_
    simp [IntKind.bits]
    exact Nat.mod_le _ _
  have e : IntKind.i64.wrap (((BitVec.ofInt IntKind.i64.bits a &&& BitVec.ofInt IntKind.i64.bits (m : Int)).toNat : Nat) : Int) = ((BitVec.ofInt IntKind.i64.bits a &&& BitVec.ofInt IntKind.i64.bits (m : Int)).toNat : Nat) := w64_id (by omega) (by omega)
  rw [e]
  omega

/-! ### The cursor -/
structure Cur (w0 w : World) (c : Addr) : Prop where
  ex : ∃ (b : Sl) (L : List Int) (g : Nat) (i h : Int), c = ⟨g, 0, none⟩ ∧ RowB w0 b L ∧ L.length < 2^60 ∧ w0.heap.size ≤ g ∧ w.heap[g]? = some (.cells #[b.v, vI i, vI h] T_spec_l1Cur (0, 0)) ∧ 0 ≤ i ∧ i ≤ L.length
  below : Below w0.heap.size w0 w
/-- The cursor's block. -/
def CS (c : Addr) (k : Nat) : Prop := k = c.block
theorem Cur.lt {w0 w c} (h : Cur w0 w c) : w0.heap.size ≤ c.block ∧ c.block < w.heap.size := by
  obtain ⟨b, L, g, i, hh, rfl, _, _, h1, h2, _⟩ := h.ex
  exact ⟨h1, (Array.getElem?_eq_some_iff.1 h2).1⟩
theorem Cur.keeps {w0 w w' c} {S : Nat → Prop} (h : Cur w0 w c) (hk : Keeps S w w') (hS : ∀ k, S k → w0.heap.size ≤ k ∧ k ≠ c.block) : Cur w0 w' c := by
  have hl := h.lt
  refine ⟨?_, h.below.trans (hk.below (fun k hk => (hS k hk).1) h.below.size)⟩
  obtain ⟨b, L, g, i, hh, rfl, h1, h2, h3, h4, h5⟩ := h.ex
  refine ⟨b, L, g, i, hh, rfl, h1, h2, h3, ?_, h5⟩
  rw [hk.block g hl.2 (fun hs => (hS g hs).2 rfl)]; exact h4
theorem Cur.grow {w0 w w' c} (h : Cur w0 w c) (hb : Below w.heap.size w w') : Cur w0 w' c :=
  h.keeps (keeps_grown (grow_of_below hb)) (fun k hk => by cases hk)
theorem keeps_below {w w' : World} (hb : Below w.heap.size w w') (S : Nat → Prop) : Keeps S w w' := (keeps_grown (grow_of_below hb)).mono (fun k e => by cases e)
/-- What was made behind the cursor stays while the cursor moves. -/
theorem Own.curs {w w' B e s vs c} (h : Own w B e s vs) (hk : Keeps (CS c) w w') (hc : c.block < B) : Own w' B e s vs :=
  h.keeps hk fun g hg hs => by have := (h.lt g hg).1; unfold CS at hs; omega
theorem cur_load {w : World} {g k : Nat} {cs : Array Value} {t : TypeId} (hg : w.heap[g]? = some (.cells cs t (0, 0))) {s : Sh} {r : s.T} (hc : cs[k]? = some (s.enc r)) {K : s.T → Prop} (hk : K r) : load1 s ((⟨g, 0, none⟩ : Addr).add k) w K := by
  refine ⟨r, ?_, hk⟩
  rw [add_lit, cell_of_row w g (0 + k) cs t (0, 0) hg, Nat.zero_add]
  exact hc
theorem cur_store {w : World} {g k : Nat} {cs : Array Value} {t : TypeId} (hg : w.heap[g]? = some (.cells cs t (0, 0))) (hk : k < cs.size) {v : Value} {K : World → Prop}
    (h : ∀ w', w'.heap[g]? = some (.cells (cs.setIfInBounds k v) t (0, 0)) → Keeps (fun x => x = g) w w' → w'.heap.size = w.heap.size → K w') : storeC ((⟨g, 0, none⟩ : Addr).add k) v w K := by
  rw [add_lit, Nat.zero_add]
  have hcell := cell_of_row w g k cs t (0, 0) hg
  refine ⟨⟨cs[k], by rw [hcell]; simp [hk]⟩, by simp [World.frozen?, hg], h _ ?_ ⟨rfl, rfl, rfl, by simp [World.setCell], fun x hx hne => Below.heap_setCell _ _ _ _ (fun e => hne e)⟩ (by simp [World.setCell])⟩
  simp [World.setCell, Array.getElem?_modify, hg]

theorem c_l1New {w : World} {a : Sl} {L : List Int} (ha : RowB w a L) (hL : L.length < 2^60) :
    Calls PP F.spec_l1New #[a.v] w fun e w' => ∃ c, e = .returned (.pointer (some c)) ∧ Cur w w' c := by
  have han : a.n = L.length := by have := ha.n; simpa using this
  refine spec_l1New.calls a ?_
  rw [spec_l1New.E_s]
  have fin : ∀ h R, (∀ c w', Cur w w' c → R (.returned (.pointer (some c))) w') → spec_l1New.q1 std R (.exit 0) (spec_l1New.x0 a h) w := by
    intro h R hR
    rw [spec_l1New.A3_0_s]
    refine ⟨_, fun w => run_build w _ _ #[a.v, vI 0, vI h] (by kernel_rfl), ?_⟩
    refine hR _ _ ⟨⟨a, L, w.heap.size, 0, h, rfl, ha, hL, Nat.le_refl _, heap_alloc_new w _, by omega, by omega⟩, below_of_grow (World.grownBy_alloc w _ none)⟩
  refine spec_l1New.L3_rule _ _ _ _ _ (I := fun h i w' => w' = w ∧ 0 ≤ i ∧ i ≤ L.length) (μ := fun _ i _ => (L.length - i).toNat) ⟨rfl, by omega, by omega⟩ ?_
  rintro h i w' ⟨rfl, h0, hi⟩
  rw [spec_l1New.B3_s, han]
  refine bif_dec (fun h3 => ?_) (fun h3 => ?_)
  · refine bif_dec (fun h4 => ?_) (fun h4 => ?_)
    · refine RowB.get ha h0 (by omega) ?_
      exact ⟨_, i + 1, by rw [w64_succ h0 (by omega)], ⟨rfl, by omega, by omega⟩, by omega⟩
    · exact fin _ _ (fun c w' hc => ⟨c, rfl, hc⟩)
  · exact fin _ _ (fun c w' hc => ⟨c, rfl, hc⟩)

theorem c_l1Byte {w0 w : World} {c : Addr} (hc : Cur w0 w c) :
    Calls PP F.spec_l1Byte #[.pointer (some c)] w fun e w' => ∃ x : Int, e = .returned (vI x) ∧ 0 ≤ x ∧ x ≤ 255 ∧ Cur w0 w' c ∧ Keeps (CS c) w w' := by
  have hlt := hc.lt
  have hbel := hc.below
  obtain ⟨b, L, g, i, h, rfl, hb, hL, hg, hcell, hi0, hi⟩ := hc.ex
  have hbn : b.n = L.length := by have := hb.n; simpa using this
  refine spec_l1Byte.calls ⟨g, 0, none⟩ ?_
  rw [spec_l1Byte.E_s]
  refine cur_load hcell (s := .int .i64) (r := h) (by rfl) ?_
  refine cur_store hcell (by simp) ?_
  intro w1 hg1 hk1 hs1
  have hb1 : Below w0.heap.size w0 w1 := hbel.trans (hk1.below (fun k e => by rw [e]; exact hg) hbel.size)
  generalize w64 (w64 (h * 6364136223846793005) + 1442695040888963407) = h' at hg1
  have hg1 : w1.heap[g]? = some (.cells #[b.v, vI i, vI h'] T_spec_l1Cur (0, 0)) := hg1
  refine cur_load hg1 (s := .int .i64) (r := h') (by rfl) ?_
  refine ⟨by omega, ?_⟩
  refine cur_load hg1 (s := .int .i64) (r := h') (by rfl) ?_
  refine ⟨by omega, ?_⟩
  refine drew_intro fun w4 hd4 => ?_
  have hg4 : w4.heap[g]? = some (.cells #[b.v, vI i, vI h'] T_spec_l1Cur (0, 0)) := by rw [hd4.heap']; exact hg1
  refine cur_load hg4 (s := .int .i64) (r := i) (by rfl) ?_
  refine cur_load hg4 (s := .sl) (r := b) (by rfl) ?_
  refine drew_intro fun w8 hd8 => ?_
  have hd18 := hd4.trans hd8
  have hg8 : w8.heap[g]? = some (.cells #[b.v, vI i, vI h'] T_spec_l1Cur (0, 0)) := by rw [hd18.heap']; exact hg1
  have hb8 : Below w0.heap.size w0 w8 := hb1.trans (hd18.below _)
  have hk8 : Keeps (CS ⟨g, 0, none⟩) w w8 := (hk1.mono fun k e => e).trans (hd18.keeps _)
  have hm := fun a => wrap_and a 255 (by decide)
  rw [hbn]
  refine bif_dec (fun h3 => ?_) (fun h3 => ?_)
  · refine cur_load hg8 (s := .sl) (r := b) (by rfl) ?_
    refine cur_load hg8 (s := .int .i64) (r := i) (by rfl) ?_
    refine RowB.get (hb.grow hb8) hi0 (by omega) ?_
    refine drew_intro fun w13 hd13 => ?_
    have hg13 : w13.heap[g]? = some (.cells #[b.v, vI i, vI h'] T_spec_l1Cur (0, 0)) := by rw [hd13.heap']; exact hg8
    refine cur_load hg13 (s := .int .i64) (r := i) (by rfl) ?_
    refine cur_store hg13 (by simp) ?_
    intro w15 hg15 hk15 hs15
    rw [w64_succ hi0 (by omega)] at hg15
    rw [spec_l1Byte.J6_s]
    have hb13 := hb8.trans (hd13.below w0.heap.size)
    refine ⟨_, rfl, (hm _).1, (hm _).2, ⟨⟨b, L, g, i + 1, h', rfl, hb, hL, hg, hg15, by omega, by omega⟩, hb13.trans (hk15.below (fun k e => by rw [e]; exact hg) hb13.size)⟩, (hk8.trans (hd13.keeps _)).trans (hk15.mono fun k e => e)⟩
  · rw [spec_l1Byte.J6_s]
    exact ⟨_, rfl, (hm _).1, (hm _).2, ⟨⟨b, L, g, i, h', rfl, hb, hL, hg, hg8, hi0, hi⟩, hb8⟩, hk8⟩

theorem c_l1Below {w0 w : World} {c : Addr} (hc : Cur w0 w c) {n : Int} (hn : n ≤ 256) :
    Calls PP F.spec_l1Below #[.pointer (some c), vI n] w fun e w' => ∃ x : Int, e = .returned (vI x) ∧ 0 ≤ x ∧ (x < n ∨ x = 0) ∧ Cur w0 w' c ∧ Keeps (CS c) w w' := by
  refine spec_l1Below.calls c n ?_
  rw [spec_l1Below.E_s]
  refine bif_dec (fun h => ?_) (fun h => ?_)
  · exact ⟨0, rfl, by omega, .inr rfl, hc, Keeps.refl _ _⟩
  refine bif_dec (fun h2 => ?_) (fun h2 => absurd hn h2)
  refine (c_l1Byte hc).mono ?_
  rintro e w1 ⟨x, rfl, h0, h1, hc1, hk1⟩
  refine ⟨x, rfl, by omega, ?_⟩
  have e1 : x.tmod n = x % n := Int.tmod_eq_emod_of_nonneg h0
  refine ⟨_, rfl, ?_, .inl ?_, hc1, hk1⟩
  · rw [e1]; exact Int.emod_nonneg _ (by omega)
  · rw [e1]; exact Int.emod_lt_of_pos _ (by omega)
theorem c_l1Once {w0 w : World} {c : Addr} (hc : Cur w0 w c) {n : Int} (hn : n ≤ 256) :
    Calls PP F.spec_l1Once #[.pointer (some c), vI n] w fun e w' => ∃ b : Bool, e = .returned (.bool b) ∧ Cur w0 w' c ∧ Keeps (CS c) w w' := by
  refine spec_l1Once.calls c n ?_
  rw [spec_l1Once.E_s]
  refine (c_l1Below hc hn).mono ?_
  rintro e w1 ⟨x, rfl, h0, h1, hc1, hk1⟩
  exact ⟨x, rfl, _, rfl, hc1, hk1⟩
theorem c_l1PickInt {w0 w : World} {c : Addr} (hc : Cur w0 w c) {s : Sl} {L : List Int} (hs : ∀ w', Keeps (CS c) w w' → RowI w' s L) (h1 : 0 < L.length) (h2 : L.length ≤ 256) :
    Calls PP F.spec_l1PickInt #[.pointer (some c), s.v] w fun e w' => ∃ x : Int, e = .returned (vI x) ∧ x ∈ L ∧ Cur w0 w' c ∧ Keeps (CS c) w w' := by
  have hsn : s.n = L.length := by have := (hs w (Keeps.refl _ _)).n; simpa using this
  refine spec_l1PickInt.calls c s ?_
  rw [spec_l1PickInt.E_s, hsn]
  refine (c_l1Below hc (by omega)).mono ?_
  rintro e w1 ⟨x, rfl, h0, h3, hc1, hk1⟩
  refine ⟨x, rfl, ?_⟩
  refine RowI.get (hs w1 hk1) h0 (by omega) ?_
  have hlt : x.toNat < L.length := by omega
  exact ⟨_, rfl, by simp [List.getD_eq_getElem?_getD, List.getElem?_eq_getElem hlt], hc1, hk1⟩

/-! ### Permutations -/
def upTo (n : Nat) : List Int := (List.range n).map fun (i : Nat) => (i : Int) + 1
theorem upTo_succ (n : Nat) : upTo (n + 1) = upTo n ++ [(n : Int) + 1] := by simp [upTo, List.range_succ]
theorem upTo_length (n : Nat) : (upTo n).length = n := by simp [upTo]
theorem ins_perm {L : List Int} {n at_ : Nat} (h : L.Perm (upTo n)) : (L.take at_ ++ [(n : Int) + 1] ++ L.drop at_).Perm (upTo (n + 1)) := by
  rw [upTo_succ]
  refine List.Perm.trans ?_ (List.Perm.append_right _ h)
  rw [List.append_assoc]
  have h1 : (L.take at_ ++ ([(n : Int) + 1] ++ L.drop at_)).Perm (L.take at_ ++ (L.drop at_ ++ [(n : Int) + 1])) := List.Perm.append_left _ List.perm_append_comm
  have h2 : L.take at_ ++ (L.drop at_ ++ [(n : Int) + 1]) = L ++ [(n : Int) + 1] := by rw [← List.append_assoc, List.take_append_drop]
  rwa [h2] at h1
theorem upTo_mem {n : Nat} {x : Int} : x ∈ upTo n ↔ 1 ≤ x ∧ x ≤ n := by
  simp only [upTo, List.mem_map, List.mem_range]
  constructor
  · rintro ⟨i, hi, rfl⟩; omega
  · rintro ⟨h1, h2⟩; exact ⟨(x - 1).toNat, by omega, by omega⟩

theorem c_l2Draw {w0 w : World} {c : Addr} (hc : Cur w0 w c) {n : Nat} (hn : n ≤ 200) :
    Calls PP F.spec_l2Draw #[.pointer (some c), vI n] w fun e w' => ∃ (s : Sl) (L : List Int), e = .returned s.v ∧ OwnI w' w.heap.size s L ∧ L.Perm (upTo n) ∧ Cur w0 w' c ∧ Keeps (CS c) w w' := by
  have hcl := hc.lt
  refine spec_l2Draw.calls c n ?_
  rw [spec_l2Draw.E_s]
  refine lit0 oneInt (B := w.heap.size) (Nat.le_refl _) ?_
  intro o w1 ho hg1 _
  have hb1 := below_of_grow hg1
  refine spec_l2Draw.L3_rule _ _ _ _ _ _ (I := fun o k w' => 1 ≤ k ∧ k ≤ n + 1 ∧ Cur w0 w' c ∧ Keeps (CS c) w w' ∧ ∃ L : List Int, OwnI w' w.heap.size o L ∧ L.Perm (upTo (k - 1).toNat)) (μ := fun _ k _ => (n + 1 - k).toNat)
    ⟨by omega, by omega, hc.grow hb1, keeps_below hb1 _, [], by simpa [OwnI] using ho, by simp [upTo]⟩ ?_
  rintro o k w2 ⟨hk1, hk, hc2, hkp2, L, hoL, hp⟩
  have hlen : L.length = (k - 1).toNat := by rw [hp.length_eq, upTo_length]
  have hon : o.n = L.length := by have := hoL.n; simpa using this
  rw [spec_l2Draw.B3_s]
  refine bif_dec (fun h3 => ?_) (fun h3 => ?_)
  · rw [hon, w64_id (n := (L.length : Int) + 1) (by omega) (by omega)]
    refine (c_l1Below hc2 (by omega)).mono ?_
    rintro e w3 ⟨at_, rfl, h0, h1, hc3, hk3⟩
    refine ⟨at_, rfl, ?_⟩
    have h1 : at_ ≤ L.length := by omega
    have ho3 : OwnI w3 w.heap.size o L := Own.curs hoL hk3 hcl.2
    have hkp3 := hkp2.trans hk3
    have hsz3 := hkp3.size
    refine lit0 oneInt (B := w3.heap.size) (Nat.le_refl _) ?_
    intro r w4 hr hg4 _
    have hb34 := below_of_grow hg4
    have ho4 := Own.grow ho3 hb34
    refine Row.cut ho4.row (by simpa using h0) (by simp <;> omega) (by simp <;> omega) fun s16 hs16 => ?_
    have e2 : (List.take ((none : Option Int).getD (o.n : Int)).toNat (L.map vI)).drop ((some at_).getD 0).toNat = (L.drop at_.toNat).map vI := by
      rw [hon]; simp [List.map_drop, List.take_of_length_le]
    rw [e2] at hs16
    refine append_row oneInt hr (by have := hb34.size; omega) hs16 (fun v hv => by obtain ⟨x, _, rfl⟩ := List.mem_map.1 hv; exact One.int x) (by simp; omega) ?_
    intro r2 w5 hr2 hg5 _ _
    rw [List.nil_append] at hr2
    have hb35 := hb34.grown hg5 hb34.size (fun g hg => (hr.lt g hg).1)
    have ho5 := Own.grow ho3 hb35
    have hc5 := hc3.grow hb35
    have hkp5 := hkp3.trans (keeps_below hb35 (CS c))
    refine Own.pop ho5 h0 (by rw [List.length_map]; omega) fun s20 hs20 hblk => ?_
    rw [← List.map_take] at hs20
    have hs20 : OwnI w5 w.heap.size s20 (L.take at_.toNat) := hs20
    refine append_int hs20 hkp5.size (by rw [List.length_take]; omega) ?_
    intro o7 w7 ho7 hg7 hn7
    have h57 : Below w.heap.size w5 w7 := (Below.refl _ _).grown hg7 hkp5.size (fun g hg => (hs20.lt g hg).1)
    have hc7 := hc5.keeps (keeps_grown hg7) (fun k hk => by have := (hs20.lt k hk).1; omega)
    have hlt3 : ∀ g, o.blk = some g → g < w3.heap.size := fun g hg => (ho3.lt g hg).2
    have hr7 : Own w7 w3.heap.size T_int r2 ((L.drop at_.toNat).map vI) := Own.keeps hr2 (keeps_grown hg7) (fun g hg hg2 => by
      rw [hblk] at hg2; have := hlt3 g hg2; have := (hr2.lt g hg).1; omega)
    refine append_row oneInt ho7 (Nat.le_trans hkp5.size h57.size) hr7.row (fun v hv => by obtain ⟨x, _, rfl⟩ := List.mem_map.1 hv; exact One.int x) (by simp; omega) ?_
    intro o8 w8 ho8 hg8 _ _
    rw [← List.map_append] at ho8
    have h78 : Below w.heap.size w7 w8 := (Below.refl _ _).grown hg8 (Nat.le_trans hkp5.size h57.size) (fun g hg => (ho7.lt g hg).1)
    have hc8 := hc7.keeps (keeps_grown hg8) (fun k hk => by have := (ho7.lt k hk).1; omega)
    have hkp8 : Keeps (CS c) w w8 := by
      have h58 := h57.trans h78
      exact ⟨h58.os.trans hkp5.os, h58.tape.trans hkp5.tape, h58.output.trans hkp5.output, Nat.le_trans hkp5.size h58.size, fun x hx hn => (h58.block x hx).trans (hkp5.block x hx hn)⟩
    refine ⟨o8, k + 1, by rw [w64_succ (by omega) (by omega)], ⟨by omega, by omega, hc8, hkp8, _, ho8, ?_⟩, by omega⟩
    have := ins_perm (at_ := at_.toNat) hp
    rw [show (((k - 1).toNat : Nat) : Int) + 1 = k by omega, show (k - 1).toNat + 1 = (k + 1 - 1).toNat by omega] at this
    exact this
  · rw [spec_l2Draw.A3_0_s]
    rw [show (k - 1).toNat = n by omega] at hp
    exact ⟨o, L, rfl, hoL, hp, hc2, hkp2⟩
/-- A literal of ints. -/
theorem litL {w : World} {B : Nat} (hB : B ≤ w.heap.size) (n : Nat) (parts : Array (Nat × Value)) (L : List Int) (h0 : 0 < n) (hn : L.length = n) (hm : n ≤ 1000)
    (hf : Instr.fill (fun i => some (i * 1, 1)) ((Array.range (n * 1)).map ((vI 0).cells[· % (vI 0).cells.size]!)) parts.toList = some (L.map vI).toArray) {K : Sl → World → Prop}
    (h : ∀ s w', OwnI w' B s L → Below w.heap.size w w' → K s w') : sem1 .sl PP (Instr.buildSlice T_Sint n parts) w K := by
  obtain ⟨i, hu, hi, hz, hs, hb, hzc⟩ := oneInt
  have hrun : (Instr.buildSlice T_Sint n parts).run PP w = .ok (.slice (some ⟨w.heap.size, 0, none⟩) n n) (w.alloc (.cells (L.map vI).toArray T_int)) := by
    refine run_buildSlice w T_Sint T_int n parts (L.map vI).toArray i (vI 0) hu hi hz (by rw [hs]; omega) (by rw [hs]; omega) ?_
    rw [hs]
    exact hf
  exact ⟨⟨some ⟨w.heap.size, 0, none⟩, n, n⟩, _, hrun, h _ _ ⟨by simp [hn], Nat.le_refl _, by simp only [maxLen]; omega, .inr ⟨_, _, rfl, hB, heap_alloc_new w _, by simp [hn], by
    show (L.map vI).toArray.toList.take n = L.map vI
    exact List.take_of_length_le (by simp [hn])⟩⟩ (below_of_grow (World.grownBy_alloc w _ none))⟩
theorem c_l2Any {w0 w : World} {c : Addr} (hc : Cur w0 w c) :
    Calls PP F.spec_l2Any #[.pointer (some c)] w fun e w' => ∃ (s : Sl) (L : List Int) (n : Nat), e = .returned s.v ∧ OwnI w' w.heap.size s L ∧ L.Perm (upTo n) ∧ n ≤ 8 ∧ Cur w0 w' c ∧ Keeps (CS c) w w' := by
  have hcl := hc.lt
  refine spec_l2Any.calls c ?_
  rw [spec_l2Any.E_s]
  refine litL (B := w.heap.size) (Nat.le_refl _) 11 _ [0, 1, 2, 3, 4, 5, 5, 6, 6, 7, 8] (by omega) rfl (by omega) (by kernel_rfl) ?_
  intro t w1 ht hb1
  have hc1 := hc.grow hb1
  refine (c_l1PickInt hc1 (L := [0, 1, 2, 3, 4, 5, 5, 6, 6, 7, 8]) (fun w' hk => (Own.curs ht hk hcl.2).row) (by simp) (by simp)).mono ?_
  rintro e w2 ⟨x, rfl, hx, hc2, hk2⟩
  refine ⟨x, rfl, ?_⟩
  have hx : 0 ≤ x ∧ x ≤ 8 := by simp at hx; omega
  obtain ⟨n, rfl⟩ : ∃ n : Nat, x = n := ⟨x.toNat, by omega⟩
  have hk02 := (keeps_below hb1 (CS c)).trans hk2
  refine (c_l2Draw hc2 (n := n) (by omega)).mono ?_
  rintro e w3 ⟨s, L, rfl, hs, hp, hc3, hk3⟩
  exact ⟨s, rfl, s, L, n, rfl, hs.mono hk02.size, hp, by omega, hc3, hk02.trans hk3⟩
/-- What a list is that is a permutation mostly. -/
def Bent (L : List Int) : Prop := L.length ≤ 9 ∧ ∀ x ∈ L, -1 ≤ x ∧ x ≤ 11
theorem bent_of {L : List Int} {n : Nat} (h : L.Perm (upTo n)) (hn : n ≤ 8) : L.length ≤ 8 ∧ ∀ x ∈ L, -1 ≤ x ∧ x ≤ 11 :=
  ⟨by rw [h.length_eq, upTo_length]; exact hn, fun x hx => by have := upTo_mem.1 (h.mem_iff.1 hx); omega⟩
theorem c_l2Bent {w0 w : World} {c : Addr} (hc : Cur w0 w c) :
    Calls PP F.spec_l2Bent #[.pointer (some c)] w fun e w' => ∃ (s : Sl) (L : List Int), e = .returned s.v ∧ OwnI w' w.heap.size s L ∧ Bent L ∧ Cur w0 w' c ∧ Keeps (CS c) w w' := by
  have hcl := hc.lt
  refine spec_l2Bent.calls c ?_
  rw [spec_l2Bent.E_s]
  refine (c_l2Any hc).mono ?_
  rintro e w1 ⟨s, L, n, rfl, hs, hp, hn, hc1, hk1⟩
  refine ⟨s, rfl, ?_⟩
  obtain ⟨hl, hx⟩ := bent_of hp hn
  have hsn : s.n = L.length := by have := hs.n; simpa using this
  refine (c_l1Below hc1 (n := 14) (by omega)).mono ?_
  rintro e w2 ⟨x, rfl, _, _, hc2, hk2⟩
  refine ⟨x, rfl, ?_⟩
  have hs2 := Own.curs hs hk2 hcl.2
  have hk12 := hk1.trans hk2
  have asis : ∃ (t : Sl) (M : List Int), Ending.returned s.v = .returned t.v ∧ OwnI w2 w.heap.size t M ∧ Bent M ∧ Cur w0 w2 c ∧ Keeps (CS c) w w2 := ⟨s, L, rfl, hs2, ⟨by omega, hx⟩, hc2, hk12⟩
  refine bif_intro (fun h => ?_) (fun h => ?_)
  · refine (c_l1Below hc2 (n := 12) (by omega)).mono ?_
    rintro e w3 ⟨y, rfl, hy0, hy1, hc3, hk3⟩
    refine ⟨y, rfl, ?_⟩
    have hk13 := hk12.trans hk3
    have ey := w64_id (n := y - 1) (by omega) (by omega)
    dsimp only
    rw [ey]
    refine append_int (Own.curs hs2 hk3 hcl.2) hk13.size (by omega) ?_
    intro s' w4 hs' hg4 _
    have hs3 := Own.curs hs2 hk3 hcl.2
    refine ⟨s', _, rfl, hs', ⟨by simp; omega, fun z hz => ?_⟩, hc3.keeps (keeps_grown hg4) (fun k hk => by have := (hs3.lt k hk).1; omega), ?_⟩
    · rcases List.mem_append.1 hz with hz | hz
      · exact hx z hz
      · simp at hz; omega
    · have h34 : Below w.heap.size w3 w4 := (Below.refl _ _).grown hg4 hk13.size (fun g hg => (hs3.lt g hg).1)
      exact ⟨h34.os.trans hk13.os, h34.tape.trans hk13.tape, h34.output.trans hk13.output, Nat.le_trans hk13.size h34.size, fun x hx hn => (h34.block x hx).trans (hk13.block x hx hn)⟩
  · refine bif_intro (fun h => ?_) (fun h => ?_)
    · refine bif_dec (fun h4 => ?_) (fun h4 => ?_)
      · refine (c_l1Below hc2 (n := 11) (by omega)).mono ?_
        rintro e w3 ⟨y, rfl, hy0, hy1, hc3, hk3⟩
        refine ⟨y, rfl, ?_⟩
        have hk13 := hk12.trans hk3
        have hs3 := Own.curs hs2 hk3 hcl.2
        have ey := w64_id (n := y - 1) (by omega) (by omega)
        dsimp only
        rw [ey]
        refine Own.put hs3 (by omega) (by rw [List.length_map]; omega) ?_
        intro w4 ho4 hg4 _
        have ho4 : OwnI w4 w.heap.size s (L.set 0 (y - 1)) := by simpa [OwnI, List.map_set] using ho4
        refine ⟨s, _, rfl, ho4, ⟨by simp; omega, fun z hz => ?_⟩, hc3.keeps (keeps_grown hg4) (fun k hk => by have := (hs3.lt k hk).1; omega), ?_⟩
        · rcases List.mem_or_eq_of_mem_set hz with hz | hz
          · exact hx z hz
          · omega
        · have h34 : Below w.heap.size w3 w4 := (Below.refl _ _).grown hg4 hk13.size (fun g hg => (hs3.lt g hg).1)
          exact ⟨h34.os.trans hk13.os, h34.tape.trans hk13.tape, h34.output.trans hk13.output, Nat.le_trans hk13.size h34.size, fun x hx hn => (h34.block x hx).trans (hk13.block x hx hn)⟩
      · exact asis
    · exact asis
/-- A draw of such a list, of the bytes handed in. -/
def Drawn (w : World) (e : Ending) (w' : World) : Prop := ∃ (s : Sl) (L : List Int), e = .returned s.v ∧ OwnI w' w.heap.size s L ∧ Bent L ∧ Below w.heap.size w w'
theorem c_bentOf {w : World} {a : Sl} {L : List Int} (ha : RowB w a L) (hL : L.length < 2^60) {K : Sl → World → Prop} (hk : ∀ s M w', OwnI w' w.heap.size s M → Bent M → Below w.heap.size w w' → K s w') :
    call1 .ptr PP F.spec_l1New #[a.v] w fun (c : Option Addr) w1 => call1 .sl PP F.spec_l2Bent #[.pointer c] w1 K := by
  refine (c_l1New ha hL).mono ?_
  rintro e w1 ⟨c, rfl, hc⟩
  refine ⟨some c, rfl, ?_⟩
  refine (c_l2Bent hc).mono ?_
  rintro e w2 ⟨s, M, rfl, hs, hM, hc2, hk2⟩
  exact ⟨s, rfl, hk s M w2 (hs.mono hc.below.size) hM hc2.below⟩
end Go.Proofs.Ytdchjhhpbdekeaa

/- What the statement hands in: an argument's reading as a row of bytes. -/
namespace Go.Proofs.Ytdchjhhpbdekeaa
open Go Go.RowKit Go.ChangeShapes Go.WideShapes

theorem trod_bytes {P : Program} {H : Type} {enc : TypeId × Value → H} {W : World} {r : Reach} {b0 : Nat} {t e : TypeId} {v : Value} {d : DataW H} {ps : List MemPlace} (ht : P.underlying t = some (.slice e)) (he : P.underlying e = some (.int .u8)) (hc : P.cellsOf e = 1)
    (hval : Value.okWide P W r b0 t v) (h : DataW.Trod enc P W 0 (fun _ => true) true t v d ps) :
    ∃ (s : Sl) (L : List Int), v = s.v ∧ RowB W s L ∧ L.length ≤ maxLen := by
  obtain ⟨a, len, cap, rfl⟩ := okWide_slice ht hval
  obtain ⟨fuel, hf⟩ := h
  rcases open_ints ht he hc hf with ⟨hcs, hx⟩ | ⟨ad, len', cap', zs, hcs, _, hl, hm, hz, hx, hcell, hw⟩
  · simp [Value.cells] at hcs
    obtain ⟨rfl, rfl, rfl⟩ := hcs
    exact ⟨Sl.nil, [], rfl, ⟨rfl, Nat.le_refl _, fun i v hv => by simp at hv⟩, by simp⟩
  · simp [Value.cells] at hcs
    obtain ⟨rfl, rfl, rfl⟩ := hcs
    have hzl : zs.length = cap := by simpa using hz
    refine ⟨⟨some ad, len, cap⟩, zs.take len, rfl, ⟨by simp; omega, hl, fun i u hu => ⟨ad, rfl, ?_⟩⟩, by simp; omega⟩
    rw [List.getElem?_map, List.getElem?_take] at hu
    split at hu
    · rename_i hi
      have := hcell i (by omega)
      rw [this]
      rw [List.getElem?_eq_getElem (by omega)] at hu
      simp at hu
      rw [← hu]
      simp [List.getD_eq_getElem?_getD, List.getElem?_eq_getElem (show i < zs.length by omega)]
    · simp at hu
end Go.Proofs.Ytdchjhhpbdekeaa

/- What each function does, step by step, written by a program (Gen.lean); each equation is checked by the kernel. -/
namespace Go.Proofs.Ytdchjhhpbdekeaa
open Go
set_option linter.unusedVariables false
set_option maxRecDepth 100000
namespace laws_FnStacks
@[reducible] def cfg : Cfg := ⟨144, [(14, [5, 6, 7, 8, 9, 10, 11])], [(1, [5, 6, 7, 8, 9, 10, 11]), (0, [5, 6, 9, 10])], [(12, [5, 6, 7, 8, 9, 10, 69]), (13, [5, 6, 7, 8, 9, 10]), (19, [5, 6, 10, 106]), (20, [5, 6, 10]), (21, [5, 6, 116]), (22, [5, 6]), (23, [5, 131]), (24, [5])], [2], [], [101, 107, 112, 15, 21, 124, 76, 137, 28, 115, 91, 81, 130], [138, 140, 82, 6, 86, 85, 132]⟩
def q17 (pr : Prims) (R : Ending → World → Prop) : Exit → Env → World → Prop := fun ex e w => normQ ex (fun e w => contE pr cfg (sub (codeOf Try.f3) [1, 1, 1, 1, 1, 1, 1, 1, 1, 1, 1]) (fun e w => wpC pr PP cfg (DD pr) (sub (codeOf Try.f3) [1, 1, 1, 1, 1, 1, 1, 1, 1, 1, 1]) (retQ Try.f3.results.toList R) e w) e w) (retQ Try.f3.results.toList R) e w
def q18 (pr : Prims) (R : Ending → World → Prop) : Exit → Env → World → Prop := fun ex e w => normQ ex (fun e w => contE pr cfg (sub (codeOf Try.f3) [1, 1, 1, 1, 1, 1, 1, 1, 1, 1, 0, 1]) (fun e w => wpC pr PP cfg (DD pr) (sub (codeOf Try.f3) [1, 1, 1, 1, 1, 1, 1, 1, 1, 1, 0, 1]) (q17 pr R) e w) e w) (q17 pr R) e w
def q23 (pr : Prims) (R : Ending → World → Prop) : Exit → Env → World → Prop := fun ex e w => normQ ex (fun e w => contE pr cfg (sub (codeOf Try.f3) [1, 1, 1, 1, 1, 1, 1, 1, 1, 1, 1, 1]) (fun e w => wpC pr PP cfg (DD pr) (sub (codeOf Try.f3) [1, 1, 1, 1, 1, 1, 1, 1, 1, 1, 1, 1]) (retQ Try.f3.results.toList R) e w) e w) (retQ Try.f3.results.toList R) e w
def q24 (pr : Prims) (R : Ending → World → Prop) : Exit → Env → World → Prop := fun ex e w => blockQ ex 0 (q23 pr R) e w
def q31 (pr : Prims) (R : Ending → World → Prop) : Exit → Env → World → Prop := fun ex e w => normQ ex (fun e w => contE pr cfg (sub (codeOf Try.f3) [1, 1, 1, 1, 1, 1, 1, 1, 1, 1, 1, 1, 1]) (fun e w => wpC pr PP cfg (DD pr) (sub (codeOf Try.f3) [1, 1, 1, 1, 1, 1, 1, 1, 1, 1, 1, 1, 1]) (retQ Try.f3.results.toList R) e w) e w) (retQ Try.f3.results.toList R) e w
def q32 (pr : Prims) (R : Ending → World → Prop) : Exit → Env → World → Prop := fun ex e w => normQ ex (fun e w => contE pr cfg (sub (codeOf Try.f3) [1, 1, 1, 1, 1, 1, 1, 1, 1, 1, 1, 1, 0, 1]) (fun e w => wpC pr PP cfg (DD pr) (sub (codeOf Try.f3) [1, 1, 1, 1, 1, 1, 1, 1, 1, 1, 1, 1, 0, 1]) (q31 pr R) e w) e w) (q31 pr R) e w
def q37 (pr : Prims) (R : Ending → World → Prop) : Exit → Env → World → Prop := fun ex e w => normQ ex (fun e w => contE pr cfg (sub (codeOf Try.f3) [1, 1, 1, 1, 1, 1, 1, 1, 1, 1, 1, 1, 1, 1]) (fun e w => wpC pr PP cfg (DD pr) (sub (codeOf Try.f3) [1, 1, 1, 1, 1, 1, 1, 1, 1, 1, 1, 1, 1, 1]) (retQ Try.f3.results.toList R) e w) e w) (retQ Try.f3.results.toList R) e w
def q38 (pr : Prims) (R : Ending → World → Prop) : Exit → Env → World → Prop := fun ex e w => normQ ex (fun e w => contE pr cfg (sub (codeOf Try.f3) [1, 1, 1, 1, 1, 1, 1, 1, 1, 1, 1, 1, 1, 0, 1]) (fun e w => wpC pr PP cfg (DD pr) (sub (codeOf Try.f3) [1, 1, 1, 1, 1, 1, 1, 1, 1, 1, 1, 1, 1, 0, 1]) (q37 pr R) e w) e w) (q37 pr R) e w
def q45 (pr : Prims) (R : Ending → World → Prop) : Exit → Env → World → Prop := fun ex e w => normQ ex (fun e w => contE pr cfg (sub (codeOf Try.f3) [1, 1, 1, 1, 1, 1, 1, 1, 1, 1, 1, 1, 1, 1, 1]) (fun e w => wpC pr PP cfg (DD pr) (sub (codeOf Try.f3) [1, 1, 1, 1, 1, 1, 1, 1, 1, 1, 1, 1, 1, 1, 1]) (retQ Try.f3.results.toList R) e w) e w) (retQ Try.f3.results.toList R) e w
def q46 (pr : Prims) (R : Ending → World → Prop) : Exit → Env → World → Prop := fun ex e w => normQ ex (fun e w => contE pr cfg (sub (codeOf Try.f3) [1, 1, 1, 1, 1, 1, 1, 1, 1, 1, 1, 1, 1, 1, 0, 1]) (fun e w => wpC pr PP cfg (DD pr) (sub (codeOf Try.f3) [1, 1, 1, 1, 1, 1, 1, 1, 1, 1, 1, 1, 1, 1, 0, 1]) (q45 pr R) e w) e w) (q45 pr R) e w
def j12 (q_5 : Sl) (t_6 : Sl) (r_7 : Sl) (list_8 : Sl) (n_9 : Int) (w_10 : Sl) (t69 : Bool) : Env := [(5, Sl.v q_5), (6, Sl.v t_6), (7, Sl.v r_7), (8, Sl.v list_8), (9, vI n_9), (10, Sl.v w_10), (69, .bool t69)]
def j13 (q_5 : Sl) (t_6 : Sl) (r_7 : Sl) (list_8 : Sl) (n_9 : Int) (w_10 : Sl) : Env := [(5, Sl.v q_5), (6, Sl.v t_6), (7, Sl.v r_7), (8, Sl.v list_8), (9, vI n_9), (10, Sl.v w_10)]
def emb14 (q_5 : Sl) (t_6 : Sl) (r_7 : Sl) (list_8 : Sl) (n_9 : Int) (w_10 : Sl) (k_11 : Int) : Env := [(5, Sl.v q_5), (6, Sl.v t_6), (7, Sl.v r_7), (8, Sl.v list_8), (9, vI n_9), (10, Sl.v w_10), (11, vI k_11)]
def x0 (q_5 : Sl) (t_6 : Sl) (n_9 : Int) (w_10 : Sl) : Env := [(5, Sl.v q_5), (6, Sl.v t_6), (9, vI n_9), (10, Sl.v w_10)]
def j19 (q_5 : Sl) (t_6 : Sl) (w_10 : Sl) (t106 : Bool) : Env := [(5, Sl.v q_5), (6, Sl.v t_6), (10, Sl.v w_10), (106, .bool t106)]
def j20 (q_5 : Sl) (t_6 : Sl) (w_10 : Sl) : Env := [(5, Sl.v q_5), (6, Sl.v t_6), (10, Sl.v w_10)]
def j21 (q_5 : Sl) (t_6 : Sl) (t116 : Bool) : Env := [(5, Sl.v q_5), (6, Sl.v t_6), (116, .bool t116)]
def j22 (q_5 : Sl) (t_6 : Sl) : Env := [(5, Sl.v q_5), (6, Sl.v t_6)]
def j23 (q_5 : Sl) (t131 : Bool) : Env := [(5, Sl.v q_5), (131, .bool t131)]
def j24 (q_5 : Sl) : Env := [(5, Sl.v q_5)]
def S14 (pr : Prims) (Q : Exit → Env → World → Prop) : (Env → World → Prop) → Env → World → Prop := fun k e w => wpC pr PP cfg (DD pr) (sub (codeOf Try.f3) [1, 1, 1, 1, 1, 1, 1, 1, 1, 1, 1, 0, 1, 0, 0]) (fun ex e w => normQ ex (fun e' w' => k (Env.restr e' (lookN cfg.loops (keyOf (sub (codeOf Try.f3) [1, 1, 1, 1, 1, 1, 1, 1, 1, 1, 1, 0, 1, 0, 0])))) w') Q e w) e w
def B14 (pr : Prims) (q_5 : Sl) (t_6 : Sl) (r_7 : Sl) (list_8 : Sl) (n_9 : Int) (w_10 : Sl) (k_11 : Int) (w : World) (k : Env → World → Prop) (Q : Exit → Env → World → Prop) : Prop :=
  S14 pr Q k (emb14 q_5 t_6 r_7 list_8 n_9 w_10 k_11) w
def L14 (pr : Prims) (q_5 : Sl) (t_6 : Sl) (r_7 : Sl) (list_8 : Sl) (n_9 : Int) (w_10 : Sl) (k_11 : Int) (w : World) (Q : Exit → Env → World → Prop) : Prop :=
  pr.loop (S14 pr Q) (emb14 q_5 t_6 r_7 list_8 n_9 w_10 k_11) w
def J24 (pr : Prims) (q_5 : Sl) (w : World) (R : Ending → World → Prop) : Prop :=
  pr.seg (fun e w => wpC pr PP cfg (DD pr) (sub (codeOf Try.f3) [1, 1, 1, 1, 1, 1, 1, 1, 1, 1, 1, 1, 1, 1, 1]) (retQ Try.f3.results.toList R) e w) (j24 q_5) w
def J23 (pr : Prims) (q_5 : Sl) (t131 : Bool) (w : World) (R : Ending → World → Prop) : Prop :=
  pr.seg (fun e w => wpC pr PP cfg (DD pr) (sub (codeOf Try.f3) [1, 1, 1, 1, 1, 1, 1, 1, 1, 1, 1, 1, 1, 1, 0, 1]) (q45 pr R) e w) (j23 q_5 t131) w
def J22 (pr : Prims) (q_5 : Sl) (t_6 : Sl) (w : World) (R : Ending → World → Prop) : Prop :=
  pr.seg (fun e w => wpC pr PP cfg (DD pr) (sub (codeOf Try.f3) [1, 1, 1, 1, 1, 1, 1, 1, 1, 1, 1, 1, 1, 1]) (retQ Try.f3.results.toList R) e w) (j22 q_5 t_6) w
def J21 (pr : Prims) (q_5 : Sl) (t_6 : Sl) (t116 : Bool) (w : World) (R : Ending → World → Prop) : Prop :=
  pr.seg (fun e w => wpC pr PP cfg (DD pr) (sub (codeOf Try.f3) [1, 1, 1, 1, 1, 1, 1, 1, 1, 1, 1, 1, 1, 0, 1]) (q37 pr R) e w) (j21 q_5 t_6 t116) w
def J20 (pr : Prims) (q_5 : Sl) (t_6 : Sl) (w_10 : Sl) (w : World) (R : Ending → World → Prop) : Prop :=
  pr.seg (fun e w => wpC pr PP cfg (DD pr) (sub (codeOf Try.f3) [1, 1, 1, 1, 1, 1, 1, 1, 1, 1, 1, 1, 1]) (retQ Try.f3.results.toList R) e w) (j20 q_5 t_6 w_10) w
def J19 (pr : Prims) (q_5 : Sl) (t_6 : Sl) (w_10 : Sl) (t106 : Bool) (w : World) (R : Ending → World → Prop) : Prop :=
  pr.seg (fun e w => wpC pr PP cfg (DD pr) (sub (codeOf Try.f3) [1, 1, 1, 1, 1, 1, 1, 1, 1, 1, 1, 1, 0, 1]) (q31 pr R) e w) (j19 q_5 t_6 w_10 t106) w
def J13 (pr : Prims) (q_5 : Sl) (t_6 : Sl) (r_7 : Sl) (list_8 : Sl) (n_9 : Int) (w_10 : Sl) (w : World) (R : Ending → World → Prop) : Prop :=
  pr.seg (fun e w => wpC pr PP cfg (DD pr) (sub (codeOf Try.f3) [1, 1, 1, 1, 1, 1, 1, 1, 1, 1, 1]) (retQ Try.f3.results.toList R) e w) (j13 q_5 t_6 r_7 list_8 n_9 w_10) w
def J12 (pr : Prims) (q_5 : Sl) (t_6 : Sl) (r_7 : Sl) (list_8 : Sl) (n_9 : Int) (w_10 : Sl) (t69 : Bool) (w : World) (R : Ending → World → Prop) : Prop :=
  pr.seg (fun e w => wpC pr PP cfg (DD pr) (sub (codeOf Try.f3) [1, 1, 1, 1, 1, 1, 1, 1, 1, 1, 0, 1]) (q17 pr R) e w) (j12 q_5 t_6 r_7 list_8 n_9 w_10 t69) w
def E (pr : Prims) (code_0 : Sl) (w : World) (R : Ending → World → Prop) : Prop :=
  wpC pr PP cfg (DD pr) (codeOf Try.f3) (retQ Try.f3.results.toList R) (argE 0 [Sl.v code_0]) w
theorem B14_eq (pr : Prims) (q_5 : Sl) (t_6 : Sl) (r_7 : Sl) (list_8 : Sl) (n_9 : Int) (w_10 : Sl) (k_11 : Int) (w : World) (k : Env → World → Prop) (Q : Exit → Env → World → Prop) : B14 pr q_5 t_6 r_7 list_8 n_9 w_10 k_11 w k Q = (
  bif decide (k_11 < (list_8.n : Int)) then (
  pr.idxK 1 list_8 k_11 fun (a25 : Addr) =>
  pr.load1 .sl a25 w fun (ξ26 : Sl) =>
  pr.call1 .sl PP F.impl_StackPass #[Sl.v ξ26] w fun (ρ27 : Sl) ω28 =>
  pr.call1 .bool PP F.laws_sameInts #[Sl.v ρ27, Sl.v r_7] ω28 fun (ρ29 : Bool) ω30 =>
  bif !ρ29 then (
  Q .ret [(2, .bool false)] ω30)
  else (
  k (emb14 q_5 t_6 r_7 list_8 n_9 w_10 (w64 (k_11 + 1))) ω30))
  else (
  Q (.exit 0) (x0 q_5 t_6 n_9 w_10) w)) := by kernel_rfl
theorem B14_s (q_5 : Sl) (t_6 : Sl) (r_7 : Sl) (list_8 : Sl) (n_9 : Int) (w_10 : Sl) (k_11 : Int) (w : World) (k : Env → World → Prop) (Q : Exit → Env → World → Prop) : B14 std q_5 t_6 r_7 list_8 n_9 w_10 k_11 w k Q = (
  bif decide (k_11 < (list_8.n : Int)) then (
  idxK 1 list_8 k_11 fun (a25 : Addr) =>
  load1 .sl a25 w fun (ξ26 : Sl) =>
  call1 .sl PP F.impl_StackPass #[Sl.v ξ26] w fun (ρ27 : Sl) ω28 =>
  call1 .bool PP F.laws_sameInts #[Sl.v ρ27, Sl.v r_7] ω28 fun (ρ29 : Bool) ω30 =>
  bif !ρ29 then (
  Q .ret [(2, .bool false)] ω30)
  else (
  k (emb14 q_5 t_6 r_7 list_8 n_9 w_10 (w64 (k_11 + 1))) ω30))
  else (
  Q (.exit 0) (x0 q_5 t_6 n_9 w_10) w)) := B14_eq std q_5 t_6 r_7 list_8 n_9 w_10 k_11 w k Q
theorem L14_rule (q_5 : Sl) (t_6 : Sl) (r_7 : Sl) (list_8 : Sl) (n_9 : Int) (w_10 : Sl) (k_11 : Int) (w : World) (Q : Exit → Env → World → Prop) (I : Int → World → Prop) (μ : Int → World → Nat) (h0 : I k_11 w)
    (h : ∀ (k_11 : Int) (w' : World), I k_11 w' → B14 std q_5 t_6 r_7 list_8 n_9 w_10 k_11 w' (fun e2 w2 => ∃ k_11_n, e2 = emb14 q_5 t_6 r_7 list_8 n_9 w_10 k_11_n ∧ I k_11_n w2 ∧ μ k_11_n w2 < μ k_11 w') Q) :
    L14 std q_5 t_6 r_7 list_8 n_9 w_10 k_11 w Q := by
  unfold L14
  refine LoopE.intro (σ := Int) (step := S14 std Q) (fun s => emb14 q_5 t_6 r_7 list_8 n_9 w_10 s) (fun s w => I s w) (fun s w => μ s w) k_11 rfl h0 ?_
  intro s w' hI
  have h1 := h s w' hI
  unfold B14 at h1
  exact h1
theorem J24_gen (pr : Prims) (q_5 : Sl) (w : World) (R : Ending → World → Prop) : wpC pr PP cfg (DD pr) (sub (codeOf Try.f3) [1, 1, 1, 1, 1, 1, 1, 1, 1, 1, 1, 1, 1, 1, 1]) (retQ Try.f3.results.toList R) (j24 q_5) w = (
  pr.call1 .bool PP F.spec_IsPerm #[Sl.v q_5] w fun (ρ51 : Bool) ω52 =>
  bif !ρ51 then (
  R (.returned (.bool true)) ω52)
  else (
  pr.call1 .bool PP F.impl_IsStackSorted #[Sl.v q_5] ω52 fun (ρ53 : Bool) ω54 =>
  pr.sem1 .sl PP (Instr.buildSlice T_Sint 3 #[(0, vI 2), (1, vI 3), (2, vI 1)]) ω54 fun (ρ55 : Sl) ω56 =>
  pr.call1 .bool PP F.spec_HasPattern #[Sl.v q_5, Sl.v ρ55] ω56 fun (ρ57 : Bool) ω58 =>
  R (.returned (.bool (ρ53 == (!ρ57)))) ω58)) := by kernel_rfl
theorem J24_s (q_5 : Sl) (w : World) (R : Ending → World → Prop) : J24 std q_5 w R = (
  call1 .bool PP F.spec_IsPerm #[Sl.v q_5] w fun (ρ51 : Bool) ω52 =>
  bif !ρ51 then (
  R (.returned (.bool true)) ω52)
  else (
  call1 .bool PP F.impl_IsStackSorted #[Sl.v q_5] ω52 fun (ρ53 : Bool) ω54 =>
  sem1 .sl PP (Instr.buildSlice T_Sint 3 #[(0, vI 2), (1, vI 3), (2, vI 1)]) ω54 fun (ρ55 : Sl) ω56 =>
  call1 .bool PP F.spec_HasPattern #[Sl.v q_5, Sl.v ρ55] ω56 fun (ρ57 : Bool) ω58 =>
  R (.returned (.bool (ρ53 == (!ρ57)))) ω58)) := J24_gen std q_5 w R
theorem J23_gen (pr : Prims) (q_5 : Sl) (t131 : Bool) (w : World) (R : Ending → World → Prop) : wpC pr PP cfg (DD pr) (sub (codeOf Try.f3) [1, 1, 1, 1, 1, 1, 1, 1, 1, 1, 1, 1, 1, 1, 0, 1]) (q45 pr R) (j23 q_5 t131) w = (
  bif t131 then (
  R (.returned (.bool false)) w)
  else (
  J24 pr q_5 w R)) := by kernel_rfl
theorem J23_s (q_5 : Sl) (t131 : Bool) (w : World) (R : Ending → World → Prop) : J23 std q_5 t131 w R = (
  bif t131 then (
  R (.returned (.bool false)) w)
  else (
  J24 std q_5 w R)) := J23_gen std q_5 t131 w R
theorem J22_gen (pr : Prims) (q_5 : Sl) (t_6 : Sl) (w : World) (R : Ending → World → Prop) : wpC pr PP cfg (DD pr) (sub (codeOf Try.f3) [1, 1, 1, 1, 1, 1, 1, 1, 1, 1, 1, 1, 1, 1]) (retQ Try.f3.results.toList R) (j22 q_5 t_6) w = (
  pr.call1 .bool PP F.spec_IsPerm #[Sl.v t_6] w fun (ρ47 : Bool) ω48 =>
  bif ρ47 then (
  bif decide ((t_6.n : Int) > 0) then (
  pr.call1 (.int .i64) PP F.impl_StackTimes #[Sl.v t_6] ω48 fun (ρ49 : Int) ω50 =>
  J23 pr q_5 (decide (ρ49 > (w64 ((t_6.n : Int) - 1)))) ω50 R)
  else (
  J23 pr q_5 false ω48 R))
  else (
  J23 pr q_5 false ω48 R)) := by kernel_rfl
theorem J22_s (q_5 : Sl) (t_6 : Sl) (w : World) (R : Ending → World → Prop) : J22 std q_5 t_6 w R = (
  call1 .bool PP F.spec_IsPerm #[Sl.v t_6] w fun (ρ47 : Bool) ω48 =>
  bif ρ47 then (
  bif decide ((t_6.n : Int) > 0) then (
  call1 (.int .i64) PP F.impl_StackTimes #[Sl.v t_6] ω48 fun (ρ49 : Int) ω50 =>
  J23 std q_5 (decide (ρ49 > (w64 ((t_6.n : Int) - 1)))) ω50 R)
  else (
  J23 std q_5 false ω48 R))
  else (
  J23 std q_5 false ω48 R)) := J22_gen std q_5 t_6 w R
theorem J21_gen (pr : Prims) (q_5 : Sl) (t_6 : Sl) (t116 : Bool) (w : World) (R : Ending → World → Prop) : wpC pr PP cfg (DD pr) (sub (codeOf Try.f3) [1, 1, 1, 1, 1, 1, 1, 1, 1, 1, 1, 1, 1, 0, 1]) (q37 pr R) (j21 q_5 t_6 t116) w = (
  bif t116 then (
  R (.returned (.bool false)) w)
  else (
  J22 pr q_5 t_6 w R)) := by kernel_rfl
theorem J21_s (q_5 : Sl) (t_6 : Sl) (t116 : Bool) (w : World) (R : Ending → World → Prop) : J21 std q_5 t_6 t116 w R = (
  bif t116 then (
  R (.returned (.bool false)) w)
  else (
  J22 std q_5 t_6 w R)) := J21_gen std q_5 t_6 t116 w R
theorem J20_gen (pr : Prims) (q_5 : Sl) (t_6 : Sl) (w_10 : Sl) (w : World) (R : Ending → World → Prop) : wpC pr PP cfg (DD pr) (sub (codeOf Try.f3) [1, 1, 1, 1, 1, 1, 1, 1, 1, 1, 1, 1, 1]) (retQ Try.f3.results.toList R) (j20 q_5 t_6 w_10) w = (
  pr.call1 .bool PP F.spec_IsPerm #[Sl.v w_10] w fun (ρ39 : Bool) ω40 =>
  bif ρ39 then (
  pr.call1 .bool PP F.impl_IsTwicePattern #[Sl.v w_10] ω40 fun (ρ41 : Bool) ω42 =>
  pr.call1 (.int .i64) PP F.impl_StackTimes #[Sl.v w_10] ω42 fun (ρ43 : Int) ω44 =>
  J21 pr q_5 t_6 (!(ρ41 == (decide (ρ43 ≤ 2)))) ω44 R)
  else (
  J21 pr q_5 t_6 false ω40 R)) := by kernel_rfl
theorem J20_s (q_5 : Sl) (t_6 : Sl) (w_10 : Sl) (w : World) (R : Ending → World → Prop) : J20 std q_5 t_6 w_10 w R = (
  call1 .bool PP F.spec_IsPerm #[Sl.v w_10] w fun (ρ39 : Bool) ω40 =>
  bif ρ39 then (
  call1 .bool PP F.impl_IsTwicePattern #[Sl.v w_10] ω40 fun (ρ41 : Bool) ω42 =>
  call1 (.int .i64) PP F.impl_StackTimes #[Sl.v w_10] ω42 fun (ρ43 : Int) ω44 =>
  J21 std q_5 t_6 (!(ρ41 == (decide (ρ43 ≤ 2)))) ω44 R)
  else (
  J21 std q_5 t_6 false ω40 R)) := J20_gen std q_5 t_6 w_10 w R
theorem J19_gen (pr : Prims) (q_5 : Sl) (t_6 : Sl) (w_10 : Sl) (t106 : Bool) (w : World) (R : Ending → World → Prop) : wpC pr PP cfg (DD pr) (sub (codeOf Try.f3) [1, 1, 1, 1, 1, 1, 1, 1, 1, 1, 1, 1, 0, 1]) (q31 pr R) (j19 q_5 t_6 w_10 t106) w = (
  bif t106 then (
  R (.returned (.bool false)) w)
  else (
  J20 pr q_5 t_6 w_10 w R)) := by kernel_rfl
theorem J19_s (q_5 : Sl) (t_6 : Sl) (w_10 : Sl) (t106 : Bool) (w : World) (R : Ending → World → Prop) : J19 std q_5 t_6 w_10 t106 w R = (
  bif t106 then (
  R (.returned (.bool false)) w)
  else (
  J20 std q_5 t_6 w_10 w R)) := J19_gen std q_5 t_6 w_10 t106 w R
theorem A14_0_eq (pr : Prims) (q_5 : Sl) (t_6 : Sl) (n_9 : Int) (w_10 : Sl) (w : World) (R : Ending → World → Prop) : (q24 pr R) (.exit 0) (x0 q_5 t_6 n_9 w_10) w = (
  bif decide (n_9 ≥ 1) then (
  bif decide (n_9 ≤ 6) then (
  pr.call1 (.int .i64) PP F.impl_CountTwoPasses #[vI n_9] w fun (ρ33 : Int) ω34 =>
  pr.call1 (.int .i64) PP F.spec_Choose #[vI (w64 (3 * n_9)), vI n_9] ω34 fun (ρ35 : Int) ω36 =>
  (w64 ((w64 (n_9 + 1)) * (w64 ((w64 (2 * n_9)) + 1)))) ≠ (0 : Int) ∧
  J19 pr q_5 t_6 w_10 (ρ33 != (w64 ((w64 (2 * ρ35)).tdiv (w64 ((w64 (n_9 + 1)) * (w64 ((w64 (2 * n_9)) + 1))))))) ω36 R)
  else (
  J19 pr q_5 t_6 w_10 false w R))
  else (
  J19 pr q_5 t_6 w_10 false w R)) := by kernel_rfl
theorem A14_0_s (q_5 : Sl) (t_6 : Sl) (n_9 : Int) (w_10 : Sl) (w : World) (R : Ending → World → Prop) : (q24 std R) (.exit 0) (x0 q_5 t_6 n_9 w_10) w = (
  bif decide (n_9 ≥ 1) then (
  bif decide (n_9 ≤ 6) then (
  call1 (.int .i64) PP F.impl_CountTwoPasses #[vI n_9] w fun (ρ33 : Int) ω34 =>
  call1 (.int .i64) PP F.spec_Choose #[vI (w64 (3 * n_9)), vI n_9] ω34 fun (ρ35 : Int) ω36 =>
  (w64 ((w64 (n_9 + 1)) * (w64 ((w64 (2 * n_9)) + 1)))) ≠ (0 : Int) ∧
  J19 std q_5 t_6 w_10 (ρ33 != (w64 ((w64 (2 * ρ35)).tdiv (w64 ((w64 (n_9 + 1)) * (w64 ((w64 (2 * n_9)) + 1))))))) ω36 R)
  else (
  J19 std q_5 t_6 w_10 false w R))
  else (
  J19 std q_5 t_6 w_10 false w R)) := A14_0_eq std q_5 t_6 n_9 w_10 w R
theorem R14_eq (pr : Prims) (v2 : Value) (w : World) (R : Ending → World → Prop) : (q24 pr R) .ret [(2, v2)] w = (
  R (.returned (v2)) w) := by kernel_rfl
theorem R14_s (v2 : Value) (w : World) (R : Ending → World → Prop) : (q24 std R) .ret [(2, v2)] w = (
  R (.returned (v2)) w) := R14_eq std v2 w R
theorem J13_gen (pr : Prims) (q_5 : Sl) (t_6 : Sl) (r_7 : Sl) (list_8 : Sl) (n_9 : Int) (w_10 : Sl) (w : World) (R : Ending → World → Prop) : wpC pr PP cfg (DD pr) (sub (codeOf Try.f3) [1, 1, 1, 1, 1, 1, 1, 1, 1, 1, 1]) (retQ Try.f3.results.toList R) (j13 q_5 t_6 r_7 list_8 n_9 w_10) w = (
  L14 pr q_5 t_6 r_7 list_8 n_9 w_10 0 w (q24 pr R)) := by kernel_rfl
theorem J13_s (q_5 : Sl) (t_6 : Sl) (r_7 : Sl) (list_8 : Sl) (n_9 : Int) (w_10 : Sl) (w : World) (R : Ending → World → Prop) : J13 std q_5 t_6 r_7 list_8 n_9 w_10 w R = (
  L14 std q_5 t_6 r_7 list_8 n_9 w_10 0 w (q24 std R)) := J13_gen std q_5 t_6 r_7 list_8 n_9 w_10 w R
theorem J12_gen (pr : Prims) (q_5 : Sl) (t_6 : Sl) (r_7 : Sl) (list_8 : Sl) (n_9 : Int) (w_10 : Sl) (t69 : Bool) (w : World) (R : Ending → World → Prop) : wpC pr PP cfg (DD pr) (sub (codeOf Try.f3) [1, 1, 1, 1, 1, 1, 1, 1, 1, 1, 0, 1]) (q17 pr R) (j12 q_5 t_6 r_7 list_8 n_9 w_10 t69) w = (
  bif t69 then (
  R (.returned (.bool false)) w)
  else (
  J13 pr q_5 t_6 r_7 list_8 n_9 w_10 w R)) := by kernel_rfl
theorem J12_s (q_5 : Sl) (t_6 : Sl) (r_7 : Sl) (list_8 : Sl) (n_9 : Int) (w_10 : Sl) (t69 : Bool) (w : World) (R : Ending → World → Prop) : J12 std q_5 t_6 r_7 list_8 n_9 w_10 t69 w R = (
  bif t69 then (
  R (.returned (.bool false)) w)
  else (
  J13 std q_5 t_6 r_7 list_8 n_9 w_10 w R)) := J12_gen std q_5 t_6 r_7 list_8 n_9 w_10 t69 w R
theorem E_eq (pr : Prims) (code_0 : Sl) (w : World) (R : Ending → World → Prop) : E pr code_0 w R = (
  pr.pcall1 .bool PP F.laws_big #[Sl.v code_0] fun (ρ0 : Bool) =>
  bif ρ0 then (
  R (.returned (.bool true)) w)
  else (
  pr.call1 .sl PP F.spec_DrawStackPass #[Sl.v code_0] w fun (ρ1 : Sl) ω2 =>
  pr.call1 .sl PP F.impl_StackPass #[Sl.v ρ1] ω2 fun (ρ3 : Sl) ω4 =>
  pr.call1 .sl PP F.spec_DrawIsStackSorted #[Sl.v code_0] ω4 fun (ρ5 : Sl) ω6 =>
  pr.call1 .sl PP F.spec_DrawStackTimes #[Sl.v code_0] ω6 fun (ρ7 : Sl) ω8 =>
  pr.call1 .sl PP F.spec_DrawStackSources #[Sl.v code_0] ω8 fun (ρ9 : Sl) ω10 =>
  pr.call1 .sl PP F.impl_StackSources #[Sl.v ρ9] ω10 fun (ρ11 : Sl) ω12 =>
  pr.call1 (.int .i64) PP F.spec_DrawCountTwoPasses #[Sl.v code_0] ω12 fun (ρ13 : Int) ω14 =>
  pr.call1 .sl PP F.spec_DrawIsTwicePattern #[Sl.v code_0] ω14 fun (ρ15 : Sl) ω16 =>
  pr.call1 .sl PP F.spec_StackPass #[Sl.v ρ1] ω16 fun (ρ19 : Sl) ω20 =>
  pr.call1 .bool PP F.laws_sameInts #[Sl.v ρ3, Sl.v ρ19] ω20 fun (ρ21 : Bool) ω22 =>
  bif !ρ21 then (
  J12 pr ρ5 ρ7 ρ9 ρ11 ρ13 ρ15 true ω22 R)
  else (
  pr.call1 .bool PP F.impl_IsStackSorted #[Sl.v ρ5] ω22 fun (ρ59 : Bool) ω60 =>
  pr.call1 .bool PP F.spec_IsStackSorted #[Sl.v ρ5] ω60 fun (ρ61 : Bool) ω62 =>
  bif !(ρ59 == ρ61) then (
  J12 pr ρ5 ρ7 ρ9 ρ11 ρ13 ρ15 true ω62 R)
  else (
  pr.call1 (.int .i64) PP F.impl_StackTimes #[Sl.v ρ7] ω62 fun (ρ63 : Int) ω64 =>
  pr.call1 (.int .i64) PP F.spec_StackTimes #[Sl.v ρ7] ω64 fun (ρ65 : Int) ω66 =>
  bif ρ63 != ρ65 then (
  J12 pr ρ5 ρ7 ρ9 ρ11 ρ13 ρ15 true ω66 R)
  else (
  pr.call1 .sl PP F.spec_StackSources #[Sl.v ρ9] ω66 fun (ρ67 : Sl) ω68 =>
  pr.call1 .bool PP F.laws_sameLists #[Sl.v ρ11, Sl.v ρ67] ω68 fun (ρ69 : Bool) ω70 =>
  bif !ρ69 then (
  J12 pr ρ5 ρ7 ρ9 ρ11 ρ13 ρ15 true ω70 R)
  else (
  pr.call1 (.int .i64) PP F.impl_CountTwoPasses #[vI ρ13] ω70 fun (ρ71 : Int) ω72 =>
  pr.call1 (.int .i64) PP F.spec_CountTwoPasses #[vI ρ13] ω72 fun (ρ73 : Int) ω74 =>
  bif ρ71 != ρ73 then (
  J12 pr ρ5 ρ7 ρ9 ρ11 ρ13 ρ15 true ω74 R)
  else (
  pr.call1 .bool PP F.impl_IsTwicePattern #[Sl.v ρ15] ω74 fun (ρ75 : Bool) ω76 =>
  pr.call1 .bool PP F.spec_IsTwicePattern #[Sl.v ρ15] ω76 fun (ρ77 : Bool) ω78 =>
  J12 pr ρ5 ρ7 ρ9 ρ11 ρ13 ρ15 (!(ρ75 == ρ77)) ω78 R))))))) := by kernel_rfl
theorem E_s (code_0 : Sl) (w : World) (R : Ending → World → Prop) : E std code_0 w R = (
  pcall1 .bool PP F.laws_big #[Sl.v code_0] fun (ρ0 : Bool) =>
  bif ρ0 then (
  R (.returned (.bool true)) w)
  else (
  call1 .sl PP F.spec_DrawStackPass #[Sl.v code_0] w fun (ρ1 : Sl) ω2 =>
  call1 .sl PP F.impl_StackPass #[Sl.v ρ1] ω2 fun (ρ3 : Sl) ω4 =>
  call1 .sl PP F.spec_DrawIsStackSorted #[Sl.v code_0] ω4 fun (ρ5 : Sl) ω6 =>
  call1 .sl PP F.spec_DrawStackTimes #[Sl.v code_0] ω6 fun (ρ7 : Sl) ω8 =>
  call1 .sl PP F.spec_DrawStackSources #[Sl.v code_0] ω8 fun (ρ9 : Sl) ω10 =>
  call1 .sl PP F.impl_StackSources #[Sl.v ρ9] ω10 fun (ρ11 : Sl) ω12 =>
  call1 (.int .i64) PP F.spec_DrawCountTwoPasses #[Sl.v code_0] ω12 fun (ρ13 : Int) ω14 =>
  call1 .sl PP F.spec_DrawIsTwicePattern #[Sl.v code_0] ω14 fun (ρ15 : Sl) ω16 =>
  call1 .sl PP F.spec_StackPass #[Sl.v ρ1] ω16 fun (ρ19 : Sl) ω20 =>
  call1 .bool PP F.laws_sameInts #[Sl.v ρ3, Sl.v ρ19] ω20 fun (ρ21 : Bool) ω22 =>
  bif !ρ21 then (
  J12 std ρ5 ρ7 ρ9 ρ11 ρ13 ρ15 true ω22 R)
  else (
  call1 .bool PP F.impl_IsStackSorted #[Sl.v ρ5] ω22 fun (ρ59 : Bool) ω60 =>
  call1 .bool PP F.spec_IsStackSorted #[Sl.v ρ5] ω60 fun (ρ61 : Bool) ω62 =>
  bif !(ρ59 == ρ61) then (
  J12 std ρ5 ρ7 ρ9 ρ11 ρ13 ρ15 true ω62 R)
  else (
  call1 (.int .i64) PP F.impl_StackTimes #[Sl.v ρ7] ω62 fun (ρ63 : Int) ω64 =>
  call1 (.int .i64) PP F.spec_StackTimes #[Sl.v ρ7] ω64 fun (ρ65 : Int) ω66 =>
  bif ρ63 != ρ65 then (
  J12 std ρ5 ρ7 ρ9 ρ11 ρ13 ρ15 true ω66 R)
  else (
  call1 .sl PP F.spec_StackSources #[Sl.v ρ9] ω66 fun (ρ67 : Sl) ω68 =>
  call1 .bool PP F.laws_sameLists #[Sl.v ρ11, Sl.v ρ67] ω68 fun (ρ69 : Bool) ω70 =>
  bif !ρ69 then (
  J12 std ρ5 ρ7 ρ9 ρ11 ρ13 ρ15 true ω70 R)
  else (
  call1 (.int .i64) PP F.impl_CountTwoPasses #[vI ρ13] ω70 fun (ρ71 : Int) ω72 =>
  call1 (.int .i64) PP F.spec_CountTwoPasses #[vI ρ13] ω72 fun (ρ73 : Int) ω74 =>
  bif ρ71 != ρ73 then (
  J12 std ρ5 ρ7 ρ9 ρ11 ρ13 ρ15 true ω74 R)
  else (
  call1 .bool PP F.impl_IsTwicePattern #[Sl.v ρ15] ω74 fun (ρ75 : Bool) ω76 =>
  call1 .bool PP F.spec_IsTwicePattern #[Sl.v ρ15] ω76 fun (ρ77 : Bool) ω78 =>
  J12 std ρ5 ρ7 ρ9 ρ11 ρ13 ρ15 (!(ρ75 == ρ77)) ω78 R))))))) := E_eq std code_0 w R
theorem drawsOk : drawsOk PP cfg okD (codeOf Try.f3) = true := by kernel_rfl
theorem calls (code_0 : Sl) {w : World} {R : Ending → World → Prop} (h : E std code_0 w R) : Calls PP F.laws_FnStacks #[Sl.v code_0] w R :=
  calls_of noCount mixed drawOk Try.func3 rfl (c := cfg) (args := [Sl.v code_0]) rfl (Nat.le_of_ble_eq_true (by kernel_rfl)) drawsOk h
end laws_FnStacks

namespace spec_DrawStackPass
@[reducible] def cfg : Cfg := ⟨6, [], [], [], [2], [], [101, 107, 112, 15, 21, 124, 76, 137, 28, 115, 91, 81, 130], [138, 140, 82, 6, 86, 85, 132]⟩
def E (pr : Prims) (code_0 : Sl) (w : World) (R : Ending → World → Prop) : Prop :=
  wpC pr PP cfg (DD pr) (codeOf Try.f7) (retQ Try.f7.results.toList R) (argE 0 [Sl.v code_0]) w
theorem E_eq (pr : Prims) (code_0 : Sl) (w : World) (R : Ending → World → Prop) : E pr code_0 w R = (
  pr.call1 .ptr PP F.spec_l1New #[Sl.v code_0] w fun (ρ0 : (Option Addr)) ω1 =>
  pr.call1 .sl PP F.spec_l2Bent #[.pointer ρ0] ω1 fun (ρ2 : Sl) ω3 =>
  R (.returned (Sl.v ρ2)) ω3) := by kernel_rfl
theorem E_s (code_0 : Sl) (w : World) (R : Ending → World → Prop) : E std code_0 w R = (
  call1 .ptr PP F.spec_l1New #[Sl.v code_0] w fun (ρ0 : (Option Addr)) ω1 =>
  call1 .sl PP F.spec_l2Bent #[.pointer ρ0] ω1 fun (ρ2 : Sl) ω3 =>
  R (.returned (Sl.v ρ2)) ω3) := E_eq std code_0 w R
theorem drawsOk : drawsOk PP cfg okD (codeOf Try.f7) = true := by kernel_rfl
theorem calls (code_0 : Sl) {w : World} {R : Ending → World → Prop} (h : E std code_0 w R) : Calls PP F.spec_DrawStackPass #[Sl.v code_0] w R :=
  calls_of noCount mixed drawOk Try.func7 rfl (c := cfg) (args := [Sl.v code_0]) rfl (Nat.le_of_ble_eq_true (by kernel_rfl)) drawsOk h
end spec_DrawStackPass

namespace spec_DrawIsStackSorted
@[reducible] def cfg : Cfg := ⟨24, [], [], [], [2], [], [101, 107, 112, 15, 21, 124, 76, 137, 28, 115, 91, 81, 130], [138, 140, 82, 6, 86, 85, 132]⟩
def E (pr : Prims) (code_0 : Sl) (w : World) (R : Ending → World → Prop) : Prop :=
  wpC pr PP cfg (DD pr) (codeOf Try.f9) (retQ Try.f9.results.toList R) (argE 0 [Sl.v code_0]) w
theorem E_eq (pr : Prims) (code_0 : Sl) (w : World) (R : Ending → World → Prop) : E pr code_0 w R = (
  pr.call1 .ptr PP F.spec_l1New #[Sl.v code_0] w fun (ρ0 : (Option Addr)) ω1 =>
  pr.call1 .sl PP F.spec_l2Bent #[.pointer ρ0] ω1 fun (ρ2 : Sl) ω3 =>
  pr.call2 .sl .bool PP F.spec_NearestRest #[Sl.v ρ2] ω3 fun (ρ4 : Sl) (ρ5 : Bool) ω6 =>
  bif ρ5 then (
  pr.call1 .bool PP F.spec_l1Once #[.pointer ρ0, vI 2] ω6 fun (ρ7 : Bool) ω8 =>
  bif ρ7 then (
  pr.call1 .sl PP F.spec_l3Reverse #[Sl.v ρ4] ω8 fun (ρ9 : Sl) ω10 =>
  R (.returned (Sl.v ρ9)) ω10)
  else (
  R (.returned (Sl.v ρ2)) ω8))
  else (
  R (.returned (Sl.v ρ2)) ω6)) := by kernel_rfl
theorem E_s (code_0 : Sl) (w : World) (R : Ending → World → Prop) : E std code_0 w R = (
  call1 .ptr PP F.spec_l1New #[Sl.v code_0] w fun (ρ0 : (Option Addr)) ω1 =>
  call1 .sl PP F.spec_l2Bent #[.pointer ρ0] ω1 fun (ρ2 : Sl) ω3 =>
  call2 .sl .bool PP F.spec_NearestRest #[Sl.v ρ2] ω3 fun (ρ4 : Sl) (ρ5 : Bool) ω6 =>
  bif ρ5 then (
  call1 .bool PP F.spec_l1Once #[.pointer ρ0, vI 2] ω6 fun (ρ7 : Bool) ω8 =>
  bif ρ7 then (
  call1 .sl PP F.spec_l3Reverse #[Sl.v ρ4] ω8 fun (ρ9 : Sl) ω10 =>
  R (.returned (Sl.v ρ9)) ω10)
  else (
  R (.returned (Sl.v ρ2)) ω8))
  else (
  R (.returned (Sl.v ρ2)) ω6)) := E_eq std code_0 w R
theorem drawsOk : drawsOk PP cfg okD (codeOf Try.f9) = true := by kernel_rfl
theorem calls (code_0 : Sl) {w : World} {R : Ending → World → Prop} (h : E std code_0 w R) : Calls PP F.spec_DrawIsStackSorted #[Sl.v code_0] w R :=
  calls_of noCount mixed drawOk Try.func9 rfl (c := cfg) (args := [Sl.v code_0]) rfl (Nat.le_of_ble_eq_true (by kernel_rfl)) drawsOk h
end spec_DrawIsStackSorted

namespace spec_DrawStackTimes
@[reducible] def cfg : Cfg := ⟨6, [], [], [], [2], [], [101, 107, 112, 15, 21, 124, 76, 137, 28, 115, 91, 81, 130], [138, 140, 82, 6, 86, 85, 132]⟩
def E (pr : Prims) (code_0 : Sl) (w : World) (R : Ending → World → Prop) : Prop :=
  wpC pr PP cfg (DD pr) (codeOf Try.f10) (retQ Try.f10.results.toList R) (argE 0 [Sl.v code_0]) w
theorem E_eq (pr : Prims) (code_0 : Sl) (w : World) (R : Ending → World → Prop) : E pr code_0 w R = (
  pr.call1 .ptr PP F.spec_l1New #[Sl.v code_0] w fun (ρ0 : (Option Addr)) ω1 =>
  pr.call1 .sl PP F.spec_l2Bent #[.pointer ρ0] ω1 fun (ρ2 : Sl) ω3 =>
  R (.returned (Sl.v ρ2)) ω3) := by kernel_rfl
theorem E_s (code_0 : Sl) (w : World) (R : Ending → World → Prop) : E std code_0 w R = (
  call1 .ptr PP F.spec_l1New #[Sl.v code_0] w fun (ρ0 : (Option Addr)) ω1 =>
  call1 .sl PP F.spec_l2Bent #[.pointer ρ0] ω1 fun (ρ2 : Sl) ω3 =>
  R (.returned (Sl.v ρ2)) ω3) := E_eq std code_0 w R
theorem drawsOk : drawsOk PP cfg okD (codeOf Try.f10) = true := by kernel_rfl
theorem calls (code_0 : Sl) {w : World} {R : Ending → World → Prop} (h : E std code_0 w R) : Calls PP F.spec_DrawStackTimes #[Sl.v code_0] w R :=
  calls_of noCount mixed drawOk Try.func10 rfl (c := cfg) (args := [Sl.v code_0]) rfl (Nat.le_of_ble_eq_true (by kernel_rfl)) drawsOk h
end spec_DrawStackTimes

namespace spec_DrawStackSources
@[reducible] def cfg : Cfg := ⟨20, [], [], [], [2], [], [101, 107, 112, 15, 21, 124, 76, 137, 28, 115, 91, 81, 130], [138, 140, 82, 6, 86, 85, 132]⟩
def E (pr : Prims) (code_0 : Sl) (w : World) (R : Ending → World → Prop) : Prop :=
  wpC pr PP cfg (DD pr) (codeOf Try.f11) (retQ Try.f11.results.toList R) (argE 0 [Sl.v code_0]) w
theorem E_eq (pr : Prims) (code_0 : Sl) (w : World) (R : Ending → World → Prop) : E pr code_0 w R = (
  pr.call1 .ptr PP F.spec_l1New #[Sl.v code_0] w fun (ρ0 : (Option Addr)) ω1 =>
  pr.call1 (.int .i64) PP F.spec_l1Below #[.pointer ρ0, vI 6] ω1 fun (ρ2 : Int) ω3 =>
  pr.call1 .sl PP F.spec_l2Draw #[.pointer ρ0, vI ρ2] ω3 fun (ρ4 : Sl) ω5 =>
  pr.call1 .bool PP F.spec_l1Once #[.pointer ρ0, vI 2] ω5 fun (ρ6 : Bool) ω7 =>
  bif ρ6 then (
  pr.call1 .sl PP F.spec_l21Pass #[Sl.v ρ4] ω7 fun (ρ8 : Sl) ω9 =>
  R (.returned (Sl.v ρ8)) ω9)
  else (
  pr.call1 .bool PP F.spec_l1Once #[.pointer ρ0, vI 8] ω7 fun (ρ10 : Bool) ω11 =>
  bif ρ10 then (
  pr.call1 .sl PP F.spec_l2Bent #[.pointer ρ0] ω11 fun (ρ12 : Sl) ω13 =>
  R (.returned (Sl.v ρ12)) ω13)
  else (
  R (.returned (Sl.v ρ4)) ω11))) := by kernel_rfl
theorem E_s (code_0 : Sl) (w : World) (R : Ending → World → Prop) : E std code_0 w R = (
  call1 .ptr PP F.spec_l1New #[Sl.v code_0] w fun (ρ0 : (Option Addr)) ω1 =>
  call1 (.int .i64) PP F.spec_l1Below #[.pointer ρ0, vI 6] ω1 fun (ρ2 : Int) ω3 =>
  call1 .sl PP F.spec_l2Draw #[.pointer ρ0, vI ρ2] ω3 fun (ρ4 : Sl) ω5 =>
  call1 .bool PP F.spec_l1Once #[.pointer ρ0, vI 2] ω5 fun (ρ6 : Bool) ω7 =>
  bif ρ6 then (
  call1 .sl PP F.spec_l21Pass #[Sl.v ρ4] ω7 fun (ρ8 : Sl) ω9 =>
  R (.returned (Sl.v ρ8)) ω9)
  else (
  call1 .bool PP F.spec_l1Once #[.pointer ρ0, vI 8] ω7 fun (ρ10 : Bool) ω11 =>
  bif ρ10 then (
  call1 .sl PP F.spec_l2Bent #[.pointer ρ0] ω11 fun (ρ12 : Sl) ω13 =>
  R (.returned (Sl.v ρ12)) ω13)
  else (
  R (.returned (Sl.v ρ4)) ω11))) := E_eq std code_0 w R
theorem drawsOk : drawsOk PP cfg okD (codeOf Try.f11) = true := by kernel_rfl
theorem calls (code_0 : Sl) {w : World} {R : Ending → World → Prop} (h : E std code_0 w R) : Calls PP F.spec_DrawStackSources #[Sl.v code_0] w R :=
  calls_of noCount mixed drawOk Try.func11 rfl (c := cfg) (args := [Sl.v code_0]) rfl (Nat.le_of_ble_eq_true (by kernel_rfl)) drawsOk h
end spec_DrawStackSources

namespace spec_DrawCountTwoPasses
@[reducible] def cfg : Cfg := ⟨7, [], [], [], [2], [], [101, 107, 112, 15, 21, 124, 76, 137, 28, 115, 91, 81, 130], [138, 140, 82, 6, 86, 85, 132]⟩
def E (pr : Prims) (code_0 : Sl) (w : World) (R : Ending → World → Prop) : Prop :=
  wpC pr PP cfg (DD pr) (codeOf Try.f13) (retQ Try.f13.results.toList R) (argE 0 [Sl.v code_0]) w
theorem E_eq (pr : Prims) (code_0 : Sl) (w : World) (R : Ending → World → Prop) : E pr code_0 w R = (
  pr.call1 .ptr PP F.spec_l1New #[Sl.v code_0] w fun (ρ0 : (Option Addr)) ω1 =>
  pr.call1 (.int .i64) PP F.spec_l1Below #[.pointer ρ0, vI 7] ω1 fun (ρ2 : Int) ω3 =>
  R (.returned (vI (w64 (ρ2 - 1)))) ω3) := by kernel_rfl
theorem E_s (code_0 : Sl) (w : World) (R : Ending → World → Prop) : E std code_0 w R = (
  call1 .ptr PP F.spec_l1New #[Sl.v code_0] w fun (ρ0 : (Option Addr)) ω1 =>
  call1 (.int .i64) PP F.spec_l1Below #[.pointer ρ0, vI 7] ω1 fun (ρ2 : Int) ω3 =>
  R (.returned (vI (w64 (ρ2 - 1)))) ω3) := E_eq std code_0 w R
theorem drawsOk : drawsOk PP cfg okD (codeOf Try.f13) = true := by kernel_rfl
theorem calls (code_0 : Sl) {w : World} {R : Ending → World → Prop} (h : E std code_0 w R) : Calls PP F.spec_DrawCountTwoPasses #[Sl.v code_0] w R :=
  calls_of noCount mixed drawOk Try.func13 rfl (c := cfg) (args := [Sl.v code_0]) rfl (Nat.le_of_ble_eq_true (by kernel_rfl)) drawsOk h
end spec_DrawCountTwoPasses

namespace spec_DrawIsTwicePattern
@[reducible] def cfg : Cfg := ⟨6, [], [], [], [2], [], [101, 107, 112, 15, 21, 124, 76, 137, 28, 115, 91, 81, 130], [138, 140, 82, 6, 86, 85, 132]⟩
def E (pr : Prims) (code_0 : Sl) (w : World) (R : Ending → World → Prop) : Prop :=
  wpC pr PP cfg (DD pr) (codeOf Try.f14) (retQ Try.f14.results.toList R) (argE 0 [Sl.v code_0]) w
theorem E_eq (pr : Prims) (code_0 : Sl) (w : World) (R : Ending → World → Prop) : E pr code_0 w R = (
  pr.call1 .ptr PP F.spec_l1New #[Sl.v code_0] w fun (ρ0 : (Option Addr)) ω1 =>
  pr.call1 .sl PP F.spec_l2Bent #[.pointer ρ0] ω1 fun (ρ2 : Sl) ω3 =>
  R (.returned (Sl.v ρ2)) ω3) := by kernel_rfl
theorem E_s (code_0 : Sl) (w : World) (R : Ending → World → Prop) : E std code_0 w R = (
  call1 .ptr PP F.spec_l1New #[Sl.v code_0] w fun (ρ0 : (Option Addr)) ω1 =>
  call1 .sl PP F.spec_l2Bent #[.pointer ρ0] ω1 fun (ρ2 : Sl) ω3 =>
  R (.returned (Sl.v ρ2)) ω3) := E_eq std code_0 w R
theorem drawsOk : drawsOk PP cfg okD (codeOf Try.f14) = true := by kernel_rfl
theorem calls (code_0 : Sl) {w : World} {R : Ending → World → Prop} (h : E std code_0 w R) : Calls PP F.spec_DrawIsTwicePattern #[Sl.v code_0] w R :=
  calls_of noCount mixed drawOk Try.func14 rfl (c := cfg) (args := [Sl.v code_0]) rfl (Nat.le_of_ble_eq_true (by kernel_rfl)) drawsOk h
end spec_DrawIsTwicePattern

end Go.Proofs.Ytdchjhhpbdekeaa

/- What each function does, step by step, written by a program (Gen.lean); each equation is checked by the kernel. -/
namespace Go.Proofs.Ytdchjhhpbdekeaa
open Go
set_option linter.unusedVariables false
set_option maxRecDepth 100000
namespace laws_big
@[reducible] def cfg : Cfg := ⟨6, [], [], [], [2], [], [101, 107, 112, 15, 21, 124, 76, 137, 28, 115, 91, 81, 130], [138, 140, 82, 6, 86, 85, 132]⟩
def E (pr : Prims) (code_0 : Sl) (w : World) (R : Ending → World → Prop) : Prop :=
  wpC pr PP cfg (DD pr) (codeOf Try.f6) (retQ Try.f6.results.toList R) (argE 0 [Sl.v code_0]) w
theorem E_eq (pr : Prims) (code_0 : Sl) (w : World) (R : Ending → World → Prop) : E pr code_0 w R = (
  R (.returned (.bool (decide ((code_0.n : Int) > 1048576)))) w) := by kernel_rfl
theorem E_s (code_0 : Sl) (w : World) (R : Ending → World → Prop) : E std code_0 w R = (
  R (.returned (.bool (decide ((code_0.n : Int) > 1048576)))) w) := E_eq std code_0 w R
theorem drawsOk : drawsOk PP cfg okD (codeOf Try.f6) = true := by kernel_rfl
theorem calls (code_0 : Sl) {w : World} {R : Ending → World → Prop} (h : E std code_0 w R) : Calls PP F.laws_big #[Sl.v code_0] w R :=
  calls_of noCount mixed drawOk Try.func6 rfl (c := cfg) (args := [Sl.v code_0]) rfl (Nat.le_of_ble_eq_true (by kernel_rfl)) drawsOk h
end laws_big

namespace laws_sameInts
@[reducible] def cfg : Cfg := ⟨26, [(4, [0, 1, 5])], [(1, [0, 1, 5]), (0, [])], [], [4], [6], [101, 107, 112, 15, 21, 124, 76, 137, 28, 115, 91, 81, 130], [138, 140, 82, 6, 86, 85, 132]⟩
def q0 (pr : Prims) (R : Ending → World → Prop) : Exit → Env → World → Prop := fun ex e w => normQ ex (fun e w => contE pr cfg (sub (codeOf Try.f15) [1, 1, 1]) (fun e w => wpC pr PP cfg (DD pr) (sub (codeOf Try.f15) [1, 1, 1]) (retQ Try.f15.results.toList R) e w) e w) (retQ Try.f15.results.toList R) e w
def q1 (pr : Prims) (R : Ending → World → Prop) : Exit → Env → World → Prop := fun ex e w => blockQ ex 0 (q0 pr R) e w
def emb4 (a_0 : Sl) (b_1 : Sl) (i_5 : Int) : Env := [(0, Sl.v a_0), (1, Sl.v b_1), (5, vI i_5)]
def x0 : Env := []
def S4 (pr : Prims) (Q : Exit → Env → World → Prop) : (Env → World → Prop) → Env → World → Prop := fun k e w => wpC pr PP cfg (DD pr) (sub (codeOf Try.f15) [1, 1, 0, 1, 0, 0]) (fun ex e w => normQ ex (fun e' w' => k (Env.restr e' (lookN cfg.loops (keyOf (sub (codeOf Try.f15) [1, 1, 0, 1, 0, 0])))) w') Q e w) e w
def B4 (pr : Prims) (a_0 : Sl) (b_1 : Sl) (i_5 : Int) (w : World) (k : Env → World → Prop) (Q : Exit → Env → World → Prop) : Prop :=
  S4 pr Q k (emb4 a_0 b_1 i_5) w
def L4 (pr : Prims) (a_0 : Sl) (b_1 : Sl) (i_5 : Int) (w : World) (Q : Exit → Env → World → Prop) : Prop :=
  pr.loop (S4 pr Q) (emb4 a_0 b_1 i_5) w
def E (pr : Prims) (a_0 : Sl) (b_1 : Sl) (w : World) (R : Ending → World → Prop) : Prop :=
  wpC pr PP cfg (DD pr) (codeOf Try.f15) (retQ Try.f15.results.toList R) (argE 0 [Sl.v a_0, Sl.v b_1]) w
theorem B4_eq (pr : Prims) (a_0 : Sl) (b_1 : Sl) (i_5 : Int) (w : World) (k : Env → World → Prop) (Q : Exit → Env → World → Prop) : B4 pr a_0 b_1 i_5 w k Q = (
  bif decide (i_5 < (a_0.n : Int)) then (
  pr.idxK 1 a_0 i_5 fun (a2 : Addr) =>
  pr.load1 (.int .i64) a2 w fun (ξ3 : Int) =>
  pr.idxK 1 b_1 i_5 fun (a4 : Addr) =>
  pr.load1 (.int .i64) a4 w fun (ξ5 : Int) =>
  pr.drewAll w fun ω6 =>
  bif ξ3 != ξ5 then (
  Q .ret [(4, .bool false)] ω6)
  else (
  k (emb4 a_0 b_1 (w64 (i_5 + 1))) ω6))
  else (
  Q (.exit 0) (x0) w)) := by kernel_rfl
theorem B4_s (a_0 : Sl) (b_1 : Sl) (i_5 : Int) (w : World) (k : Env → World → Prop) (Q : Exit → Env → World → Prop) : B4 std a_0 b_1 i_5 w k Q = (
  bif decide (i_5 < (a_0.n : Int)) then (
  idxK 1 a_0 i_5 fun (a2 : Addr) =>
  load1 (.int .i64) a2 w fun (ξ3 : Int) =>
  idxK 1 b_1 i_5 fun (a4 : Addr) =>
  load1 (.int .i64) a4 w fun (ξ5 : Int) =>
  drewAll w fun ω6 =>
  bif ξ3 != ξ5 then (
  Q .ret [(4, .bool false)] ω6)
  else (
  k (emb4 a_0 b_1 (w64 (i_5 + 1))) ω6))
  else (
  Q (.exit 0) (x0) w)) := B4_eq std a_0 b_1 i_5 w k Q
theorem L4_rule (a_0 : Sl) (b_1 : Sl) (i_5 : Int) (w : World) (Q : Exit → Env → World → Prop) (I : Int → World → Prop) (μ : Int → World → Nat) (h0 : I i_5 w)
    (h : ∀ (i_5 : Int) (w' : World), I i_5 w' → B4 std a_0 b_1 i_5 w' (fun e2 w2 => ∃ i_5_n, e2 = emb4 a_0 b_1 i_5_n ∧ I i_5_n w2 ∧ μ i_5_n w2 < μ i_5 w') Q) :
    L4 std a_0 b_1 i_5 w Q := by
  unfold L4
  refine LoopE.intro (σ := Int) (step := S4 std Q) (fun s => emb4 a_0 b_1 s) (fun s w => I s w) (fun s w => μ s w) i_5 rfl h0 ?_
  intro s w' hI
  have h1 := h s w' hI
  unfold B4 at h1
  exact h1
theorem A4_0_eq (pr : Prims) (w : World) (R : Ending → World → Prop) : (q1 pr R) (.exit 0) (x0) w = (
  R (.returned (.bool true)) w) := by kernel_rfl
theorem A4_0_s (w : World) (R : Ending → World → Prop) : (q1 std R) (.exit 0) (x0) w = (
  R (.returned (.bool true)) w) := A4_0_eq std w R
theorem R4_eq (pr : Prims) (v4 : Value) (w : World) (R : Ending → World → Prop) : (q1 pr R) .ret [(4, v4)] w = (
  R (.returned (v4)) w) := by kernel_rfl
theorem R4_s (v4 : Value) (w : World) (R : Ending → World → Prop) : (q1 std R) .ret [(4, v4)] w = (
  R (.returned (v4)) w) := R4_eq std v4 w R
theorem E_eq (pr : Prims) (a_0 : Sl) (b_1 : Sl) (w : World) (R : Ending → World → Prop) : E pr a_0 b_1 w R = (
  bif (a_0.n : Int) != (b_1.n : Int) then (
  R (.returned (.bool false)) w)
  else (
  L4 pr a_0 b_1 0 w (q1 pr R))) := by kernel_rfl
theorem E_s (a_0 : Sl) (b_1 : Sl) (w : World) (R : Ending → World → Prop) : E std a_0 b_1 w R = (
  bif (a_0.n : Int) != (b_1.n : Int) then (
  R (.returned (.bool false)) w)
  else (
  L4 std a_0 b_1 0 w (q1 std R))) := E_eq std a_0 b_1 w R
theorem drawsOk : drawsOk PP cfg okD (codeOf Try.f15) = true := by kernel_rfl
theorem calls (a_0 : Sl) (b_1 : Sl) {w : World} {R : Ending → World → Prop} (h : E std a_0 b_1 w R) : Calls PP F.laws_sameInts #[Sl.v a_0, Sl.v b_1] w R :=
  calls_of noCount mixed drawOk Try.func15 rfl (c := cfg) (args := [Sl.v a_0, Sl.v b_1]) rfl (Nat.le_of_ble_eq_true (by kernel_rfl)) drawsOk h
end laws_sameInts

namespace laws_sameLists
@[reducible] def cfg : Cfg := ⟨27, [(4, [0, 1, 5])], [(1, [0, 1, 5]), (0, [])], [], [4], [6], [101, 107, 112, 15, 21, 124, 76, 137, 28, 115, 91, 81, 130], [138, 140, 82, 6, 86, 85, 132]⟩
def q0 (pr : Prims) (R : Ending → World → Prop) : Exit → Env → World → Prop := fun ex e w => normQ ex (fun e w => contE pr cfg (sub (codeOf Try.f21) [1, 1, 1]) (fun e w => wpC pr PP cfg (DD pr) (sub (codeOf Try.f21) [1, 1, 1]) (retQ Try.f21.results.toList R) e w) e w) (retQ Try.f21.results.toList R) e w
def q1 (pr : Prims) (R : Ending → World → Prop) : Exit → Env → World → Prop := fun ex e w => blockQ ex 0 (q0 pr R) e w
def emb4 (a_0 : Sl) (b_1 : Sl) (i_5 : Int) : Env := [(0, Sl.v a_0), (1, Sl.v b_1), (5, vI i_5)]
def x0 : Env := []
def S4 (pr : Prims) (Q : Exit → Env → World → Prop) : (Env → World → Prop) → Env → World → Prop := fun k e w => wpC pr PP cfg (DD pr) (sub (codeOf Try.f21) [1, 1, 0, 1, 0, 0]) (fun ex e w => normQ ex (fun e' w' => k (Env.restr e' (lookN cfg.loops (keyOf (sub (codeOf Try.f21) [1, 1, 0, 1, 0, 0])))) w') Q e w) e w
def B4 (pr : Prims) (a_0 : Sl) (b_1 : Sl) (i_5 : Int) (w : World) (k : Env → World → Prop) (Q : Exit → Env → World → Prop) : Prop :=
  S4 pr Q k (emb4 a_0 b_1 i_5) w
def L4 (pr : Prims) (a_0 : Sl) (b_1 : Sl) (i_5 : Int) (w : World) (Q : Exit → Env → World → Prop) : Prop :=
  pr.loop (S4 pr Q) (emb4 a_0 b_1 i_5) w
def E (pr : Prims) (a_0 : Sl) (b_1 : Sl) (w : World) (R : Ending → World → Prop) : Prop :=
  wpC pr PP cfg (DD pr) (codeOf Try.f21) (retQ Try.f21.results.toList R) (argE 0 [Sl.v a_0, Sl.v b_1]) w
theorem B4_eq (pr : Prims) (a_0 : Sl) (b_1 : Sl) (i_5 : Int) (w : World) (k : Env → World → Prop) (Q : Exit → Env → World → Prop) : B4 pr a_0 b_1 i_5 w k Q = (
  bif decide (i_5 < (a_0.n : Int)) then (
  pr.idxK 1 a_0 i_5 fun (a2 : Addr) =>
  pr.load1 .sl a2 w fun (ξ3 : Sl) =>
  pr.idxK 1 b_1 i_5 fun (a4 : Addr) =>
  pr.load1 .sl a4 w fun (ξ5 : Sl) =>
  pr.qcall1 .bool PP F.laws_sameInts #[Sl.v ξ3, Sl.v ξ5] w fun (ρ6 : Bool) =>
  pr.drewAll w fun ω7 =>
  bif !ρ6 then (
  Q .ret [(4, .bool false)] ω7)
  else (
  k (emb4 a_0 b_1 (w64 (i_5 + 1))) ω7))
  else (
  Q (.exit 0) (x0) w)) := by kernel_rfl
theorem B4_s (a_0 : Sl) (b_1 : Sl) (i_5 : Int) (w : World) (k : Env → World → Prop) (Q : Exit → Env → World → Prop) : B4 std a_0 b_1 i_5 w k Q = (
  bif decide (i_5 < (a_0.n : Int)) then (
  idxK 1 a_0 i_5 fun (a2 : Addr) =>
  load1 .sl a2 w fun (ξ3 : Sl) =>
  idxK 1 b_1 i_5 fun (a4 : Addr) =>
  load1 .sl a4 w fun (ξ5 : Sl) =>
  qcall1 .bool PP F.laws_sameInts #[Sl.v ξ3, Sl.v ξ5] w fun (ρ6 : Bool) =>
  drewAll w fun ω7 =>
  bif !ρ6 then (
  Q .ret [(4, .bool false)] ω7)
  else (
  k (emb4 a_0 b_1 (w64 (i_5 + 1))) ω7))
  else (
  Q (.exit 0) (x0) w)) := B4_eq std a_0 b_1 i_5 w k Q
theorem L4_rule (a_0 : Sl) (b_1 : Sl) (i_5 : Int) (w : World) (Q : Exit → Env → World → Prop) (I : Int → World → Prop) (μ : Int → World → Nat) (h0 : I i_5 w)
    (h : ∀ (i_5 : Int) (w' : World), I i_5 w' → B4 std a_0 b_1 i_5 w' (fun e2 w2 => ∃ i_5_n, e2 = emb4 a_0 b_1 i_5_n ∧ I i_5_n w2 ∧ μ i_5_n w2 < μ i_5 w') Q) :
    L4 std a_0 b_1 i_5 w Q := by
  unfold L4
  refine LoopE.intro (σ := Int) (step := S4 std Q) (fun s => emb4 a_0 b_1 s) (fun s w => I s w) (fun s w => μ s w) i_5 rfl h0 ?_
  intro s w' hI
  have h1 := h s w' hI
  unfold B4 at h1
  exact h1
theorem A4_0_eq (pr : Prims) (w : World) (R : Ending → World → Prop) : (q1 pr R) (.exit 0) (x0) w = (
  R (.returned (.bool true)) w) := by kernel_rfl
theorem A4_0_s (w : World) (R : Ending → World → Prop) : (q1 std R) (.exit 0) (x0) w = (
  R (.returned (.bool true)) w) := A4_0_eq std w R
theorem R4_eq (pr : Prims) (v4 : Value) (w : World) (R : Ending → World → Prop) : (q1 pr R) .ret [(4, v4)] w = (
  R (.returned (v4)) w) := by kernel_rfl
theorem R4_s (v4 : Value) (w : World) (R : Ending → World → Prop) : (q1 std R) .ret [(4, v4)] w = (
  R (.returned (v4)) w) := R4_eq std v4 w R
theorem E_eq (pr : Prims) (a_0 : Sl) (b_1 : Sl) (w : World) (R : Ending → World → Prop) : E pr a_0 b_1 w R = (
  bif (a_0.n : Int) != (b_1.n : Int) then (
  R (.returned (.bool false)) w)
  else (
  L4 pr a_0 b_1 0 w (q1 pr R))) := by kernel_rfl
theorem E_s (a_0 : Sl) (b_1 : Sl) (w : World) (R : Ending → World → Prop) : E std a_0 b_1 w R = (
  bif (a_0.n : Int) != (b_1.n : Int) then (
  R (.returned (.bool false)) w)
  else (
  L4 std a_0 b_1 0 w (q1 std R))) := E_eq std a_0 b_1 w R
theorem drawsOk : drawsOk PP cfg okD (codeOf Try.f21) = true := by kernel_rfl
theorem calls (a_0 : Sl) (b_1 : Sl) {w : World} {R : Ending → World → Prop} (h : E std a_0 b_1 w R) : Calls PP F.laws_sameLists #[Sl.v a_0, Sl.v b_1] w R :=
  calls_of noCount mixed drawOk Try.func21 rfl (c := cfg) (args := [Sl.v a_0, Sl.v b_1]) rfl (Nat.le_of_ble_eq_true (by kernel_rfl)) drawsOk h
end laws_sameLists

end Go.Proofs.Ytdchjhhpbdekeaa

/- The laws' own helpers: big, sameInts, sameLists. -/
namespace Go.Proofs.Ytdchjhhpbdekeaa
open Go Go.RowKit
set_option maxRecDepth 100000

theorem getD_I {L : List Int} {i : Nat} (hi : i < L.length) : L.getD i 0 = L[i] := by simp [List.getD_eq_getElem?_getD, List.getElem?_eq_getElem hi]
theorem c_big (a : Sl) : Pure F.laws_big #[a.v] (.bool (decide ((a.n : Int) > 1048576))) := by
  intro w
  refine laws_big.calls a ?_
  rw [laws_big.E_s]
  exact ⟨rfl, rfl⟩
theorem c_sameInts {w : World} {a b : Sl} {L M : List Int} (ha : RowI w a L) (hb : RowI w b M) (hL : L.length < 2^39) : Quiet F.laws_sameInts #[a.v, b.v] w (.bool (decide (L = M))) := by
  intro w1 hd
  have han : a.n = L.length := by have := ha.n; simpa using this
  have hbn : b.n = M.length := by have := hb.n; simpa using this
  refine laws_sameInts.calls a b ?_
  rw [laws_sameInts.E_s]
  refine bif_intro (fun h => ?_) (fun h => ?_)
  · have : L.length ≠ M.length := by simp at h; omega
    have : L ≠ M := fun e => this (by rw [e])
    exact ⟨by simp [this], Drew.refl _⟩
  have hlen : L.length = M.length := by simp at h; omega
  refine laws_sameInts.L4_rule _ _ _ _ _ (I := fun i w' => 0 ≤ i ∧ i ≤ L.length ∧ (∀ k, k < i.toNat → L[k]? = M[k]?) ∧ Drew w1 w') (μ := fun i _ => (L.length - i).toNat)
    ⟨by omega, by omega, fun k hk => by simp at hk, Drew.refl _⟩ ?_
  rintro i w' ⟨h0, hi, hall, hd2⟩
  have hh : w'.heap = w.heap := (hd.trans hd2).heap'
  rw [laws_sameInts.B4_s]
  refine bif_dec (fun h3 => ?_) (fun h3 => ?_)
  · have hlt : i.toNat < L.length := by omega
    have hlt2 : i.toNat < M.length := by omega
    refine RowI.get (ha.heap hh) h0 (by omega) ?_
    refine RowI.get (hb.heap hh) h0 (by omega) ?_
    refine drew_intro fun w3 hd3 => ?_
    rw [getD_I hlt, getD_I hlt2]
    refine bif_intro (fun h4 => ?_) (fun h4 => ?_)
    · have : L ≠ M := fun e => by subst e; simp at h4
      rw [laws_sameInts.R4_s]
      exact ⟨by simp [this], hd2.trans hd3⟩
    · have h4 : L[i.toNat] = M[i.toNat] := by simpa using h4
      refine ⟨i + 1, by rw [w64_succ h0 (by omega)], ⟨by omega, by omega, fun k hk => ?_, hd2.trans hd3⟩, by omega⟩
      by_cases hk2 : k < i.toNat
      · exact hall k hk2
      · have : k = i.toNat := by omega
        subst this
        rw [List.getElem?_eq_getElem hlt, List.getElem?_eq_getElem hlt2, h4]
  · rw [laws_sameInts.A4_0_s]
    have : L = M := by
      apply List.ext_getElem?
      intro k
      by_cases hk : k < L.length
      · exact hall k (by omega)
      · rw [List.getElem?_eq_none (by omega), List.getElem?_eq_none (by omega)]
    exact ⟨by simp [this], hd2⟩
theorem c_sameLists {w : World} {a b : Sl} {LL MM : List (List Int)} (ha : RowSS w a LL) (hb : RowSS w b MM) (hL : LL.length < 2^39) (hr : tot LL < 2^39) : Quiet F.laws_sameLists #[a.v, b.v] w (.bool (decide (LL = MM))) := by
  intro w1 hd
  have han := ha.n
  have hbn := hb.n
  refine laws_sameLists.calls a b ?_
  rw [laws_sameLists.E_s]
  refine bif_intro (fun h => ?_) (fun h => ?_)
  · have : LL.length ≠ MM.length := by simp at h; omega
    have : LL ≠ MM := fun e => this (by rw [e])
    exact ⟨by simp [this], Drew.refl _⟩
  have hlen : LL.length = MM.length := by simp at h; omega
  refine laws_sameLists.L4_rule _ _ _ _ _ (I := fun i w' => 0 ≤ i ∧ i ≤ LL.length ∧ (∀ k, k < i.toNat → LL[k]? = MM[k]?) ∧ Drew w1 w') (μ := fun i _ => (LL.length - i).toNat)
    ⟨by omega, by omega, fun k hk => by simp at hk, Drew.refl _⟩ ?_
  rintro i w' ⟨h0, hi, hall, hd2⟩
  have hh : w'.heap = w.heap := (hd.trans hd2).heap'
  rw [laws_sameLists.B4_s]
  refine bif_dec (fun h3 => ?_) (fun h3 => ?_)
  · have hlt : i.toNat < LL.length := by omega
    have hlt2 : i.toNat < MM.length := by omega
    refine RowSS.get (ha.heap hh) h0 (by omega) fun r hr1 => ?_
    refine RowSS.get (hb.heap hh) h0 (by omega) fun t ht1 => ?_
    rw [getD_SS hlt] at hr1
    rw [getD_SS hlt2] at ht1
    have h40 := len_le_tot (List.getElem_mem hlt)
    refine Quiet.qcall1 (s := .bool) (c_sameInts hr1 ht1 (by omega)) ?_
    refine drew_intro fun w3 hd3 => ?_
    refine bif_intro (fun h4 => ?_) (fun h4 => ?_)
    · have : LL ≠ MM := fun e => by subst e; simp at h4
      rw [laws_sameLists.R4_s]
      exact ⟨by simp [this], hd2.trans hd3⟩
    · have h4 : LL[i.toNat] = MM[i.toNat] := by simpa using h4
      refine ⟨i + 1, by rw [w64_succ h0 (by omega)], ⟨by omega, by omega, fun k hk => ?_, hd2.trans hd3⟩, by omega⟩
      by_cases hk2 : k < i.toNat
      · exact hall k hk2
      · have : k = i.toNat := by omega
        subst this
        rw [List.getElem?_eq_getElem hlt, List.getElem?_eq_getElem hlt2, h4]
  · rw [laws_sameLists.A4_0_s]
    have : LL = MM := by
      apply List.ext_getElem?
      intro k
      by_cases hk : k < LL.length
      · exact hall k (by omega)
      · rw [List.getElem?_eq_none (by omega), List.getElem?_eq_none (by omega)]
    exact ⟨by simp [this], hd2⟩

end Go.Proofs.Ytdchjhhpbdekeaa

/- What each function does, step by step, written by a program (Gen.lean); each equation is checked by the kernel. -/
namespace Go.Proofs.Ytdchjhhpbdekeaa
open Go
set_option linter.unusedVariables false
set_option maxRecDepth 100000
namespace spec_HasPattern
@[reducible] def cfg : Cfg := ⟨9, [], [], [], [4], [], [101, 107, 112, 15, 21, 124, 76, 137, 28, 115, 91, 81, 130], [138, 140, 82, 6, 86, 85, 132]⟩
def E (pr : Prims) (p_0 : Sl) (q_1 : Sl) (w : World) (R : Ending → World → Prop) : Prop :=
  wpC pr PP cfg (DD pr) (codeOf Try.f29) (retQ Try.f29.results.toList R) (argE 0 [Sl.v p_0, Sl.v q_1]) w
theorem E_eq (pr : Prims) (p_0 : Sl) (q_1 : Sl) (w : World) (R : Ending → World → Prop) : E pr p_0 q_1 w R = (
  pr.call1 (.int .i64) PP F.spec_CountPattern #[Sl.v p_0, Sl.v q_1] w fun (ρ0 : Int) ω1 =>
  R (.returned (.bool (decide (ρ0 ≥ 1)))) ω1) := by kernel_rfl
theorem E_s (p_0 : Sl) (q_1 : Sl) (w : World) (R : Ending → World → Prop) : E std p_0 q_1 w R = (
  call1 (.int .i64) PP F.spec_CountPattern #[Sl.v p_0, Sl.v q_1] w fun (ρ0 : Int) ω1 =>
  R (.returned (.bool (decide (ρ0 ≥ 1)))) ω1) := E_eq std p_0 q_1 w R
theorem drawsOk : drawsOk PP cfg okD (codeOf Try.f29) = true := by kernel_rfl
theorem calls (p_0 : Sl) (q_1 : Sl) {w : World} {R : Ending → World → Prop} (h : E std p_0 q_1 w R) : Calls PP F.spec_HasPattern #[Sl.v p_0, Sl.v q_1] w R :=
  calls_of noCount mixed drawOk Try.func29 rfl (c := cfg) (args := [Sl.v p_0, Sl.v q_1]) rfl (Nat.le_of_ble_eq_true (by kernel_rfl)) drawsOk h
end spec_HasPattern

namespace spec_CountPattern
@[reducible] def cfg : Cfg := ⟨17, [], [], [], [4], [], [101, 107, 112, 15, 21, 124, 76, 137, 28, 115, 91, 81, 130], [138, 140, 82, 6, 86, 85, 132]⟩
def E (pr : Prims) (p_0 : Sl) (q_1 : Sl) (w : World) (R : Ending → World → Prop) : Prop :=
  wpC pr PP cfg (DD pr) (codeOf Try.f92) (retQ Try.f92.results.toList R) (argE 0 [Sl.v p_0, Sl.v q_1]) w
theorem E_eq (pr : Prims) (p_0 : Sl) (q_1 : Sl) (w : World) (R : Ending → World → Prop) : E pr p_0 q_1 w R = (
  pr.call1 .bool PP F.spec_IsPerm #[Sl.v p_0] w fun (ρ0 : Bool) ω1 =>
  bif !ρ0 then (
  R (.returned (vI (-1))) ω1)
  else (
  pr.call1 .bool PP F.spec_IsPerm #[Sl.v q_1] ω1 fun (ρ2 : Bool) ω3 =>
  bif !ρ2 then (
  R (.returned (vI (-1))) ω3)
  else (
  pr.call1 .sl PP F.spec_OccurrencesOf #[Sl.v p_0, Sl.v q_1] ω3 fun (ρ4 : Sl) ω5 =>
  R (.returned (vI (ρ4.n : Int))) ω5))) := by kernel_rfl
theorem E_s (p_0 : Sl) (q_1 : Sl) (w : World) (R : Ending → World → Prop) : E std p_0 q_1 w R = (
  call1 .bool PP F.spec_IsPerm #[Sl.v p_0] w fun (ρ0 : Bool) ω1 =>
  bif !ρ0 then (
  R (.returned (vI (-1))) ω1)
  else (
  call1 .bool PP F.spec_IsPerm #[Sl.v q_1] ω1 fun (ρ2 : Bool) ω3 =>
  bif !ρ2 then (
  R (.returned (vI (-1))) ω3)
  else (
  call1 .sl PP F.spec_OccurrencesOf #[Sl.v p_0, Sl.v q_1] ω3 fun (ρ4 : Sl) ω5 =>
  R (.returned (vI (ρ4.n : Int))) ω5))) := E_eq std p_0 q_1 w R
theorem drawsOk : drawsOk PP cfg okD (codeOf Try.f92) = true := by kernel_rfl
theorem calls (p_0 : Sl) (q_1 : Sl) {w : World} {R : Ending → World → Prop} (h : E std p_0 q_1 w R) : Calls PP F.spec_CountPattern #[Sl.v p_0, Sl.v q_1] w R :=
  calls_of noCount mixed drawOk Try.func92 rfl (c := cfg) (args := [Sl.v p_0, Sl.v q_1]) rfl (Nat.le_of_ble_eq_true (by kernel_rfl)) drawsOk h
end spec_CountPattern

namespace spec_OccurrencesOf
@[reducible] def cfg : Cfg := ⟨19, [], [], [], [4], [], [101, 107, 112, 15, 21, 124, 76, 137, 28, 115, 91, 81, 130], [138, 140, 82, 6, 86, 85, 132]⟩
def E (pr : Prims) (p_0 : Sl) (q_1 : Sl) (w : World) (R : Ending → World → Prop) : Prop :=
  wpC pr PP cfg (DD pr) (codeOf Try.f131) (retQ Try.f131.results.toList R) (argE 0 [Sl.v p_0, Sl.v q_1]) w
theorem E_eq (pr : Prims) (p_0 : Sl) (q_1 : Sl) (w : World) (R : Ending → World → Prop) : E pr p_0 q_1 w R = (
  pr.call1 .bool PP F.spec_IsPerm #[Sl.v p_0] w fun (ρ0 : Bool) ω1 =>
  bif !ρ0 then (
  pr.sem1 .sl PP (Instr.buildSlice T_SSint 0 #[]) ω1 fun (ρ2 : Sl) ω3 =>
  R (.returned (Sl.v ρ2)) ω3)
  else (
  pr.call1 .bool PP F.spec_IsPerm #[Sl.v q_1] ω1 fun (ρ4 : Bool) ω5 =>
  bif !ρ4 then (
  pr.sem1 .sl PP (Instr.buildSlice T_SSint 0 #[]) ω5 fun (ρ6 : Sl) ω7 =>
  R (.returned (Sl.v ρ6)) ω7)
  else (
  pr.sem1 .sl PP (Instr.buildSlice T_Sint 0 #[]) ω5 fun (ρ8 : Sl) ω9 =>
  pr.sem1 .sl PP (Instr.buildSlice T_SSint 0 #[]) ω9 fun (ρ10 : Sl) ω11 =>
  pr.call1 .sl PP F.spec_l7Find #[Sl.v p_0, Sl.v q_1, Sl.v ρ8, Sl.v ρ10] ω11 fun (ρ12 : Sl) ω13 =>
  R (.returned (Sl.v ρ12)) ω13))) := by kernel_rfl
theorem E_s (p_0 : Sl) (q_1 : Sl) (w : World) (R : Ending → World → Prop) : E std p_0 q_1 w R = (
  call1 .bool PP F.spec_IsPerm #[Sl.v p_0] w fun (ρ0 : Bool) ω1 =>
  bif !ρ0 then (
  sem1 .sl PP (Instr.buildSlice T_SSint 0 #[]) ω1 fun (ρ2 : Sl) ω3 =>
  R (.returned (Sl.v ρ2)) ω3)
  else (
  call1 .bool PP F.spec_IsPerm #[Sl.v q_1] ω1 fun (ρ4 : Bool) ω5 =>
  bif !ρ4 then (
  sem1 .sl PP (Instr.buildSlice T_SSint 0 #[]) ω5 fun (ρ6 : Sl) ω7 =>
  R (.returned (Sl.v ρ6)) ω7)
  else (
  sem1 .sl PP (Instr.buildSlice T_Sint 0 #[]) ω5 fun (ρ8 : Sl) ω9 =>
  sem1 .sl PP (Instr.buildSlice T_SSint 0 #[]) ω9 fun (ρ10 : Sl) ω11 =>
  call1 .sl PP F.spec_l7Find #[Sl.v p_0, Sl.v q_1, Sl.v ρ8, Sl.v ρ10] ω11 fun (ρ12 : Sl) ω13 =>
  R (.returned (Sl.v ρ12)) ω13))) := E_eq std p_0 q_1 w R
theorem drawsOk : drawsOk PP cfg okD (codeOf Try.f131) = true := by kernel_rfl
theorem calls (p_0 : Sl) (q_1 : Sl) {w : World} {R : Ending → World → Prop} (h : E std p_0 q_1 w R) : Calls PP F.spec_OccurrencesOf #[Sl.v p_0, Sl.v q_1] w R :=
  calls_of noCount mixed drawOk Try.func131 rfl (c := cfg) (args := [Sl.v p_0, Sl.v q_1]) rfl (Nat.le_of_ble_eq_true (by kernel_rfl)) drawsOk h
end spec_OccurrencesOf

end Go.Proofs.Ytdchjhhpbdekeaa

/- What each function does, step by step, written by a program (Gen.lean); each equation is checked by the kernel. -/
namespace Go.Proofs.Ytdchjhhpbdekeaa
open Go
set_option linter.unusedVariables false
set_option maxRecDepth 100000
namespace spec_l7Find
@[reducible] def cfg : Cfg := ⟨54, [(7, [0, 1, 2, 3, 10])], [(1, [0, 1, 2, 3, 10]), (0, [3])], [(6, [0, 1, 2, 3, 9])], [8], [], [101, 107, 112, 15, 21, 124, 76, 137, 28, 115, 91, 81, 130], [138, 140, 82, 6, 86, 85, 132]⟩
def q4 (pr : Prims) (R : Ending → World → Prop) : Exit → Env → World → Prop := fun ex e w => normQ ex (fun e w => contE pr cfg (sub (codeOf Try.f90) [1, 1, 1, 1]) (fun e w => wpC pr PP cfg (DD pr) (sub (codeOf Try.f90) [1, 1, 1, 1]) (retQ Try.f90.results.toList R) e w) e w) (retQ Try.f90.results.toList R) e w
def q7 (pr : Prims) (R : Ending → World → Prop) : Exit → Env → World → Prop := fun ex e w => normQ ex (fun e w => contE pr cfg (sub (codeOf Try.f90) [1, 1, 1, 1, 1]) (fun e w => wpC pr PP cfg (DD pr) (sub (codeOf Try.f90) [1, 1, 1, 1, 1]) (retQ Try.f90.results.toList R) e w) e w) (retQ Try.f90.results.toList R) e w
def q8 (pr : Prims) (R : Ending → World → Prop) : Exit → Env → World → Prop := fun ex e w => blockQ ex 0 (q7 pr R) e w
def j6 (p_0 : Sl) (q_1 : Sl) (head_2 : Sl) (out_3 : Sl) (from_9 : Int) : Env := [(0, Sl.v p_0), (1, Sl.v q_1), (2, Sl.v head_2), (3, Sl.v out_3), (9, vI from_9)]
def emb7 (p_0 : Sl) (q_1 : Sl) (head_2 : Sl) (out_3 : Sl) (x_10 : Int) : Env := [(0, Sl.v p_0), (1, Sl.v q_1), (2, Sl.v head_2), (3, Sl.v out_3), (10, vI x_10)]
def x0 (out_3 : Sl) : Env := [(3, Sl.v out_3)]
def S7 (pr : Prims) (Q : Exit → Env → World → Prop) : (Env → World → Prop) → Env → World → Prop := fun k e w => wpC pr PP cfg (DD pr) (sub (codeOf Try.f90) [1, 1, 1, 1, 0, 1, 0, 0]) (fun ex e w => normQ ex (fun e' w' => k (Env.restr e' (lookN cfg.loops (keyOf (sub (codeOf Try.f90) [1, 1, 1, 1, 0, 1, 0, 0])))) w') Q e w) e w
def B7 (pr : Prims) (p_0 : Sl) (q_1 : Sl) (head_2 : Sl) (out_3 : Sl) (x_10 : Int) (w : World) (k : Env → World → Prop) (Q : Exit → Env → World → Prop) : Prop :=
  S7 pr Q k (emb7 p_0 q_1 head_2 out_3 x_10) w
def L7 (pr : Prims) (p_0 : Sl) (q_1 : Sl) (head_2 : Sl) (out_3 : Sl) (x_10 : Int) (w : World) (Q : Exit → Env → World → Prop) : Prop :=
  pr.loop (S7 pr Q) (emb7 p_0 q_1 head_2 out_3 x_10) w
def J6 (pr : Prims) (p_0 : Sl) (q_1 : Sl) (head_2 : Sl) (out_3 : Sl) (from_9 : Int) (w : World) (R : Ending → World → Prop) : Prop :=
  pr.seg (fun e w => wpC pr PP cfg (DD pr) (sub (codeOf Try.f90) [1, 1, 1, 1]) (retQ Try.f90.results.toList R) e w) (j6 p_0 q_1 head_2 out_3 from_9) w
def E (pr : Prims) (p_0 : Sl) (q_1 : Sl) (head_2 : Sl) (out_3 : Sl) (w : World) (R : Ending → World → Prop) : Prop :=
  wpC pr PP cfg (DD pr) (codeOf Try.f90) (retQ Try.f90.results.toList R) (argE 0 [Sl.v p_0, Sl.v q_1, Sl.v head_2, Sl.v out_3]) w
theorem B7_eq (pr : Prims) (p_0 : Sl) (q_1 : Sl) (head_2 : Sl) (out_3 : Sl) (x_10 : Int) (w : World) (k : Env → World → Prop) (Q : Exit → Env → World → Prop) : B7 pr p_0 q_1 head_2 out_3 x_10 w k Q = (
  bif decide (x_10 ≤ (p_0.n : Int)) then (
  pr.sem1 .sl PP (Instr.buildSlice T_Sint 0 #[]) w fun (ρ9 : Sl) ω10 =>
  pr.sem1 .sl PP (Builtin.append_ #[T_Sint, T_Sint] T_Sint #[Sl.v ρ9, Sl.v head_2]) ω10 fun (ρ11 : Sl) ω12 =>
  pr.sem1 .sl PP (Instr.buildSlice T_Sint 1 #[(0, vI x_10)]) ω12 fun (ρ13 : Sl) ω14 =>
  pr.sem1 .sl PP (Builtin.append_ #[T_Sint, T_Sint] T_Sint #[Sl.v ρ11, Sl.v ρ13]) ω14 fun (ρ15 : Sl) ω16 =>
  pr.call1 .bool PP F.spec_l7Fits #[Sl.v p_0, Sl.v q_1, Sl.v ρ15] ω16 fun (ρ17 : Bool) ω18 =>
  bif ρ17 then (
  pr.call1 .sl PP F.spec_l7Find #[Sl.v p_0, Sl.v q_1, Sl.v ρ15, Sl.v out_3] ω18 fun (ρ19 : Sl) ω20 =>
  k (emb7 p_0 q_1 head_2 ρ19 (w64 (x_10 + 1))) ω20)
  else (
  k (emb7 p_0 q_1 head_2 out_3 (w64 (x_10 + 1))) ω18))
  else (
  Q (.exit 0) (x0 out_3) w)) := by kernel_rfl
theorem B7_s (p_0 : Sl) (q_1 : Sl) (head_2 : Sl) (out_3 : Sl) (x_10 : Int) (w : World) (k : Env → World → Prop) (Q : Exit → Env → World → Prop) : B7 std p_0 q_1 head_2 out_3 x_10 w k Q = (
  bif decide (x_10 ≤ (p_0.n : Int)) then (
  sem1 .sl PP (Instr.buildSlice T_Sint 0 #[]) w fun (ρ9 : Sl) ω10 =>
  sem1 .sl PP (Builtin.append_ #[T_Sint, T_Sint] T_Sint #[Sl.v ρ9, Sl.v head_2]) ω10 fun (ρ11 : Sl) ω12 =>
  sem1 .sl PP (Instr.buildSlice T_Sint 1 #[(0, vI x_10)]) ω12 fun (ρ13 : Sl) ω14 =>
  sem1 .sl PP (Builtin.append_ #[T_Sint, T_Sint] T_Sint #[Sl.v ρ11, Sl.v ρ13]) ω14 fun (ρ15 : Sl) ω16 =>
  call1 .bool PP F.spec_l7Fits #[Sl.v p_0, Sl.v q_1, Sl.v ρ15] ω16 fun (ρ17 : Bool) ω18 =>
  bif ρ17 then (
  call1 .sl PP F.spec_l7Find #[Sl.v p_0, Sl.v q_1, Sl.v ρ15, Sl.v out_3] ω18 fun (ρ19 : Sl) ω20 =>
  k (emb7 p_0 q_1 head_2 ρ19 (w64 (x_10 + 1))) ω20)
  else (
  k (emb7 p_0 q_1 head_2 out_3 (w64 (x_10 + 1))) ω18))
  else (
  Q (.exit 0) (x0 out_3) w)) := B7_eq std p_0 q_1 head_2 out_3 x_10 w k Q
theorem L7_rule (p_0 : Sl) (q_1 : Sl) (head_2 : Sl) (out_3 : Sl) (x_10 : Int) (w : World) (Q : Exit → Env → World → Prop) (I : Sl → Int → World → Prop) (μ : Sl → Int → World → Nat) (h0 : I out_3 x_10 w)
    (h : ∀ (out_3 : Sl) (x_10 : Int) (w' : World), I out_3 x_10 w' → B7 std p_0 q_1 head_2 out_3 x_10 w' (fun e2 w2 => ∃ out_3_n x_10_n, e2 = emb7 p_0 q_1 head_2 out_3_n x_10_n ∧ I out_3_n x_10_n w2 ∧ μ out_3_n x_10_n w2 < μ out_3 x_10 w') Q) :
    L7 std p_0 q_1 head_2 out_3 x_10 w Q := by
  unfold L7
  refine LoopE.intro (σ := Sl × Int) (step := S7 std Q) (fun s => emb7 p_0 q_1 head_2 s.1 s.2) (fun s w => I s.1 s.2 w) (fun s w => μ s.1 s.2 w) (out_3, x_10) rfl h0 ?_
  intro s w' hI
  have h1 := h s.1 s.2 w' hI
  unfold B7 at h1
  simp only [Prod.exists]
  exact h1
theorem A7_0_eq (pr : Prims) (out_3 : Sl) (w : World) (R : Ending → World → Prop) : (q8 pr R) (.exit 0) (x0 out_3) w = (
  R (.returned (Sl.v out_3)) w) := by kernel_rfl
theorem A7_0_s (out_3 : Sl) (w : World) (R : Ending → World → Prop) : (q8 std R) (.exit 0) (x0 out_3) w = (
  R (.returned (Sl.v out_3)) w) := A7_0_eq std out_3 w R
theorem J6_gen (pr : Prims) (p_0 : Sl) (q_1 : Sl) (head_2 : Sl) (out_3 : Sl) (from_9 : Int) (w : World) (R : Ending → World → Prop) : wpC pr PP cfg (DD pr) (sub (codeOf Try.f90) [1, 1, 1, 1]) (retQ Try.f90.results.toList R) (j6 p_0 q_1 head_2 out_3 from_9) w = (
  L7 pr p_0 q_1 head_2 out_3 from_9 w (q8 pr R)) := by kernel_rfl
theorem J6_s (p_0 : Sl) (q_1 : Sl) (head_2 : Sl) (out_3 : Sl) (from_9 : Int) (w : World) (R : Ending → World → Prop) : J6 std p_0 q_1 head_2 out_3 from_9 w R = (
  L7 std p_0 q_1 head_2 out_3 from_9 w (q8 std R)) := J6_gen std p_0 q_1 head_2 out_3 from_9 w R
theorem E_eq (pr : Prims) (p_0 : Sl) (q_1 : Sl) (head_2 : Sl) (out_3 : Sl) (w : World) (R : Ending → World → Prop) : E pr p_0 q_1 head_2 out_3 w R = (
  bif (head_2.n : Int) == (q_1.n : Int) then (
  pr.sem1 .sl PP (Instr.buildSlice T_SSint 1 #[(0, Sl.v head_2)]) w fun (ρ0 : Sl) ω1 =>
  pr.sem1 .sl PP (Builtin.append_ #[T_SSint, T_SSint] T_SSint #[Sl.v out_3, Sl.v ρ0]) ω1 fun (ρ2 : Sl) ω3 =>
  R (.returned (Sl.v ρ2)) ω3)
  else (
  bif decide ((head_2.n : Int) > 0) then (
  pr.idxK 1 head_2 (w64 ((head_2.n : Int) - 1)) fun (a5 : Addr) =>
  pr.load1 (.int .i64) a5 w fun (ξ6 : Int) =>
  J6 pr p_0 q_1 head_2 out_3 (w64 (ξ6 + 1)) w R)
  else (
  J6 pr p_0 q_1 head_2 out_3 1 w R))) := by kernel_rfl
theorem E_s (p_0 : Sl) (q_1 : Sl) (head_2 : Sl) (out_3 : Sl) (w : World) (R : Ending → World → Prop) : E std p_0 q_1 head_2 out_3 w R = (
  bif (head_2.n : Int) == (q_1.n : Int) then (
  sem1 .sl PP (Instr.buildSlice T_SSint 1 #[(0, Sl.v head_2)]) w fun (ρ0 : Sl) ω1 =>
  sem1 .sl PP (Builtin.append_ #[T_SSint, T_SSint] T_SSint #[Sl.v out_3, Sl.v ρ0]) ω1 fun (ρ2 : Sl) ω3 =>
  R (.returned (Sl.v ρ2)) ω3)
  else (
  bif decide ((head_2.n : Int) > 0) then (
  idxK 1 head_2 (w64 ((head_2.n : Int) - 1)) fun (a5 : Addr) =>
  load1 (.int .i64) a5 w fun (ξ6 : Int) =>
  J6 std p_0 q_1 head_2 out_3 (w64 (ξ6 + 1)) w R)
  else (
  J6 std p_0 q_1 head_2 out_3 1 w R))) := E_eq std p_0 q_1 head_2 out_3 w R
theorem drawsOk : drawsOk PP cfg okD (codeOf Try.f90) = true := by kernel_rfl
theorem calls (p_0 : Sl) (q_1 : Sl) (head_2 : Sl) (out_3 : Sl) {w : World} {R : Ending → World → Prop} (h : E std p_0 q_1 head_2 out_3 w R) : Calls PP F.spec_l7Find #[Sl.v p_0, Sl.v q_1, Sl.v head_2, Sl.v out_3] w R :=
  calls_of noCount mixed drawOk Try.func90 rfl (c := cfg) (args := [Sl.v p_0, Sl.v q_1, Sl.v head_2, Sl.v out_3]) rfl (Nat.le_of_ble_eq_true (by kernel_rfl)) drawsOk h
end spec_l7Find

namespace spec_l7Has
@[reducible] def cfg : Cfg := ⟨12, [], [], [], [4], [], [101, 107, 112, 15, 21, 124, 76, 137, 28, 115, 91, 81, 130], [138, 140, 82, 6, 86, 85, 132]⟩
def E (pr : Prims) (p_0 : Sl) (q_1 : Sl) (w : World) (R : Ending → World → Prop) : Prop :=
  wpC pr PP cfg (DD pr) (codeOf Try.f89) (retQ Try.f89.results.toList R) (argE 0 [Sl.v p_0, Sl.v q_1]) w
theorem E_eq (pr : Prims) (p_0 : Sl) (q_1 : Sl) (w : World) (R : Ending → World → Prop) : E pr p_0 q_1 w R = (
  pr.sem1 .sl PP (Instr.buildSlice T_Sint 0 #[]) w fun (ρ0 : Sl) ω1 =>
  pr.sem1 .sl PP (Instr.buildSlice T_SSint 0 #[]) ω1 fun (ρ2 : Sl) ω3 =>
  pr.call1 .sl PP F.spec_l7Find #[Sl.v p_0, Sl.v q_1, Sl.v ρ0, Sl.v ρ2] ω3 fun (ρ4 : Sl) ω5 =>
  R (.returned (.bool (decide ((ρ4.n : Int) > 0)))) ω5) := by kernel_rfl
theorem E_s (p_0 : Sl) (q_1 : Sl) (w : World) (R : Ending → World → Prop) : E std p_0 q_1 w R = (
  sem1 .sl PP (Instr.buildSlice T_Sint 0 #[]) w fun (ρ0 : Sl) ω1 =>
  sem1 .sl PP (Instr.buildSlice T_SSint 0 #[]) ω1 fun (ρ2 : Sl) ω3 =>
  call1 .sl PP F.spec_l7Find #[Sl.v p_0, Sl.v q_1, Sl.v ρ0, Sl.v ρ2] ω3 fun (ρ4 : Sl) ω5 =>
  R (.returned (.bool (decide ((ρ4.n : Int) > 0)))) ω5) := E_eq std p_0 q_1 w R
theorem drawsOk : drawsOk PP cfg okD (codeOf Try.f89) = true := by kernel_rfl
theorem calls (p_0 : Sl) (q_1 : Sl) {w : World} {R : Ending → World → Prop} (h : E std p_0 q_1 w R) : Calls PP F.spec_l7Has #[Sl.v p_0, Sl.v q_1] w R :=
  calls_of noCount mixed drawOk Try.func89 rfl (c := cfg) (args := [Sl.v p_0, Sl.v q_1]) rfl (Nat.le_of_ble_eq_true (by kernel_rfl)) drawsOk h
end spec_l7Has

namespace spec_l7Fits
@[reducible] def cfg : Cfg := ⟨44, [(3, [0, 1, 2, 7, 8])], [(1, [0, 1, 2, 7, 8]), (0, [])], [], [6], [5], [101, 107, 112, 15, 21, 124, 76, 137, 28, 115, 91, 81, 130], [138, 140, 82, 6, 86, 85, 132]⟩
def q0 (pr : Prims) (R : Ending → World → Prop) : Exit → Env → World → Prop := fun ex e w => normQ ex (fun e w => contE pr cfg (sub (codeOf Try.f130) [1, 1, 1]) (fun e w => wpC pr PP cfg (DD pr) (sub (codeOf Try.f130) [1, 1, 1]) (retQ Try.f130.results.toList R) e w) e w) (retQ Try.f130.results.toList R) e w
def q1 (pr : Prims) (R : Ending → World → Prop) : Exit → Env → World → Prop := fun ex e w => blockQ ex 0 (q0 pr R) e w
def emb3 (p_0 : Sl) (q_1 : Sl) (places_2 : Sl) (last_7 : Int) (k_8 : Int) : Env := [(0, Sl.v p_0), (1, Sl.v q_1), (2, Sl.v places_2), (7, vI last_7), (8, vI k_8)]
def x0 : Env := []
def S3 (pr : Prims) (Q : Exit → Env → World → Prop) : (Env → World → Prop) → Env → World → Prop := fun k e w => wpC pr PP cfg (DD pr) (sub (codeOf Try.f130) [1, 1, 0, 1, 0, 0]) (fun ex e w => normQ ex (fun e' w' => k (Env.restr e' (lookN cfg.loops (keyOf (sub (codeOf Try.f130) [1, 1, 0, 1, 0, 0])))) w') Q e w) e w
def B3 (pr : Prims) (p_0 : Sl) (q_1 : Sl) (places_2 : Sl) (last_7 : Int) (k_8 : Int) (w : World) (k : Env → World → Prop) (Q : Exit → Env → World → Prop) : Prop :=
  S3 pr Q k (emb3 p_0 q_1 places_2 last_7 k_8) w
def L3 (pr : Prims) (p_0 : Sl) (q_1 : Sl) (places_2 : Sl) (last_7 : Int) (k_8 : Int) (w : World) (Q : Exit → Env → World → Prop) : Prop :=
  pr.loop (S3 pr Q) (emb3 p_0 q_1 places_2 last_7 k_8) w
def E (pr : Prims) (p_0 : Sl) (q_1 : Sl) (places_2 : Sl) (w : World) (R : Ending → World → Prop) : Prop :=
  wpC pr PP cfg (DD pr) (codeOf Try.f130) (retQ Try.f130.results.toList R) (argE 0 [Sl.v p_0, Sl.v q_1, Sl.v places_2]) w
theorem B3_eq (pr : Prims) (p_0 : Sl) (q_1 : Sl) (places_2 : Sl) (last_7 : Int) (k_8 : Int) (w : World) (k : Env → World → Prop) (Q : Exit → Env → World → Prop) : B3 pr p_0 q_1 places_2 last_7 k_8 w k Q = (
  bif decide (k_8 < last_7) then (
  pr.idxK 1 q_1 k_8 fun (a2 : Addr) =>
  pr.load1 (.int .i64) a2 w fun (ξ3 : Int) =>
  pr.idxK 1 q_1 last_7 fun (a4 : Addr) =>
  pr.load1 (.int .i64) a4 w fun (ξ5 : Int) =>
  pr.idxK 1 places_2 k_8 fun (a6 : Addr) =>
  pr.load1 (.int .i64) a6 w fun (ξ7 : Int) =>
  pr.idxK 1 p_0 (w64 (ξ7 - 1)) fun (a8 : Addr) =>
  pr.load1 (.int .i64) a8 w fun (ξ9 : Int) =>
  pr.idxK 1 places_2 last_7 fun (a10 : Addr) =>
  pr.load1 (.int .i64) a10 w fun (ξ11 : Int) =>
  pr.idxK 1 p_0 (w64 (ξ11 - 1)) fun (a12 : Addr) =>
  pr.load1 (.int .i64) a12 w fun (ξ13 : Int) =>
  pr.drewAll w fun ω14 =>
  bif !((decide (ξ3 < ξ5)) == (decide (ξ9 < ξ13))) then (
  Q .ret [(6, .bool false)] ω14)
  else (
  k (emb3 p_0 q_1 places_2 last_7 (w64 (k_8 + 1))) ω14))
  else (
  Q (.exit 0) (x0) w)) := by kernel_rfl
theorem B3_s (p_0 : Sl) (q_1 : Sl) (places_2 : Sl) (last_7 : Int) (k_8 : Int) (w : World) (k : Env → World → Prop) (Q : Exit → Env → World → Prop) : B3 std p_0 q_1 places_2 last_7 k_8 w k Q = (
  bif decide (k_8 < last_7) then (
  idxK 1 q_1 k_8 fun (a2 : Addr) =>
  load1 (.int .i64) a2 w fun (ξ3 : Int) =>
  idxK 1 q_1 last_7 fun (a4 : Addr) =>
  load1 (.int .i64) a4 w fun (ξ5 : Int) =>
  idxK 1 places_2 k_8 fun (a6 : Addr) =>
  load1 (.int .i64) a6 w fun (ξ7 : Int) =>
  idxK 1 p_0 (w64 (ξ7 - 1)) fun (a8 : Addr) =>
  load1 (.int .i64) a8 w fun (ξ9 : Int) =>
  idxK 1 places_2 last_7 fun (a10 : Addr) =>
  load1 (.int .i64) a10 w fun (ξ11 : Int) =>
  idxK 1 p_0 (w64 (ξ11 - 1)) fun (a12 : Addr) =>
  load1 (.int .i64) a12 w fun (ξ13 : Int) =>
  drewAll w fun ω14 =>
  bif !((decide (ξ3 < ξ5)) == (decide (ξ9 < ξ13))) then (
  Q .ret [(6, .bool false)] ω14)
  else (
  k (emb3 p_0 q_1 places_2 last_7 (w64 (k_8 + 1))) ω14))
  else (
  Q (.exit 0) (x0) w)) := B3_eq std p_0 q_1 places_2 last_7 k_8 w k Q
theorem L3_rule (p_0 : Sl) (q_1 : Sl) (places_2 : Sl) (last_7 : Int) (k_8 : Int) (w : World) (Q : Exit → Env → World → Prop) (I : Int → World → Prop) (μ : Int → World → Nat) (h0 : I k_8 w)
    (h : ∀ (k_8 : Int) (w' : World), I k_8 w' → B3 std p_0 q_1 places_2 last_7 k_8 w' (fun e2 w2 => ∃ k_8_n, e2 = emb3 p_0 q_1 places_2 last_7 k_8_n ∧ I k_8_n w2 ∧ μ k_8_n w2 < μ k_8 w') Q) :
    L3 std p_0 q_1 places_2 last_7 k_8 w Q := by
  unfold L3
  refine LoopE.intro (σ := Int) (step := S3 std Q) (fun s => emb3 p_0 q_1 places_2 last_7 s) (fun s w => I s w) (fun s w => μ s w) k_8 rfl h0 ?_
  intro s w' hI
  have h1 := h s w' hI
  unfold B3 at h1
  exact h1
theorem A3_0_eq (pr : Prims) (w : World) (R : Ending → World → Prop) : (q1 pr R) (.exit 0) (x0) w = (
  R (.returned (.bool true)) w) := by kernel_rfl
theorem A3_0_s (w : World) (R : Ending → World → Prop) : (q1 std R) (.exit 0) (x0) w = (
  R (.returned (.bool true)) w) := A3_0_eq std w R
theorem R3_eq (pr : Prims) (v6 : Value) (w : World) (R : Ending → World → Prop) : (q1 pr R) .ret [(6, v6)] w = (
  R (.returned (v6)) w) := by kernel_rfl
theorem R3_s (v6 : Value) (w : World) (R : Ending → World → Prop) : (q1 std R) .ret [(6, v6)] w = (
  R (.returned (v6)) w) := R3_eq std v6 w R
theorem E_eq (pr : Prims) (p_0 : Sl) (q_1 : Sl) (places_2 : Sl) (w : World) (R : Ending → World → Prop) : E pr p_0 q_1 places_2 w R = (
  L3 pr p_0 q_1 places_2 (w64 ((places_2.n : Int) - 1)) 0 w (q1 pr R)) := by kernel_rfl
theorem E_s (p_0 : Sl) (q_1 : Sl) (places_2 : Sl) (w : World) (R : Ending → World → Prop) : E std p_0 q_1 places_2 w R = (
  L3 std p_0 q_1 places_2 (w64 ((places_2.n : Int) - 1)) 0 w (q1 std R)) := E_eq std p_0 q_1 places_2 w R
theorem drawsOk : drawsOk PP cfg okD (codeOf Try.f130) = true := by kernel_rfl
theorem calls (p_0 : Sl) (q_1 : Sl) (places_2 : Sl) {w : World} {R : Ending → World → Prop} (h : E std p_0 q_1 places_2 w R) : Calls PP F.spec_l7Fits #[Sl.v p_0, Sl.v q_1, Sl.v places_2] w R :=
  calls_of noCount mixed drawOk Try.func130 rfl (c := cfg) (args := [Sl.v p_0, Sl.v q_1, Sl.v places_2]) rfl (Nat.le_of_ble_eq_true (by kernel_rfl)) drawsOk h
end spec_l7Fits

namespace impl_has
@[reducible] def cfg : Cfg := ⟨83, [(12, [0, 1, 2, 8, 9, 10, 42, 43, 44]), (8, [0, 1, 2, 8, 9])], [(3, [0, 1, 2, 8, 9, 10, 42, 43, 44]), (2, [0, 1, 2, 8, 9, 10]), (1, [0, 1, 2, 8, 9]), (0, [])], [(6, [0, 1, 2, 7])], [6], [14], [101, 107, 112, 15, 21, 124, 76, 137, 28, 115, 91, 81, 130], [138, 140, 82, 6, 86, 85, 132]⟩
def q0 (pr : Prims) (R : Ending → World → Prop) : Exit → Env → World → Prop := fun ex e w => normQ ex (fun e w => contE pr cfg (sub (codeOf Try.f87) [1, 1, 1, 1]) (fun e w => wpC pr PP cfg (DD pr) (sub (codeOf Try.f87) [1, 1, 1, 1]) (retQ Try.f87.results.toList R) e w) e w) (retQ Try.f87.results.toList R) e w
def q3 (pr : Prims) (R : Ending → World → Prop) : Exit → Env → World → Prop := fun ex e w => normQ ex (fun e w => contE pr cfg (sub (codeOf Try.f87) [1, 1, 1, 1, 1, 1]) (fun e w => wpC pr PP cfg (DD pr) (sub (codeOf Try.f87) [1, 1, 1, 1, 1, 1]) (retQ Try.f87.results.toList R) e w) e w) (retQ Try.f87.results.toList R) e w
def q4 (pr : Prims) (R : Ending → World → Prop) : Exit → Env → World → Prop := fun ex e w => blockQ ex 0 (q3 pr R) e w
def q5 (pr : Prims) (k : Env → World → Prop) (Q : Exit → Env → World → Prop) : Exit → Env → World → Prop := fun ex e w => normQ ex (fun e w => contE pr cfg (sub (codeOf Try.f87) [1, 1, 1, 1, 1, 0, 1, 0, 0, 1, 1]) (fun e w => wpC pr PP cfg (DD pr) (sub (codeOf Try.f87) [1, 1, 1, 1, 1, 0, 1, 0, 0, 1, 1]) (fun ex e w => normQ ex (fun e' w' => k (Env.restr e' (lookN cfg.loops (keyOf (sub (codeOf Try.f87) [1, 1, 1, 1, 1, 0, 1, 0, 0])))) w') Q e w) e w) e w) (fun ex e w => normQ ex (fun e' w' => k (Env.restr e' (lookN cfg.loops (keyOf (sub (codeOf Try.f87) [1, 1, 1, 1, 1, 0, 1, 0, 0])))) w') Q e w) e w
def q6 (pr : Prims) (k : Env → World → Prop) (Q : Exit → Env → World → Prop) : Exit → Env → World → Prop := fun ex e w => blockQ ex 1 (q5 pr k Q) e w
def q7 (pr : Prims) (k : Env → World → Prop) (Q : Exit → Env → World → Prop) : Exit → Env → World → Prop := fun ex e w => normQ ex (fun e w => contE pr cfg (sub (codeOf Try.f87) [1, 1, 1, 1, 1, 0, 1, 0, 0, 1, 0, 0, 1, 1]) (fun e w => wpC pr PP cfg (DD pr) (sub (codeOf Try.f87) [1, 1, 1, 1, 1, 0, 1, 0, 0, 1, 0, 0, 1, 1]) (q6 pr k Q) e w) e w) (q6 pr k Q) e w
def q8 (pr : Prims) (k : Env → World → Prop) (Q : Exit → Env → World → Prop) : Exit → Env → World → Prop := fun ex e w => blockQ ex 2 (q7 pr k Q) e w
def j6 (p_0 : Sl) (q_1 : Sl) (chosen_2 : Sl) (from_7 : Int) : Env := [(0, Sl.v p_0), (1, Sl.v q_1), (2, Sl.v chosen_2), (7, vI from_7)]
def emb8 (p_0 : Sl) (q_1 : Sl) (chosen_2 : Sl) (k_8 : Int) (i_9 : Int) : Env := [(0, Sl.v p_0), (1, Sl.v q_1), (2, Sl.v chosen_2), (8, vI k_8), (9, vI i_9)]
def emb12 (p_0 : Sl) (q_1 : Sl) (chosen_2 : Sl) (k_8 : Int) (i_9 : Int) (fits_10 : Bool) (t42 : Sl) (t43 : Int) (t44 : Int) : Env := [(0, Sl.v p_0), (1, Sl.v q_1), (2, Sl.v chosen_2), (8, vI k_8), (9, vI i_9), (10, .bool fits_10), (42, Sl.v t42), (43, vI t43), (44, vI t44)]
def x2 (p_0 : Sl) (q_1 : Sl) (chosen_2 : Sl) (k_8 : Int) (i_9 : Int) (fits_10 : Bool) : Env := [(0, Sl.v p_0), (1, Sl.v q_1), (2, Sl.v chosen_2), (8, vI k_8), (9, vI i_9), (10, .bool fits_10)]
def x0 : Env := []
def S12 (pr : Prims) (Q : Exit → Env → World → Prop) : (Env → World → Prop) → Env → World → Prop := fun k e w => wpC pr PP cfg (DD pr) (sub (codeOf Try.f87) [1, 1, 1, 1, 1, 0, 1, 0, 0, 1, 0, 0, 1, 0, 1, 0, 0]) (fun ex e w => normQ ex (fun e' w' => k (Env.restr e' (lookN cfg.loops (keyOf (sub (codeOf Try.f87) [1, 1, 1, 1, 1, 0, 1, 0, 0, 1, 0, 0, 1, 0, 1, 0, 0])))) w') Q e w) e w
def S8 (pr : Prims) (Q : Exit → Env → World → Prop) : (Env → World → Prop) → Env → World → Prop := fun k e w => wpC pr PP cfg (DD pr) (sub (codeOf Try.f87) [1, 1, 1, 1, 1, 0, 1, 0, 0]) (fun ex e w => normQ ex (fun e' w' => k (Env.restr e' (lookN cfg.loops (keyOf (sub (codeOf Try.f87) [1, 1, 1, 1, 1, 0, 1, 0, 0])))) w') Q e w) e w
def B12 (pr : Prims) (p_0 : Sl) (q_1 : Sl) (chosen_2 : Sl) (k_8 : Int) (i_9 : Int) (fits_10 : Bool) (t42 : Sl) (t43 : Int) (t44 : Int) (w : World) (k : Env → World → Prop) (Q : Exit → Env → World → Prop) : Prop :=
  S12 pr Q k (emb12 p_0 q_1 chosen_2 k_8 i_9 fits_10 t42 t43 t44) w
def L12 (pr : Prims) (p_0 : Sl) (q_1 : Sl) (chosen_2 : Sl) (k_8 : Int) (i_9 : Int) (fits_10 : Bool) (t42 : Sl) (t43 : Int) (t44 : Int) (w : World) (Q : Exit → Env → World → Prop) : Prop :=
  pr.loop (S12 pr Q) (emb12 p_0 q_1 chosen_2 k_8 i_9 fits_10 t42 t43 t44) w
def B8 (pr : Prims) (p_0 : Sl) (q_1 : Sl) (chosen_2 : Sl) (k_8 : Int) (i_9 : Int) (w : World) (k : Env → World → Prop) (Q : Exit → Env → World → Prop) : Prop :=
  S8 pr Q k (emb8 p_0 q_1 chosen_2 k_8 i_9) w
def L8 (pr : Prims) (p_0 : Sl) (q_1 : Sl) (chosen_2 : Sl) (k_8 : Int) (i_9 : Int) (w : World) (Q : Exit → Env → World → Prop) : Prop :=
  pr.loop (S8 pr Q) (emb8 p_0 q_1 chosen_2 k_8 i_9) w
def J6 (pr : Prims) (p_0 : Sl) (q_1 : Sl) (chosen_2 : Sl) (from_7 : Int) (w : World) (R : Ending → World → Prop) : Prop :=
  pr.seg (fun e w => wpC pr PP cfg (DD pr) (sub (codeOf Try.f87) [1, 1, 1, 1]) (retQ Try.f87.results.toList R) e w) (j6 p_0 q_1 chosen_2 from_7) w
def E (pr : Prims) (p_0 : Sl) (q_1 : Sl) (chosen_2 : Sl) (w : World) (R : Ending → World → Prop) : Prop :=
  wpC pr PP cfg (DD pr) (codeOf Try.f87) (retQ Try.f87.results.toList R) (argE 0 [Sl.v p_0, Sl.v q_1, Sl.v chosen_2]) w
theorem B12_eq (pr : Prims) (p_0 : Sl) (q_1 : Sl) (chosen_2 : Sl) (k_8 : Int) (i_9 : Int) (fits_10 : Bool) (t42 : Sl) (t43 : Int) (t44 : Int) (w : World) (k : Env → World → Prop) (Q : Exit → Env → World → Prop) : B12 pr p_0 q_1 chosen_2 k_8 i_9 fits_10 t42 t43 t44 w k Q = (
  bif decide (t44 < t43) then (
  pr.idxK 1 t42 t44 fun (a9 : Addr) =>
  pr.load1 (.int .i64) a9 w fun (ξ10 : Int) =>
  bif fits_10 then (
  pr.idxK 1 p_0 ξ10 fun (a11 : Addr) =>
  pr.load1 (.int .i64) a11 w fun (ξ12 : Int) =>
  pr.idxK 1 p_0 i_9 fun (a13 : Addr) =>
  pr.load1 (.int .i64) a13 w fun (ξ14 : Int) =>
  pr.idxK 1 q_1 t44 fun (a15 : Addr) =>
  pr.load1 (.int .i64) a15 w fun (ξ16 : Int) =>
  pr.idxK 1 q_1 k_8 fun (a17 : Addr) =>
  pr.load1 (.int .i64) a17 w fun (ξ18 : Int) =>
  pr.drewAll w fun ω19 =>
  k (emb12 p_0 q_1 chosen_2 k_8 i_9 ((decide (ξ12 < ξ14)) == (decide (ξ16 < ξ18))) t42 t43 (w64 (t44 + 1))) ω19)
  else (
  pr.drewAll w fun ω20 =>
  k (emb12 p_0 q_1 chosen_2 k_8 i_9 false t42 t43 (w64 (t44 + 1))) ω20))
  else (
  Q (.exit 2) (x2 p_0 q_1 chosen_2 k_8 i_9 fits_10) w)) := by kernel_rfl
theorem B12_s (p_0 : Sl) (q_1 : Sl) (chosen_2 : Sl) (k_8 : Int) (i_9 : Int) (fits_10 : Bool) (t42 : Sl) (t43 : Int) (t44 : Int) (w : World) (k : Env → World → Prop) (Q : Exit → Env → World → Prop) : B12 std p_0 q_1 chosen_2 k_8 i_9 fits_10 t42 t43 t44 w k Q = (
  bif decide (t44 < t43) then (
  idxK 1 t42 t44 fun (a9 : Addr) =>
  load1 (.int .i64) a9 w fun (ξ10 : Int) =>
  bif fits_10 then (
  idxK 1 p_0 ξ10 fun (a11 : Addr) =>
  load1 (.int .i64) a11 w fun (ξ12 : Int) =>
  idxK 1 p_0 i_9 fun (a13 : Addr) =>
  load1 (.int .i64) a13 w fun (ξ14 : Int) =>
  idxK 1 q_1 t44 fun (a15 : Addr) =>
  load1 (.int .i64) a15 w fun (ξ16 : Int) =>
  idxK 1 q_1 k_8 fun (a17 : Addr) =>
  load1 (.int .i64) a17 w fun (ξ18 : Int) =>
  drewAll w fun ω19 =>
  k (emb12 p_0 q_1 chosen_2 k_8 i_9 ((decide (ξ12 < ξ14)) == (decide (ξ16 < ξ18))) t42 t43 (w64 (t44 + 1))) ω19)
  else (
  drewAll w fun ω20 =>
  k (emb12 p_0 q_1 chosen_2 k_8 i_9 false t42 t43 (w64 (t44 + 1))) ω20))
  else (
  Q (.exit 2) (x2 p_0 q_1 chosen_2 k_8 i_9 fits_10) w)) := B12_eq std p_0 q_1 chosen_2 k_8 i_9 fits_10 t42 t43 t44 w k Q
theorem L12_rule (p_0 : Sl) (q_1 : Sl) (chosen_2 : Sl) (k_8 : Int) (i_9 : Int) (fits_10 : Bool) (t42 : Sl) (t43 : Int) (t44 : Int) (w : World) (Q : Exit → Env → World → Prop) (I : Bool → Int → World → Prop) (μ : Bool → Int → World → Nat) (h0 : I fits_10 t44 w)
    (h : ∀ (fits_10 : Bool) (t44 : Int) (w' : World), I fits_10 t44 w' → B12 std p_0 q_1 chosen_2 k_8 i_9 fits_10 t42 t43 t44 w' (fun e2 w2 => ∃ fits_10_n t44_n, e2 = emb12 p_0 q_1 chosen_2 k_8 i_9 fits_10_n t42 t43 t44_n ∧ I fits_10_n t44_n w2 ∧ μ fits_10_n t44_n w2 < μ fits_10 t44 w') Q) :
    L12 std p_0 q_1 chosen_2 k_8 i_9 fits_10 t42 t43 t44 w Q := by
  unfold L12
  refine LoopE.intro (σ := Bool × Int) (step := S12 std Q) (fun s => emb12 p_0 q_1 chosen_2 k_8 i_9 s.1 t42 t43 s.2) (fun s w => I s.1 s.2 w) (fun s w => μ s.1 s.2 w) (fits_10, t44) rfl h0 ?_
  intro s w' hI
  have h1 := h s.1 s.2 w' hI
  unfold B12 at h1
  simp only [Prod.exists]
  exact h1
theorem A12_2_eq (pr : Prims) (p_0 : Sl) (q_1 : Sl) (chosen_2 : Sl) (k_8 : Int) (i_9 : Int) (fits_10 : Bool) (w : World) (k : Env → World → Prop) (Q : Exit → Env → World → Prop) : (q8 pr k Q) (.exit 2) (x2 p_0 q_1 chosen_2 k_8 i_9 fits_10) w = (
  bif fits_10 then (
  pr.call1 .sl PP F.slices_Clone___int_int_ #[Sl.v chosen_2] w fun (ρ21 : Sl) ω22 =>
  pr.sem1 .sl PP (Instr.buildSlice T_Sint 1 #[(0, vI i_9)]) ω22 fun (ρ23 : Sl) ω24 =>
  pr.sem1 .sl PP (Builtin.append_ #[T_Sint, T_Sint] T_Sint #[Sl.v ρ21, Sl.v ρ23]) ω24 fun (ρ25 : Sl) ω26 =>
  pr.call1 .bool PP F.impl_has #[Sl.v p_0, Sl.v q_1, Sl.v ρ25] ω26 fun (ρ27 : Bool) ω28 =>
  bif ρ27 then (
  Q .ret [(6, .bool true)] ω28)
  else (
  k (emb8 p_0 q_1 chosen_2 k_8 (w64 (i_9 + 1))) ω28))
  else (
  k (emb8 p_0 q_1 chosen_2 k_8 (w64 (i_9 + 1))) w)) := by kernel_rfl
theorem A12_2_s (p_0 : Sl) (q_1 : Sl) (chosen_2 : Sl) (k_8 : Int) (i_9 : Int) (fits_10 : Bool) (w : World) (k : Env → World → Prop) (Q : Exit → Env → World → Prop) : (q8 std k Q) (.exit 2) (x2 p_0 q_1 chosen_2 k_8 i_9 fits_10) w = (
  bif fits_10 then (
  call1 .sl PP F.slices_Clone___int_int_ #[Sl.v chosen_2] w fun (ρ21 : Sl) ω22 =>
  sem1 .sl PP (Instr.buildSlice T_Sint 1 #[(0, vI i_9)]) ω22 fun (ρ23 : Sl) ω24 =>
  sem1 .sl PP (Builtin.append_ #[T_Sint, T_Sint] T_Sint #[Sl.v ρ21, Sl.v ρ23]) ω24 fun (ρ25 : Sl) ω26 =>
  call1 .bool PP F.impl_has #[Sl.v p_0, Sl.v q_1, Sl.v ρ25] ω26 fun (ρ27 : Bool) ω28 =>
  bif ρ27 then (
  Q .ret [(6, .bool true)] ω28)
  else (
  k (emb8 p_0 q_1 chosen_2 k_8 (w64 (i_9 + 1))) ω28))
  else (
  k (emb8 p_0 q_1 chosen_2 k_8 (w64 (i_9 + 1))) w)) := A12_2_eq std p_0 q_1 chosen_2 k_8 i_9 fits_10 w k Q
theorem B8_eq (pr : Prims) (p_0 : Sl) (q_1 : Sl) (chosen_2 : Sl) (k_8 : Int) (i_9 : Int) (w : World) (k : Env → World → Prop) (Q : Exit → Env → World → Prop) : B8 pr p_0 q_1 chosen_2 k_8 i_9 w k Q = (
  bif decide (i_9 ≤ (w64 ((p_0.n : Int) - (w64 ((q_1.n : Int) - k_8))))) then (
  L12 pr p_0 q_1 chosen_2 k_8 i_9 true chosen_2 (chosen_2.n : Int) 0 w (q8 pr k Q))
  else (
  Q (.exit 0) (x0) w)) := by kernel_rfl
theorem B8_s (p_0 : Sl) (q_1 : Sl) (chosen_2 : Sl) (k_8 : Int) (i_9 : Int) (w : World) (k : Env → World → Prop) (Q : Exit → Env → World → Prop) : B8 std p_0 q_1 chosen_2 k_8 i_9 w k Q = (
  bif decide (i_9 ≤ (w64 ((p_0.n : Int) - (w64 ((q_1.n : Int) - k_8))))) then (
  L12 std p_0 q_1 chosen_2 k_8 i_9 true chosen_2 (chosen_2.n : Int) 0 w (q8 std k Q))
  else (
  Q (.exit 0) (x0) w)) := B8_eq std p_0 q_1 chosen_2 k_8 i_9 w k Q
theorem L8_rule (p_0 : Sl) (q_1 : Sl) (chosen_2 : Sl) (k_8 : Int) (i_9 : Int) (w : World) (Q : Exit → Env → World → Prop) (I : Int → World → Prop) (μ : Int → World → Nat) (h0 : I i_9 w)
    (h : ∀ (i_9 : Int) (w' : World), I i_9 w' → B8 std p_0 q_1 chosen_2 k_8 i_9 w' (fun e2 w2 => ∃ i_9_n, e2 = emb8 p_0 q_1 chosen_2 k_8 i_9_n ∧ I i_9_n w2 ∧ μ i_9_n w2 < μ i_9 w') Q) :
    L8 std p_0 q_1 chosen_2 k_8 i_9 w Q := by
  unfold L8
  refine LoopE.intro (σ := Int) (step := S8 std Q) (fun s => emb8 p_0 q_1 chosen_2 k_8 s) (fun s w => I s w) (fun s w => μ s w) i_9 rfl h0 ?_
  intro s w' hI
  have h1 := h s w' hI
  unfold B8 at h1
  exact h1
theorem A8_0_eq (pr : Prims) (w : World) (R : Ending → World → Prop) : (q4 pr R) (.exit 0) (x0) w = (
  R (.returned (.bool false)) w) := by kernel_rfl
theorem A8_0_s (w : World) (R : Ending → World → Prop) : (q4 std R) (.exit 0) (x0) w = (
  R (.returned (.bool false)) w) := A8_0_eq std w R
theorem R8_eq (pr : Prims) (v6 : Value) (w : World) (R : Ending → World → Prop) : (q4 pr R) .ret [(6, v6)] w = (
  R (.returned (v6)) w) := by kernel_rfl
theorem R8_s (v6 : Value) (w : World) (R : Ending → World → Prop) : (q4 std R) .ret [(6, v6)] w = (
  R (.returned (v6)) w) := R8_eq std v6 w R
theorem J6_gen (pr : Prims) (p_0 : Sl) (q_1 : Sl) (chosen_2 : Sl) (from_7 : Int) (w : World) (R : Ending → World → Prop) : wpC pr PP cfg (DD pr) (sub (codeOf Try.f87) [1, 1, 1, 1]) (retQ Try.f87.results.toList R) (j6 p_0 q_1 chosen_2 from_7) w = (
  L8 pr p_0 q_1 chosen_2 (chosen_2.n : Int) from_7 w (q4 pr R)) := by kernel_rfl
theorem J6_s (p_0 : Sl) (q_1 : Sl) (chosen_2 : Sl) (from_7 : Int) (w : World) (R : Ending → World → Prop) : J6 std p_0 q_1 chosen_2 from_7 w R = (
  L8 std p_0 q_1 chosen_2 (chosen_2.n : Int) from_7 w (q4 std R)) := J6_gen std p_0 q_1 chosen_2 from_7 w R
theorem E_eq (pr : Prims) (p_0 : Sl) (q_1 : Sl) (chosen_2 : Sl) (w : World) (R : Ending → World → Prop) : E pr p_0 q_1 chosen_2 w R = (
  bif (chosen_2.n : Int) == (q_1.n : Int) then (
  R (.returned (.bool true)) w)
  else (
  bif decide ((chosen_2.n : Int) > 0) then (
  pr.idxK 1 chosen_2 (w64 ((chosen_2.n : Int) - 1)) fun (a1 : Addr) =>
  pr.load1 (.int .i64) a1 w fun (ξ2 : Int) =>
  J6 pr p_0 q_1 chosen_2 (w64 (ξ2 + 1)) w R)
  else (
  J6 pr p_0 q_1 chosen_2 0 w R))) := by kernel_rfl
theorem E_s (p_0 : Sl) (q_1 : Sl) (chosen_2 : Sl) (w : World) (R : Ending → World → Prop) : E std p_0 q_1 chosen_2 w R = (
  bif (chosen_2.n : Int) == (q_1.n : Int) then (
  R (.returned (.bool true)) w)
  else (
  bif decide ((chosen_2.n : Int) > 0) then (
  idxK 1 chosen_2 (w64 ((chosen_2.n : Int) - 1)) fun (a1 : Addr) =>
  load1 (.int .i64) a1 w fun (ξ2 : Int) =>
  J6 std p_0 q_1 chosen_2 (w64 (ξ2 + 1)) w R)
  else (
  J6 std p_0 q_1 chosen_2 0 w R))) := E_eq std p_0 q_1 chosen_2 w R
theorem drawsOk : drawsOk PP cfg okD (codeOf Try.f87) = true := by kernel_rfl
theorem calls (p_0 : Sl) (q_1 : Sl) (chosen_2 : Sl) {w : World} {R : Ending → World → Prop} (h : E std p_0 q_1 chosen_2 w R) : Calls PP F.impl_has #[Sl.v p_0, Sl.v q_1, Sl.v chosen_2] w R :=
  calls_of noCount mixed drawOk Try.func87 rfl (c := cfg) (args := [Sl.v p_0, Sl.v q_1, Sl.v chosen_2]) rfl (Nat.le_of_ble_eq_true (by kernel_rfl)) drawsOk h
end impl_has

end Go.Proofs.Ytdchjhhpbdekeaa

/- What each function does, step by step, written by a program (Gen.lean); each equation is checked by the kernel. -/
namespace Go.Proofs.Ytdchjhhpbdekeaa
open Go
set_option linter.unusedVariables false
set_option maxRecDepth 100000
namespace slices_Clone___int_int_
@[reducible] def cfg : Cfg := ⟨8, [], [], [], [2], [], [101, 107, 112, 15, 21, 124, 76, 137, 28, 115, 91, 81, 130], [138, 140, 82, 6, 86, 85, 132]⟩
def E (pr : Prims) (s_0 : Sl) (w : World) (R : Ending → World → Prop) : Prop :=
  wpC pr PP cfg (DD pr) (codeOf Try.f125) (retQ Try.f125.results.toList R) (argE 0 [Sl.v s_0]) w
theorem E_eq (pr : Prims) (s_0 : Sl) (w : World) (R : Ending → World → Prop) : E pr s_0 w R = (
  bif s_0.a.isNone then (
  R (.returned (Sl.v Sl.nil)) w)
  else (
  pr.sem1 .sl PP (Instr.buildSlice T_Sint 0 #[]) w fun (ρ0 : Sl) ω1 =>
  pr.sem1 .sl PP (Builtin.append_ #[T_Sint, T_Sint] T_Sint #[Sl.v ρ0, Sl.v s_0]) ω1 fun (ρ2 : Sl) ω3 =>
  R (.returned (Sl.v ρ2)) ω3)) := by kernel_rfl
theorem E_s (s_0 : Sl) (w : World) (R : Ending → World → Prop) : E std s_0 w R = (
  bif s_0.a.isNone then (
  R (.returned (Sl.v Sl.nil)) w)
  else (
  sem1 .sl PP (Instr.buildSlice T_Sint 0 #[]) w fun (ρ0 : Sl) ω1 =>
  sem1 .sl PP (Builtin.append_ #[T_Sint, T_Sint] T_Sint #[Sl.v ρ0, Sl.v s_0]) ω1 fun (ρ2 : Sl) ω3 =>
  R (.returned (Sl.v ρ2)) ω3)) := E_eq std s_0 w R
theorem drawsOk : drawsOk PP cfg okD (codeOf Try.f125) = true := by kernel_rfl
theorem calls (s_0 : Sl) {w : World} {R : Ending → World → Prop} (h : E std s_0 w R) : Calls PP F.slices_Clone___int_int_ #[Sl.v s_0] w R :=
  calls_of noCount mixed drawOk Try.func125 rfl (c := cfg) (args := [Sl.v s_0]) rfl (Nat.le_of_ble_eq_true (by kernel_rfl)) drawsOk h
end slices_Clone___int_int_

end Go.Proofs.Ytdchjhhpbdekeaa

/- Rows given by a function of the place. -/
namespace Go.Proofs.Ytdchjhhpbdekeaa
open Go Go.RowKit
set_option maxRecDepth 100000

def tab (n : Nat) (f : Nat → Int) : List Int := (List.range n).map f
theorem tab_length (n : Nat) (f : Nat → Int) : (tab n f).length = n := by simp [tab]
theorem tab_getD {n : Nat} (f : Nat → Int) {i : Nat} (h : i < n) : (tab n f).getD i 0 = f i := by simp [tab, List.getD_eq_getElem?_getD, h]
theorem tab_set {n : Nat} (f : Nat → Int) (i : Nat) (v : Int) : (tab n f).set i v = tab n (fun j => if j = i then v else f j) := by
  apply List.ext_getElem?
  intro k
  simp only [tab, List.getElem?_set, List.getElem?_map, List.length_map, List.length_range]
  by_cases hk : k < n
  · rw [List.getElem?_range hk]
    by_cases hik : i = k
    · subst hik; simp [hk]
    · simp [hik, Ne.symm hik]
  · rw [List.getElem?_eq_none (by simpa using hk)]
    by_cases hik : i = k
    · subst hik; simp [hk]
    · simp [hik]
theorem tab_congr {n : Nat} {f g : Nat → Int} (h : ∀ j, j < n → f j = g j) : tab n f = tab n g := by
  unfold tab; apply List.map_congr_left; intro j hj; exact h j (by simpa using hj)
theorem grownBy_trans {a b c : World} {r : Option Nat} (h : a.grownBy b r) (k : b.grownBy c r) : a.grownBy c r :=
  ⟨k.os.trans h.os, k.tape.trans h.tape, k.output.trans h.output, Nat.le_trans h.size k.size, fun x hx hne => (k.block x (Nat.lt_of_lt_of_le hx h.size) hne).trans (h.block x hx hne)⟩
theorem grownBy_refl (a : World) (r : Option Nat) : a.grownBy a r := ⟨rfl, rfl, rfl, Nat.le_refl _, fun _ _ _ => rfl⟩
theorem Drew.grownBy {a b : World} (h : Drew a b) (r : Option Nat) : a.grownBy b r := by obtain ⟨n, rfl⟩ := h; exact ⟨rfl, rfl, rfl, Nat.le_refl _, fun _ _ _ => rfl⟩
theorem tab_succ (n : Nat) (f : Nat → Int) : tab (n + 1) f = tab n f ++ [f n] := by simp [tab, List.range_succ]
theorem tab_self (L : List Int) : tab L.length (fun k => L.getD k 0) = L := by
  apply List.ext_getElem?
  intro k
  by_cases hk : k < L.length
  · simp [tab, List.getElem?_range hk, List.getD_eq_getElem?_getD, List.getElem?_eq_getElem hk, hk]
  · rw [List.getElem?_eq_none (by simp [tab]; omega), List.getElem?_eq_none (by omega)]
theorem tab_reverse (L : List Int) : tab L.length (fun k => L.getD (L.length - 1 - k) 0) = L.reverse := by
  apply List.ext_getElem?
  intro k
  by_cases hk : k < L.length
  · rw [List.getElem?_reverse hk]
    simp [tab, List.getElem?_range hk, List.getD_eq_getElem?_getD, List.getElem?_eq_getElem (show L.length - 1 - k < L.length by omega)]
  · rw [List.getElem?_eq_none (by simp [tab]; omega), List.getElem?_eq_none (by simp; omega)]
end Go.Proofs.Ytdchjhhpbdekeaa

/- The library's Clone of a row of ints. -/
namespace Go.Proofs.Ytdchjhhpbdekeaa
open Go Go.RowKit
set_option maxRecDepth 100000

theorem c_Clone {w : World} {a : Sl} {L : List Int} (ha : RowI w a L) (hL : L.length < 2^38) :
    Calls PP F.slices_Clone___int_int_ #[a.v] w fun e w' => ∃ s : Sl, e = .returned s.v ∧ OwnI w' w.heap.size s L ∧ Below w.heap.size w w' := by
  refine slices_Clone___int_int_.calls a ?_
  rw [slices_Clone___int_int_.E_s]
  refine bif_intro (fun h => ?_) (fun h => ?_)
  · have : L = [] := by
      cases L with
      | nil => rfl
      | cons x r => obtain ⟨b, hb, _⟩ := ha.cell 0 (vI x) rfl; rw [hb] at h; cases h
    subst this
    exact ⟨Sl.nil, rfl, Own.nil _ _ _, Below.refl _ _⟩
  · refine lit0 oneInt (B := w.heap.size) (Nat.le_refl _) ?_
    intro t w1 ht hg _
    have hb := below_of_grow hg
    refine append_row oneInt ht hb.size (ha.grow hb) (fun v hv => by obtain ⟨x, _, rfl⟩ := List.mem_map.1 hv; exact One.int x) (by simp; omega) ?_
    intro s w2 hs hg2 _ _
    exact ⟨s, rfl, by simpa using hs, hb.grown hg2 hb.size (fun g hg => (ht.lt g hg).1)⟩
end Go.Proofs.Ytdchjhhpbdekeaa
