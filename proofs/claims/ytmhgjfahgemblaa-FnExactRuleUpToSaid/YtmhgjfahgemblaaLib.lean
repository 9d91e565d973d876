/- Words that the walks share: calls that only reckon, tests, sums of ints. -/
import Derived.Test.YtmhgjfahgemblaaHead
namespace Go.Proofs.Ytmhgjfahgemblaa
open Go

theorem w64_id {n : Int} (h : -(2^63 : Int) ≤ n) (h2 : n < 2^63) : w64 n = n := by
  unfold w64; simp [IntKind.wrap, IntKind.signed, IntKind.bits]; omega
theorem w64_succ {n : Int} (h : 0 ≤ n) (h2 : n < 2^62) : w64 (n + 1) = n + 1 := w64_id (by omega) (by omega)

/-- A function that only reckons: in every world it answers 'v' and leaves the world alone. -/
def Pure (f : FuncId) (args : Array Value) (v : Value) : Prop := ∀ w, Calls PP f args w fun e w' => e = .returned v ∧ w' = w
theorem Pure.call1 {s : Sh} {f args} {r : s.T} (h : Pure f args (s.enc r)) {w : World} {K : s.T → World → Prop} (hk : K r w) : call1 s PP f args w K := by
  exact (h w).mono fun e w' ⟨he, hw⟩ => ⟨r, he, hw ▸ hk⟩
theorem Pure.pcall1 {s : Sh} {f args} {r : s.T} (h : Pure f args (s.enc r)) {K : s.T → Prop} (hk : K r) : pcall1 s PP f args K := ⟨r, h, hk⟩
theorem Pure.qcall1 {s : Sh} {f args} {r : s.T} (h : Pure f args (s.enc r)) {w : World} {K : s.T → Prop} (hk : K r) : qcall1 s PP f args w K :=
  ⟨r, fun w' _ => (h w').mono fun e w'' ⟨he, hw⟩ => ⟨he, 0, by rw [hw]; rfl⟩, hk⟩
theorem bif_intro {c : Bool} {p q : Prop} (h1 : c = true → p) (h2 : c = false → q) : (bif c then p else q) := by cases c <;> simp_all
theorem bif_dec {c : Prop} [Decidable c] {p q : Prop} (h1 : c → p) (h2 : ¬ c → q) : (bif decide c then p else q) := by by_cases h : c <;> simp_all
theorem bif_t {c : Bool} {p q : Prop} (h : c = true) (h1 : p) : (bif c then p else q) := by subst h; exact h1
theorem bif_f {c : Bool} {p q : Prop} (h : c = false) (h1 : q) : (bif c then p else q) := by subst h; exact h1
end Go.Proofs.Ytmhgjfahgemblaa
