/- Closed runs on arguments of which only some bits are known. No condition. -/
import Derived.Test.YthibiempfkcinaaFlX
namespace Go.Fl
open Go
set_option linter.unusedVariables false
set_option linter.unusedSimpArgs false
theorem and_mask {a : Int} {k : Nat} (hk : k ≤ 62) : binI .and .i64 a (2 ^ k - 1) = some (.int .i64 (a % 2 ^ k)) := by
  have h := (xAndI (K := fun v => v = .int .i64 (a % 2 ^ k)) (Q := .no) (k := k) (a := a) hk).mpr rfl
  have e : fBin .and .no [.int .i64 a, .int .i64 (2 ^ k - 1)] = binI .and .i64 a (2 ^ k - 1) := by simp [fBin, isSh]
  unfold xF at h
  rw [e] at h
  cases q : binI .and .i64 a (2 ^ k - 1) with
  | none => rw [q] at h; exact h.elim
  | some v => rw [q] at h; rw [show v = _ from h]
/-- A number of which the last bits are known. -/
theorem RV.low {r : Rn} {a n m : Int} {k : Nat} (hk : k ≤ 62) (hm : m = 2 ^ k - 1) (h : a % 2 ^ k = n) : RV r (Fl.tok .i64 m n) (.int .i64 a) := by
  subst hm; have e := and_mask (a := a) hk; rw [h] at e; exact RV.tok e
/-- A function's run on such arguments. -/
theorem EvOk.done {P : Program} {g : Nat} {c : Cls} {S : Spec} {V : EvF} (h : EvOk S V) (e : Entry P g c S) {args args' : List Value} (ha : RVL (fun _ => none) args args') (hk : V args ⟨.e, 0⟩ (fun v _ => isT v) = true) (σ : Mem) :
    S args' (fun v _ => v = .bool true) σ := e.good.mono _ _ _ _ (fun v τ q => q.1) (h.run ha hk σ)
/-- One of the first numbers. -/
theorem all_of {n : Nat} {f : Int → Bool} (h : (List.range n).all (fun i => f (Int.ofNat i)) = true) {a : Int} (h0 : 0 ≤ a) (h1 : a < n) : f a = true := by
  have := List.all_eq_true.1 h a.toNat (List.mem_range.2 (by omega))
  rwa [show Int.ofNat a.toNat = a by simp only [Int.ofNat_eq_natCast]; omega] at this
end Go.Fl
