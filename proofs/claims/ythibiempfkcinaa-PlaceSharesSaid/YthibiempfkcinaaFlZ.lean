/- Slices: what is read of them, cut off, appended to. No condition. -/
import Derived.Test.YthibiempfkcinaaFlX
namespace Go.Fl
open Go
set_option linter.unusedVariables false
set_option linter.unusedSimpArgs false
variable {N : Nm} {A B : Ar} {σ : Mem} {K : Value → Mem → Prop} {C : Cf} {who : Int}

/-- Arguments: rows of bools, of numbers. -/
def ArgB (σ : Mem) (s : Value) (n : Nat) (g : Int → Bool) : Prop := ∃ a c, s = .slice a n c ∧ (0 < n → ∃ b rw, a = some ⟨b, 0, none⟩ ∧ σ.get b = some ⟨cellsB n g, rw⟩)
def ArgI (k : IntKind) (σ : Mem) (s : Value) (n : Nat) (g : Int → Int) : Prop := ∃ a c, s = .slice a n c ∧ (0 < n → ∃ b rw, a = some ⟨b, 0, none⟩ ∧ σ.get b = some ⟨cells k n g, rw⟩)
theorem Sl.argB {s : Value} {n : Nat} {cs : List Value} (h : Sl σ 1 n cs s) (hf : FlatL (List.replicate n [none]).flatten cs) : ∃ g, ArgB σ s n g := by
  obtain ⟨g, rfl⟩ := hf.bools
  refine ⟨g, ?_⟩
  generalize hc : cellsB n g = cs at h
  cases h with
  | nil => exact ⟨none, 0, rfl, fun h => absurd h (Nat.lt_irrefl 0)⟩
  | mk hl hg =>
    rename_i b
    refine ⟨some ⟨b, 0, none⟩, 1, rfl, fun h => ?_⟩
    rcases hg with hg | ⟨rw, hg⟩
    · omega
    · exact ⟨b, rw, rfl, by rw [hg, hc]⟩
theorem Sl.argI {k : IntKind} {s : Value} {n : Nat} {cs : List Value} (h : Sl σ 1 n cs s) (hf : FlatL (List.replicate n [some k]).flatten cs) : ∃ g, ArgI k σ s n g ∧ ∀ i, (Lit.int k (g i)).wf = true := by
  obtain ⟨g, rfl, hw⟩ := hf.ints
  refine ⟨g, ?_, hw⟩
  generalize hc : cells k n g = cs at h
  cases h with
  | nil => exact ⟨none, 0, rfl, fun h => absurd h (Nat.lt_irrefl 0)⟩
  | mk hl hg =>
    rename_i b
    refine ⟨some ⟨b, 0, none⟩, 1, rfl, fun h => ?_⟩
    rcases hg with hg | ⟨rw, hg⟩
    · omega
    · exact ⟨b, rw, rfl, by rw [hg, hc]⟩
theorem ArgB.keep {s : Value} {n : Nat} {g : Int → Bool} {τ : Mem} (h : ArgB σ s n g) (k : Ext σ τ) : ArgB τ s n g := by
  obtain ⟨a, c, rfl, h⟩ := h
  refine ⟨a, c, rfl, fun hn => ?_⟩
  obtain ⟨b, rw, e, h⟩ := h hn
  exact ⟨b, rw, e, k _ _ h⟩
theorem ArgI.keep {kd : IntKind} {s : Value} {n : Nat} {g : Int → Int} {τ : Mem} (h : ArgI kd σ s n g) (k : Ext σ τ) : ArgI kd τ s n g := by
  obtain ⟨a, c, rfl, h⟩ := h
  refine ⟨a, c, rfl, fun hn => ?_⟩
  obtain ⟨b, rw, e, h⟩ := h hn
  exact ⟨b, rw, e, k _ _ h⟩
theorem ArgB.len {s : Value} {n : Nat} {g : Int → Bool} (h : ArgB σ s n g) {K : Value → Prop} : xF fLen [s] K = K (.int .i64 n) := by
  obtain ⟨a, c, rfl, _⟩ := h; exact xLen
theorem ArgI.len {k : IntKind} {s : Value} {n : Nat} {g : Int → Int} (h : ArgI k σ s n g) {K : Value → Prop} : xF fLen [s] K = K (.int .i64 n) := by
  obtain ⟨a, c, rfl, _⟩ := h; exact xLen
/-- An element of it. -/
theorem ArgB.ix {s : Value} {n : Nat} {g : Int → Bool} (h : ArgB σ s n g) {i : Int} (h0 : 0 ≤ i) (h1 : i < n) {kd : IntKind} :
    (xF (fIxS 1) [s, .int kd i] fun v => hLoad 1 false [v] K σ) = K (.bool (g i)) σ := by
  obtain ⟨a, c, rfl, h⟩ := h
  obtain ⟨b, rw, rfl, h'⟩ := h (by omega)
  rw [xIxS h0 h1]
  simp only [Nat.zero_add]
  exact ldCellsB h' h0 h1
theorem ArgI.ix {k' : IntKind} {s : Value} {n : Nat} {g : Int → Int} (h : ArgI k' σ s n g) {i : Int} (h0 : 0 ≤ i) (h1 : i < n) {kd : IntKind} :
    (xF (fIxS 1) [s, .int kd i] fun v => hLoad 1 false [v] K σ) = K (.int k' (g i)) σ := by
  obtain ⟨a, c, rfl, h⟩ := h
  obtain ⟨b, rw, rfl, h'⟩ := h (by omega)
  rw [xIxS h0 h1]
  simp only [Nat.zero_add]
  exact ldCells h' h0 h1

/-- What was there at the beginning stays, when what is changed was not. -/
theorem Ext.keep' {σ0 τ : Mem} {L : List Nat} (h : Ext σ0 σ) (k : Keep L σ τ) (hL : ∀ i ∈ L, σ0.get i = none) : Ext σ0 τ := by
  intro i b hi
  refine k i b (h i b hi) fun hm => ?_
  rw [hL i hm] at hi; cases hi
theorem Ext.none {τ : Mem} (h : Ext σ τ) {i : Nat} (hi : τ.get i = none) : σ.get i = none := by
  cases e : σ.get i with
  | none => rfl
  | some b => rw [h i b e] at hi; cases hi
theorem Nm.fr.all (h : N.fr σ) : ∀ i ∈ N.l, σ.get i = none := by
  intro i hi
  simp only [Nm.l, List.mem_cons, List.not_mem_nil, or_false] at hi
  rcases hi with rfl | rfl | rfl
  · exact h.m
  · exact h.w
  · exact h.t

/-- An operation on an arena's memory, among other things. -/
theorem viaA {S : (Value → Mem → Prop) → Mem → Prop} {A' : Ar} {v : Value} (hS : ∀ K σ, S K (putA N A σ) = K v (putA N A' σ)) (hN : N.ok) (hA : isA N A σ) (hk : ∀ τ, isA N A' τ → Keep N.l σ τ → K v τ) : S K σ := by
  have e := hA.eq
  have h : S K (putA N A σ) := (hS K σ).mpr (hk _ (isA_put hN) Keep.put)
  rwa [← e] at h

/-! ### Rows of flat things that came in -/

theorem FlatL.split : ∀ {ks ls : List (Option IntKind)} {cs : List Value}, FlatL (ks ++ ls) cs → FlatL ks (cs.take ks.length) ∧ FlatL ls (cs.drop ks.length)
  | [], ls, cs, h => ⟨.nil, h⟩
  | k :: ks, ls, cs, h => by
    cases h with
    | cons h1 h2 =>
      obtain ⟨a, b⟩ := FlatL.split h2
      exact ⟨.cons h1 a, b⟩
theorem FlatL.elem {ks : List (Option IntKind)} : ∀ {n : Nat} {cs : List Value}, FlatL (List.replicate n ks).flatten cs → ∀ {i : Nat}, i < n → FlatL ks ((cs.drop (i * ks.length)).take ks.length)
  | 0, cs, h, i, hi => by omega
  | n + 1, cs, h, i, hi => by
    have e : (List.replicate (n + 1) ks).flatten = ks ++ (List.replicate n ks).flatten := by simp [List.replicate_succ]
    rw [e] at h
    obtain ⟨a, b⟩ := h.split
    cases i with
    | zero => simpa using a
    | succ i =>
      have := b.elem (i := i) (by omega)
      rw [List.drop_drop] at this
      rwa [show (i + 1) * ks.length = ks.length + i * ks.length by rw [Nat.succ_mul, Nat.add_comm]]
/-- A row of things of so many cells. -/
def ArgS (es : Nat) (σ : Mem) (s : Value) (n : Nat) (cs : List Value) : Prop := cs.length = n * es ∧ ∃ a c, s = .slice a n c ∧ (0 < n → ∃ b rw, a = some ⟨b, 0, none⟩ ∧ σ.get b = some ⟨cs, rw⟩)
theorem Sl.argS {es : Nat} {s : Value} {n : Nat} {cs : List Value} (h : Sl σ es n cs s) : ArgS es σ s n cs := by
  cases h with
  | nil => exact ⟨by simp, none, 0, rfl, fun h => absurd h (Nat.lt_irrefl 0)⟩
  | mk hl hg =>
    rename_i b
    refine ⟨hl, some ⟨b, 0, none⟩, es, rfl, fun h => ?_⟩
    rcases hg with hg | ⟨rw, hg⟩
    · omega
    · exact ⟨b, rw, rfl, hg⟩
theorem ArgS.keep {es : Nat} {s : Value} {n : Nat} {cs : List Value} {τ : Mem} (h : ArgS es σ s n cs) (k : Ext σ τ) : ArgS es τ s n cs := by
  obtain ⟨l, a, c, rfl, h⟩ := h
  refine ⟨l, a, c, rfl, fun hn => ?_⟩
  obtain ⟨b, rw, e, h⟩ := h hn
  exact ⟨b, rw, e, k _ _ h⟩
theorem ArgS.len {es : Nat} {s : Value} {n : Nat} {cs : List Value} (h : ArgS es σ s n cs) {K : Value → Prop} : xF fLen [s] K = K (.int .i64 n) := by
  obtain ⟨_, a, c, rfl, _⟩ := h; exact xLen
theorem ArgS.ix {es : Nat} {s : Value} {n : Nat} {cs : List Value} (h : ArgS es σ s n cs) {i : Int} (h0 : 0 ≤ i) (h1 : i < n) {kd : IntKind} :
    (xF (fIxS es) [s, .int kd i] fun v => hLoad es true [v] K σ) = K (.agg ((cs.drop (i.toNat * es)).take es).toArray) σ := by
  obtain ⟨l, a, c, rfl, h⟩ := h
  obtain ⟨b, rw, rfl, h'⟩ := h (by omega)
  have hle : i.toNat * es + es ≤ cs.length := by
    rw [l]
    calc i.toNat * es + es = (i.toNat + 1) * es := by rw [Nat.succ_mul]
      _ ≤ n * es := Nat.mul_le_mul_right _ (by omega)
  rw [xIxS h0 h1]
  simp only [Nat.zero_add]
  rw [hLoad_eq h', sub_l, if_pos hle, xOs]
theorem tmodN (a : Int) {n : Int} (hn : 0 < n) : -n < a.tmod n ∧ a.tmod n < n := by
  rcases Int.le_total 0 a with h | h
  · rw [Int.tmod_eq_emod_of_nonneg h]
    have := Int.emod_nonneg a (show n ≠ 0 by omega)
    have := Int.emod_lt_of_pos a hn
    omega
  · obtain ⟨b, rfl⟩ : ∃ b, a = -b := ⟨-a, by omega⟩
    rw [Int.neg_tmod, Int.tmod_eq_emod_of_nonneg (by omega)]
    have := Int.emod_nonneg b (show n ≠ 0 by omega)
    have := Int.emod_lt_of_pos b hn
    omega
theorem pickN (a : Int) {n : Int} (hn : 0 < n) (h1 : n < 1000000000000) : IntKind.i64.wrap (a.tmod n + n) = a.tmod n + n ∧ 0 ≤ (a.tmod n + n).tmod n ∧ (a.tmod n + n).tmod n < n := by
  have := tmodN a hn
  refine ⟨IntWalk.i64_in _ (by omega), ?_⟩
  rw [Int.tmod_eq_emod_of_nonneg (by omega)]
  exact ⟨Int.emod_nonneg _ (by omega), Int.emod_lt_of_pos _ hn⟩

/-! ### Rows that are made -/
section
variable {b o : Nat} {pre L post : List Value} {rw : Bool}
theorem ldL (h : σ.get b = some ⟨pre ++ L ++ post, rw⟩) (ho : pre.length = o) {i : Int} (h0 : 0 ≤ i) {v : Value} (h1 : L[i.toNat]? = some v) : hLoad 1 false [.pointer (some ⟨b, o + i.toNat * 1, none⟩)] K σ = K v σ := by
  have hlt : i.toNat < L.length := (List.getElem?_eq_some_iff.1 h1).1
  subst ho
  rw [hLoad_eq h, Nat.mul_one, sub_app (by decide) (by omega), sub_one h1, xOs]
theorem ixL (h : σ.get b = some ⟨pre ++ L ++ post, rw⟩) (ho : pre.length = o) {i : Int} {n : Nat} {kd : IntKind} (h0 : 0 ≤ i) (hn : i < n) {v : Value} (h1 : L[i.toNat]? = some v) :
    (xF (fIxS 1) [.slice (some ⟨b, o, none⟩) n 1, .int kd i] fun v => hLoad 1 false [v] K σ) = K v σ := by
  rw [xIxS h0 hn]
  exact ldL h ho h0 h1
theorem xSlHi {K : Value → Prop} {n : Nat} {k : IntKind} {j : Int} (h0 : 0 ≤ j) (h1 : j ≤ n) : xF (fSl 1 false true) [.slice (some ⟨b, o, none⟩) n 1, .int k j] K = K (.slice (some ⟨b, o, none⟩) j.toNat 1) := by
  simp only [xF, fSl, resl]
  rw [if_neg (by simp), if_pos (by simp), if_pos ⟨Int.le_refl 0, h0, h1⟩]
  simp [adv]
theorem xSlLo {K : Value → Prop} {n : Nat} {k : IntKind} {j : Int} (h0 : 0 ≤ j) (h1 : j ≤ n) : xF (fSl 1 true false) [.slice (some ⟨b, o, none⟩) n 1, .int k j] K = K (.slice (some ⟨b, o + j.toNat, none⟩) (n - j.toNat) 1) := by
  simp only [xF, fSl, resl]
  rw [if_pos (by simp), if_pos ⟨h0, h1, Int.le_refl _⟩]
  simp [adv]
/-- An element more. -/
theorem hAppendL_i {by' k n : Nat} {x : Value} (h : σ.get b = some ⟨pre ++ L, true⟩) (ho : pre.length = o) (hn : L.length = n) (hb : by' ≤ 1024) (hx : oneB x = true) (hl : n < 1073741823)
    (hk : ∀ id τ, σ.get id = none → τ.get id = some ⟨L ++ [x], true⟩ → Keep [b] σ τ → K (.slice (some ⟨id, 0, none⟩) (n + 1) 1) τ) : hAppendL 1 by' [x] [.slice (some ⟨b, o, none⟩) n 1, locS k 1 1] K σ := by
  subst ho; subst hn
  simp only [hAppendL, locS, app, h]
  rw [if_pos ⟨hb, rfl, by simp [hx]⟩, if_pos ⟨trivial, trivial, by decide, by simp, by omega⟩, List.drop_left]
  intro id hid
  have hne : id ≠ b := by rintro rfl; rw [h] at hid; cases hid
  refine hk id _ hid (by simp [Mem.del, Mem.set, hne]) fun i c hi hn => ?_
  simp only [List.mem_cons, List.not_mem_nil, or_false] at hn
  have : i ≠ id := by rintro rfl; rw [hid] at hi; cases hi
  simp [Mem.del, Mem.set, hn, this, hi]
/-- All of another row more. -/
theorem hAppend_i {by' n b2 o2 n2 : Nat} {p2 L2 q2 : List Value} {rw2 : Bool} (h : σ.get b = some ⟨pre ++ L, true⟩) (ho : pre.length = o) (hn : L.length = n) (hb : by' ≤ 1024) (h2 : σ.get b2 = some ⟨p2 ++ L2 ++ q2, rw2⟩)
    (ho2 : p2.length = o2) (hn2 : L2.length = n2) (hx : L2.all oneB = true) (hl : n + n2 < 1073741823)
    (hk : ∀ id τ, σ.get id = none → τ.get id = some ⟨L ++ L2, true⟩ → Keep [b] σ τ → K (.slice (some ⟨id, 0, none⟩) (n + n2) 1) τ) : hAppend 1 by' [.slice (some ⟨b, o, none⟩) n 1, .slice (some ⟨b2, o2, none⟩) n2 1] K σ := by
  subst ho; subst hn; subst ho2; subst hn2
  have e : srcOf σ 1 (.slice (some ⟨b2, p2.length, none⟩) L2.length 1) = some L2 := by
    simp only [srcOf, h2]
    rw [if_pos (by simp), List.append_assoc, List.drop_left, Nat.mul_one, List.take_left]
  simp only [hAppend, e, app, h, lenS]
  rw [if_pos ⟨hb, hx⟩, if_pos ⟨trivial, trivial, by decide, by simp, by omega⟩, List.drop_left]
  intro id hid
  have hne : id ≠ b := by rintro rfl; rw [h] at hid; cases hid
  refine hk id _ hid (by simp [Mem.del, Mem.set, hne]) fun i c hi hn => ?_
  simp only [List.mem_cons, List.not_mem_nil, or_false] at hn
  have : i ≠ id := by rintro rfl; rw [hid] at hi; cases hi
  simp [Mem.del, Mem.set, hn, this, hi]
end
theorem gBuild1 {x : Value} {l z : List Value} (h : cellsOf x 1 = some [x]) (hz : z.length = 1) : gBuildS 1 1 z [0] [x] l = some [x] := by
  match z, hz with
  | [y], _ => simp [gBuildS, fillL, h, lay]
end Go.Fl
