/- From a law's reading to its walk: arguments as they come in. No condition. -/
import Derived.Test.YthibiempfkcinaaFlL
import Derived.ChangeArms
import Derived.OpenShut
import Derived.DataReads
namespace Go.Fl
open Go Go.RowKit
set_option linter.unusedVariables false
set_option linter.unusedSimpArgs false

/-- A cell of a flat type: an integer that fits its kind, a bool. -/
def FlatV : Option IntKind → Value → Prop
  | some k, v => ∃ n, v = .int k n ∧ (Lit.int k n).wf = true
  | none, v => ∃ b, v = .bool b

inductive FlatL : List (Option IntKind) → List Value → Prop
  | nil : FlatL [] []
  | cons {k : Option IntKind} {v : Value} {ks : List (Option IntKind)} {vs : List Value} (h : FlatV k v) (hs : FlatL ks vs) : FlatL (k :: ks) (v :: vs)

theorem FlatL.len {ks : List (Option IntKind)} {vs : List Value} (h : FlatL ks vs) : vs.length = ks.length := by
  induction h with
  | nil => rfl
  | cons _ _ ih => simp [ih]

theorem FlatL.app {ks ks' : List (Option IntKind)} {vs vs' : List Value} (h : FlatL ks vs) (h' : FlatL ks' vs') : FlatL (ks ++ ks') (vs ++ vs') := by
  induction h with
  | nil => exact h'
  | cons a _ ih => exact .cons a ih

theorem FlatL.get {ks : List (Option IntKind)} {vs : List Value} (h : FlatL ks vs) : ∀ {i : Nat} {v : Value}, vs[i]? = some v → ∃ k, ks[i]? = some k ∧ FlatV k v := by
  induction h with
  | nil => intro i v hi; simp at hi
  | cons a _ ih =>
    intro i v hi
    cases i with
    | zero => simp at hi; subst hi; exact ⟨_, rfl, a⟩
    | succ i => simp at hi; simpa using ih hi

theorem FlatV.V {ρ : Ren} {k : Option IntKind} {v : Value} (h : FlatV k v) : V ρ v v := by
  cases k with
  | none => obtain ⟨b, rfl⟩ := h; exact .bool b
  | some k => obtain ⟨n, rfl, _⟩ := h; exact .int k n

theorem FlatL.VL {ρ : Ren} {ks : List (Option IntKind)} {vs : List Value} (h : FlatL ks vs) : VL ρ vs vs := by
  induction h with
  | nil => exact .nil
  | cons a _ ih => exact .cons a.V ih

def flatFsK (P : Program) (f : TypeId → Option (List (Option IntKind))) : List Field → Nat → Option (List (Option IntKind))
  | [], _ => some []
  | g :: gs, off => match f g.type, flatFsK P f gs (off + P.cellsOf g.type) with
    | some ks, some r => if (Nat.beq g.offset off && Nat.beq (P.cellsOf g.type) ks.length) = true then some (ks ++ r) else none
    | _, _ => none

/-- The cells of a flat type. -/
def flatK (P : Program) : Nat → TypeId → Option (List (Option IntKind))
  | 0, _ => none
  | d + 1, t => match P.underlying t with
    | some .bool => some [none]
    | some (.int k) => some [some k]
    | some (.struct fs) => match flatFsK P (flatK P d) fs.toList 0 with
      | some ks => if Nat.beq (P.cellsOf t) ks.length = true then some ks else none
      | none => none
    | some (.array n e) => match flatK P d e with
      | some ks => if (Nat.beq (P.cellsOf e) ks.length && Nat.beq (P.cellsOf t) (n * ks.length)) = true then some (List.replicate n ks).flatten else none
      | none => none
    | _ => none

section
variable {H : Type} {enc : TypeId × Value → H} {P : Program} {w : World} {base : Nat} {spare : Nat → Bool} {held : Bool}

theorem flatFsL {f : TypeId → Option (List (Option IntKind))} {cs : List Value} : ∀ {fs : List Field} {off : Nat} {K : List (Option IntKind)},
    (∀ g ∈ fs, ∀ ks, f g.type = some ks → FlatL ks ((cs.drop g.offset).take (P.cellsOf g.type))) → flatFsK P f fs off = some K → FlatL K ((cs.drop off).take K.length)
  | [], off, K, _, h => by simp [flatFsK] at h; subst h; simpa using FlatL.nil
  | g :: gs, off, K, hf, h => by
    unfold flatFsK at h
    split at h
    · rename_i ks r h1 h2
      split at h
      · rename_i hb
        simp only [Bool.and_eq_true] at hb
        have e1 := Nat.eq_of_beq_eq_true hb.1
        have e2 := Nat.eq_of_beq_eq_true hb.2
        cases h
        have a := hf g (by simp) ks h1
        rw [e1, e2] at a
        have b := flatFsL (fun g hg => hf g (by simp [hg])) h2
        rw [e2] at b
        rw [List.length_append, List.take_add, List.drop_drop]
        exact a.app b
      · cases h
    · cases h

theorem flatRep {ks : List (Option IntKind)} {cs : List Value} : ∀ {n off : Nat}, (∀ i, i < n → FlatL ks ((cs.drop ((off + i) * ks.length)).take ks.length)) →
    FlatL (List.replicate n ks).flatten ((cs.drop (off * ks.length)).take (n * ks.length))
  | 0, off, _ => by simpa using FlatL.nil
  | n + 1, off, h => by
    rw [List.replicate_succ, List.flatten_cons, Nat.succ_mul, Nat.add_comm (n * ks.length), List.take_add, List.drop_drop]
    refine FlatL.app (h 0 (by omega)) ?_
    have := flatRep (n := n) (off := off + 1) (fun i hi => by have := h (i + 1) (by omega); rwa [show off + (i + 1) = off + 1 + i by omega] at this)
    rwa [Nat.succ_mul] at this

theorem trod_flat : ∀ {d : Nat} {t : TypeId} {ks : List (Option IntKind)} {fuel : Nat} {cs : List Value} {x : DataW H × List MemPlace}, flatK P d t = some ks →
    DataW.trod enc P w base spare held fuel t cs = some x → FlatL ks cs := by
  intro d
  induction d with
  | zero => intro t ks fuel cs x hk; cases hk
  | succ d ih =>
    intro t ks fuel cs x hk h
    unfold flatK at hk
    split at hk
    · rename_i ht
      obtain ⟨b, rfl, _⟩ := DataW.trod_bool ht h
      cases hk
      exact .cons ⟨b, rfl⟩ .nil
    · rename_i k ht
      obtain ⟨n, rfl, _, hw⟩ := DataW.trod_int ht h
      cases hk
      exact .cons ⟨n, rfl, hw⟩ .nil
    · rename_i fs ht
      split at hk
      · rename_i K hK
        split at hk
        · rename_i hb
          have e := Nat.eq_of_beq_eq_true hb
          cases hk
          obtain ⟨xs, n, _, _, hl, hlen, hf⟩ := DataW.trod_struct ht h
          have := flatFsL (P := P) (cs := cs) (fun g hg ks hks => by
            obtain ⟨i, hi⟩ := List.getElem?_of_mem hg
            have hi' : fs[i]? = some g := by simpa using hi
            have h3 := hf i g hi'
            have hlt : i < xs.length := by rw [hlen]; exact (Array.getElem?_eq_some_iff.1 hi').1
            rw [List.getElem?_eq_getElem hlt] at h3
            exact ih hks h3) hK
          rw [List.drop_zero, List.take_of_length_le (by omega)] at this
          exact this
        · cases hk
      · cases hk
    · rename_i n e ht
      split at hk
      · rename_i K hK
        split at hk
        · rename_i hb
          simp only [Bool.and_eq_true] at hb
          have e1 := Nat.eq_of_beq_eq_true hb.1
          have e2 := Nat.eq_of_beq_eq_true hb.2
          cases hk
          obtain ⟨xs, m, _, _, hl, hlen, hf⟩ := DataW.trod_array ht h
          have := flatRep (ks := K) (cs := cs) (n := n) (off := 0) (fun i hi => by
            have h3 := hf i hi
            rw [List.getElem?_eq_getElem (by omega)] at h3
            have := ih hK h3
            rw [e1] at this
            rwa [Nat.zero_add])
          rw [Nat.zero_mul, List.drop_zero, List.take_of_length_le (by omega)] at this
          exact this
        · cases hk
      · cases hk
    · cases hk

/-- A slice of flat things that came in: where its elements lie. -/
def InW (w : World) (a : Addr) (room n : Nat) (cells : List Value) : Prop :=
  a.spot = none ∧ cells.length = n ∧ n ≤ room ∧ ∃ arr el fz, w.heap[a.block]? = some (.cells arr el fz) ∧ a.off + room ≤ arr.size ∧ win arr a.off n = cells

theorem trod_sl {d : Nat} {t e : TypeId} {ks : List (Option IntKind)} {fuel : Nat} {cs : List Value} {x : DataW H × List MemPlace} (ht : P.underlying t = some (.slice e)) (hk : flatK P d e = some ks)
    (hc : P.cellsOf e = ks.length) (hpos : 0 < ks.length) (h : DataW.trod enc P w base (fun _ => true) held fuel t cs = some x) :
    cs = [.slice none 0 0] ∨ ∃ (a : Addr) (len cap : Nat) (cells : List Value), cs = [.slice (some a) len cap] ∧ len ≤ cap ∧ cap ≤ maxLen ∧ FlatL (List.replicate len ks).flatten cells ∧
      (cap = 0 ∨ InW w a (cap * ks.length) (len * ks.length) cells) := by
  rcases DataW.trod_slice ht h with ⟨h0, _⟩ | ⟨a, len, cap, elems, rest, n, _, rfl, rfl, hb, hl, hm, hlen, hel, hsp, _⟩
  · exact .inl h0
  right
  obtain ⟨hrl, hr⟩ := hsp rfl
  have each : ∀ i, i < cap → ∃ cs, w.cells? base (a.add (i * ks.length)) ks.length = some cs ∧ FlatL ks cs := by
    intro i hi
    have : ∃ y, (w.cells? base (a.add (i * P.cellsOf e)) (P.cellsOf e)).bind (DataW.trod enc P w base (fun _ => true) held n e) = some y := by
      by_cases hi' : i < len
      · exact ⟨_, (hel i hi').trans (List.getElem?_eq_getElem (by omega))⟩
      · have := hr (i - len) (by omega)
        rw [show len + (i - len) = i by omega] at this
        exact ⟨_, this.trans (List.getElem?_eq_getElem (by omega))⟩
    obtain ⟨y, hy⟩ := this
    rw [Option.bind_eq_some_iff] at hy
    obtain ⟨cs, h1, h2⟩ := hy
    rw [hc] at h1
    exact ⟨cs, h1, trod_flat hk h2⟩
  rcases Nat.eq_zero_or_pos cap with h0 | h0
  · have : len = 0 := by omega
    subst this
    exact ⟨a, 0, cap, [], rfl, hl, hm, .nil, .inl h0⟩
  · obtain ⟨c0, h1, h2⟩ := each 0 h0
    rw [Nat.zero_mul] at h1
    have h3 := (World.cells?_some h1).2.2 0 hpos
    have hl0 := (World.cells?_some h1).2.1
    rw [List.getElem?_eq_getElem (by omega)] at h3
    have ea : (a.add 0).add 0 = a := rfl
    rw [ea] at h3
    unfold World.cell? at h3
    split at h3
    · rename_i arr el fz hh
      split at h3
      · cases h3
      · rename_i hspot
        have hs : a.spot = none := by simpa using hspot
        have cellAt : ∀ k, k < cap * ks.length → ∃ v, arr[a.off + k]? = some v := by
          intro k hk'
          have hi : k / ks.length < cap := by rw [Nat.div_lt_iff_lt_mul hpos]; exact hk'
          obtain ⟨cs, q1, q2⟩ := each _ hi
          have q3 := (World.cells?_some q1).2.2 (k % ks.length) (Nat.mod_lt _ hpos)
          have q4 := (World.cells?_some q1).2.1
          rw [List.getElem?_eq_getElem (by rw [q4]; exact Nat.mod_lt _ hpos)] at q3
          have ee : (a.add (k / ks.length * ks.length)).add (k % ks.length) = ⟨a.block, a.off + k, none⟩ := by
            have hk2 : k / ks.length * ks.length + k % ks.length = k := by rw [Nat.mul_comm]; exact Nat.div_add_mod k ks.length
            unfold Addr.add
            obtain ⟨ab, ao, as⟩ := a
            simp only at hs; subst hs
            split <;> split <;> simp only [Addr.mk.injEq, true_and, and_true] <;> omega
          rw [ee] at q3
          unfold World.cell? at q3
          rw [hh] at q3
          exact ⟨_, by simpa using q3⟩
        have hsize : a.off + cap * ks.length ≤ arr.size := by
          have hp : 0 < cap * ks.length := Nat.mul_pos h0 hpos
          obtain ⟨v, hv⟩ := cellAt (cap * ks.length - 1) (by omega)
          have := (Array.getElem?_eq_some_iff.1 hv).1
          omega
        have hle : len * ks.length ≤ cap * ks.length := Nat.mul_le_mul_right _ hl
        refine ⟨a, len, cap, win arr a.off (len * ks.length), rfl, hl, hm, ?_, .inr ⟨hs, ?_, hle, arr, el, fz, hh, hsize, rfl⟩⟩
        · have := flatRep (ks := ks) (cs := arr.toList.drop a.off) (n := len) (off := 0) (fun i hi => by
            obtain ⟨cs, q1, q2⟩ := each i (by omega)
            have : (((arr.toList.drop a.off).drop ((0 + i) * ks.length)).take ks.length) = cs := by
              have q4 := (World.cells?_some q1).2.1
              have hmul : i * ks.length + ks.length ≤ cap * ks.length := by rw [← Nat.succ_mul]; exact Nat.mul_le_mul_right _ (by omega)
              apply List.ext_getElem?
              intro j
              by_cases hj : j < ks.length
              · have q3 := (World.cells?_some q1).2.2 j hj
                have ee : (a.add (i * ks.length)).add j = ⟨a.block, a.off + (i * ks.length + j), none⟩ := by
                  unfold Addr.add
                  obtain ⟨ab, ao, as⟩ := a
                  simp only at hs; subst hs
                  split <;> split <;> simp only [Addr.mk.injEq, true_and, and_true] <;> omega
                rw [ee] at q3
                unfold World.cell? at q3
                rw [hh] at q3
                rw [← q3]
                simp [List.getElem?_take, hj, List.getElem?_drop]
                congr 1; omega
              · rw [List.getElem?_eq_none (by simp; omega), List.getElem?_eq_none (by omega)]
            rw [this]; exact q2)
          simpa [win] using this
        · simp [win]; omega
    · cases h3
end

/-! ### The store at the beginning -/

def Mem.empty : Mem := ⟨fun _ => none, 0, fun _ _ => rfl⟩

/-- A slice in the store: its length, its cells. -/
inductive Sl (σ : Mem) (es : Nat) : Nat → List Value → Value → Prop
  | nil : Sl σ es 0 [] (.slice none 0 0)
  | mk {b n : Nat} {cells : List Value} (hl : cells.length = n * es) (h : n = 0 ∨ ∃ rw, σ.get b = some ⟨cells, rw⟩) : Sl σ es n cells (.slice (some ⟨b, 0, none⟩) n es)

theorem Sl.mono {σ τ : Mem} (h : ∀ i b, σ.get i = some b → τ.get i = some b) {es n : Nat} {cells : List Value} {v : Value} (s : Sl σ es n cells v) : Sl τ es n cells v := by
  cases s with
  | nil => exact .nil
  | mk hl hg => exact .mk hl (hg.imp id fun ⟨r, q⟩ => ⟨r, h _ _ q⟩)

/-- The arguments, in the store and in the world; nothing may be written. -/
structure Opn (w : World) (ρ : Ren) (σ : Mem) (as as' : List Value) : Prop where
  sim : Sim ρ σ w
  vl : VL ρ as as'
  ro : ∀ id b, σ.get id = some b → b.rw = false

theorem Opn.nil {w : World} : Opn w (fun _ => none) Mem.empty [] [] :=
  ⟨⟨fun _ _ h => (by cases h), fun _ _ _ _ _ _ _ h => (by cases h), 0, fun _ _ => rfl⟩, .nil, fun _ _ h => (by cases h)⟩

theorem Opn.cell {w : World} {ρ : Ren} {σ : Mem} {as as' : List Value} {k : Option IntKind} {v : Value} (h : Opn w ρ σ as as') (hv : FlatV k v) : Opn w ρ σ (v :: as) (v :: as') :=
  ⟨h.sim, .cons hv.V h.vl, h.ro⟩

theorem Opn.agg {w : World} {ρ : Ren} {σ : Mem} {as as' : List Value} {ks : List (Option IntKind)} {cs : Array Value} (h : Opn w ρ σ as as') (hv : FlatL ks cs.toList) : Opn w ρ σ (.agg cs :: as) (.agg cs :: as') := by
  refine ⟨h.sim, .cons (.agg rfl fun i v v' h1 h2 => ?_) h.vl, h.ro⟩
  rw [h1] at h2; cases h2
  obtain ⟨k, _, hk⟩ := hv.get (i := i) (v := v) (by simpa using h1)
  exact hk.V

theorem Opn.nilS {w : World} {ρ : Ren} {σ : Mem} {as as' : List Value} (h : Opn w ρ σ as as') : Opn w ρ σ (.slice none 0 0 :: as) (.slice none 0 0 :: as') :=
  ⟨h.sim, .cons .nilS h.vl, h.ro⟩

theorem Opn.slice {w : World} {ρ : Ren} {σ : Mem} {as as' : List Value} (h : Opn w ρ σ as as') {a : Addr} {len cap es : Nat} {ks : List (Option IntKind)} {cells : List Value} (hl : len ≤ cap) (hf : FlatL ks cells)
    (hk : ks.length = len * es) (hi : cap = 0 ∨ InW w a (cap * es) (len * es) cells) :
    ∃ ρ' σ' s, Opn w ρ' σ' (s :: as) (.slice (some a) len cap :: as') ∧ Sl σ' es len cells s ∧ ∀ i b, σ.get i = some b → σ'.get i = some b := by
  rcases hi with h0 | ⟨hs, hn, hle, arr, el, fz, hh, hsize, hw⟩
  · have : len = 0 := by omega
    subst this; subst h0
    refine ⟨ρ, σ, .slice (some ⟨0, 0, none⟩) 0 es, ⟨h.sim, .cons .slE h.vl, h.ro⟩, .mk (by rw [hf.len, hk]) (.inl rfl), fun _ _ q => q⟩
  · obtain ⟨N, hN⟩ := σ.fin
    obtain ⟨M, hM⟩ := h.sim.s3
    have hfr : σ.get (N + M) = none := hN _ (by omega)
    have hρ : ρ (N + M) = none := hM _ (by omega)
    let ρ' : Ren := fun i => if i = N + M then some ⟨a.block, a.off, cap * es⟩ else ρ i
    have hle' : ρ.le ρ' := by
      intro i e he
      show (if i = N + M then _ else _) = _
      split
      · rename_i q; rw [q, hρ] at he; cases he
      · exact he
    refine ⟨ρ', σ.set (N + M) ⟨cells, false⟩, .slice (some ⟨N + M, 0, none⟩) len es, ⟨⟨?_, ?_, N + M + 1, ?_⟩, ?_, ?_⟩, .mk (by rw [hn]) (.inr ⟨false, by simp [Mem.get_set]⟩), ?_⟩
    · intro id blk hg
      rw [Mem.get_set] at hg
      split at hg
      · rename_i q; cases hg
        refine ⟨⟨a.block, a.off, cap * es⟩, arr, el, fz, by simp [ρ', q], hh, hsize, by rw [hn]; exact hle, ?_, fun q => (by cases q)⟩
        rw [show win arr a.off cells.length = cells by rw [hn]; exact hw]
        exact hf.VL
      · rename_i q
        obtain ⟨e, arr', el', fz', g1, g2, g3, g4, g5, g6⟩ := h.sim.s1 _ _ hg
        exact ⟨e, arr', el', fz', hle' _ _ g1, g2, g3, g4, g5.mono hle', g6⟩
    · intro i j bi bj ei ej hij h1 h2 hrw h3 h4
      rw [Mem.get_set] at h1
      split at h1
      · cases h1; cases hrw
      · have := h.ro _ _ h1
        rw [this] at hrw; cases hrw
    · intro i hi
      show (if i = N + M then _ else _) = _
      rw [if_neg (by omega)]
      exact hM _ (by omega)
    · refine .cons ?_ (h.vl.mono hle')
      obtain ⟨ab, ao, as⟩ := a
      simp only at hs; subst hs
      have : V ρ' (.slice (some ⟨N + M, 0, none⟩) len es) (.slice (some ⟨ab, ao + 0, none⟩) len cap) := V.sl (e := ⟨ab, ao, cap * es⟩) (by simp [ρ']) hl (by simp)
      simpa using this
    · intro id b hg
      rw [Mem.get_set] at hg
      split at hg
      · cases hg; rfl
      · exact h.ro _ _ hg
    · intro i b hg
      rw [Mem.get_set]
      split
      · rename_i q; rw [q, hfr] at hg; cases hg
      · exact hg

/-- The walk of a law. -/
theorem Opn.run {P : Program} {f : Nat} {c : Cls} {S : Spec} {w : World} {ρ : Ren} {σ : Mem} {as as' : List Value} (hE : Entry P f c S) (h : Opn w ρ σ as as')
    (hS : S as (fun v _ => v = .bool true) σ) : Calls P f as'.toArray w fun e w' => e = .returned (.bool true) ∧ Below w.heap.size w w' := by
  refine (hE.sound as _ σ hS ρ w as' h.sim h.vl).mono ?_
  rintro e w' ⟨v, v', ρ', σ', rfl, rfl, hv, hs, st⟩
  refine ⟨by rw [hv.bool_inv], st.same.os, st.same.tape, st.same.output, st.size, fun k hk => st.keep k hk ?_⟩
  rintro ⟨id, blk, e, h1, h2, _⟩
  have := h.ro _ _ h1
  rw [h2 rfl] at this
  cases this

end Go.Fl
