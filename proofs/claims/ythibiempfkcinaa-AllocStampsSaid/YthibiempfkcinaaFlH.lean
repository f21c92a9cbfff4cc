/- To append, to call: in the world as the reading says. No condition. -/
import Derived.Test.YthibiempfkcinaaFlG
namespace Go.Fl
open Go
set_option linter.unusedVariables false
set_option linter.unusedSimpArgs false

section
variable {C : Cx} {ρ0 : Ren} {σ0 : Mem} {w0 : World} {lm : Nat → Option Nat} {ρ : Ren} {s : St} {σ : Mem} {a : Act} {w : World}

theorem Sim.heap {w' : World} (h : Sim ρ σ w) (hh : w'.heap = w.heap) : Sim ρ σ w' :=
  ⟨fun id blk hg => by rw [hh]; exact h.s1 id blk hg, h.s2, h.s3⟩

/-- What append does where there is room. -/
theorem run_append_in {P : Program} {t u e : TypeId} (ht : P.underlying t = some (.slice e)) (hu : ∃ e', P.underlying u = some (.slice e')) (hk : tKnown P e = true)
    {ty : TypeId} {base : Option Addr} {sl sc n : Nat} {x' : Value} {new' : List Value} (hn : ∃ a c, x' = .slice a n c)
    (hf : (Builtin.firstCells (tSz P e) n x').run P w = .ok new'.toArray w) (hle : sl + n ≤ sc) {w' : World}
    (hst : ∀ ad, base = some ad → (storeCells (ad.add (sl * tSz P e)) new').run P w = .ok () w') (hno : base = none → w' = w) :
    (Builtin.append_ #[t, u] ty #[.slice base sl sc, x']).run P w = .ok (.slice base (sl + n) sc) w' := by
  obtain ⟨e', hu⟩ := hu
  obtain ⟨a, c, rfl⟩ := hn
  simp only [Builtin.append_, Sem.run_bind, run_underlying' ht, Result.andThen_ok, run_sizeOf' hk, run_underlying' hu, Sem.run_pure, List.getElem?_toArray, List.getElem?_cons_zero, List.getElem?_cons_succ]
  simp only [Builtin.lenOf, Sem.run_bind, Sem.run_pure, Result.andThen_ok, Bool.not_false, if_true, hf, Sem.run_ite, hle, Bool.false_eq_true, if_false]
  cases base with
  | none => simp only [Result.andThen_ok, Sem.run_pure, Sem.run_bind, hno rfl]
  | some ad => simp only [Result.andThen_ok, Sem.run_pure, Sem.run_bind, hst ad rfl]

theorem run_append_out {P : Program} {t u e : TypeId} (ht : P.underlying t = some (.slice e)) (hu : ∃ e', P.underlying u = some (.slice e')) (hk : tKnown P e = true)
    {i : TypeInfo} {zv : Value} (hi : P.info? e = some i) (hz : i.zero = some zv) (hzs : zv.cells.size = tSz P e)
    {ty : TypeId} {base : Option Addr} {sl sc n : Nat} {x' : Value} {new' old' : List Value} (hn : ∃ a c, x' = .slice a n c)
    (hf : ∀ w' : World, w'.heap = w.heap → (Builtin.firstCells (tSz P e) n x').run P w' = .ok new'.toArray w') (hgt : sc < sl + n) (hb : sl + n ≤ 1073741824) (hby : i.bytes ≤ 1024)
    (ho : ∀ w' : World, w'.heap = w.heap → (Builtin.firstCells (tSz P e) sl (.slice base sl sc)).run P w' = .ok old'.toArray w') :
    ∃ cap arr w', sl + n ≤ cap ∧ arr.toList.take (old'.length + new'.length) = old' ++ new' ∧ arr.size = old'.length + new'.length + (cap - (sl + n)) * tSz P e ∧ Push w (.cells arr e (0, 0)) w' ∧
      (Builtin.append_ #[t, u] ty #[.slice base sl sc, x']).run P w = .ok (.slice (some ⟨w.heap.size, 0, none⟩) (sl + n) cap) w' := by
  obtain ⟨e', hu⟩ := hu
  obtain ⟨a, c, rfl⟩ := hn
  let q : Question := .appendCap (sl + n) sc e
  let cap := q.cut (w.tape w.drawn q)
  let w1 : World := { w with drawn := w.drawn + 1 }
  have hw1 : w1.heap = w.heap := rfl
  have hcap : sl + n ≤ cap := by
    show sl + n ≤ q.cut (w.tape w.drawn q)
    simp [q, Question.cut]
  have hnf : q.forced = false := rfl
  have hnext : ¬ (Builtin.nextslicecap (sl + n) sc * i.bytes > 2 ^ 48) := by
    have h1 := nextcap_le hgt
    have : Builtin.nextslicecap (sl + n) sc * i.bytes ≤ (2 * 1073741824 + 1000) * 1024 := Nat.mul_le_mul (by omega) hby
    omega
  have hnle : ¬ sl + n ≤ sc := by omega
  refine ⟨cap, old'.toArray ++ new'.toArray ++ Builtin.zeroCells zv.cells (cap - (sl + n)), { w1 with heap := w1.heap.push (.cells (old'.toArray ++ new'.toArray ++ Builtin.zeroCells zv.cells (cap - (sl + n))) e) }, hcap, ?_, ?_, ?_, ?_⟩
  · simp only [Array.toList_append]
    exact List.take_left' (by simp)
  · simp [Builtin.zeroCells, hzs]
  · exact ⟨⟨rfl, rfl, rfl⟩, by simp [w1], fun k hk => by simp [w1, Array.getElem?_push, Nat.ne_of_lt hk], by simp [w1]⟩
  · simp only [Builtin.append_, Sem.run_bind, run_underlying' ht, Result.andThen_ok, run_sizeOf' hk, run_underlying' hu, Sem.run_pure, List.getElem?_toArray, List.getElem?_cons_zero, List.getElem?_cons_succ]
    have hmax : ¬ (((sl + n : Nat) : Int) > IntKind.i64.max ∧ (False ∨ i.bytes = 0)) := by
      have : IntKind.i64.max = 9223372036854775807 := by decide
      rw [this]; omega
    simp only [Builtin.lenOf, Sem.run_bind, Sem.run_pure, Result.andThen_ok, Bool.not_false, if_true, Sem.run_ite, hnle, Bool.false_eq_true, if_false, run_typeInfo' hi, hmax, hnext, run_choose]
    have hq : (Question.appendCap (sl + n) sc e).forced = false := rfl
    simp only [hq, Bool.false_eq_true, if_false, Result.andThen_ok, run_askRoom]
    rw [ho _ hw1, Result.andThen_ok, hf _ hw1]
    simp only [Result.andThen_ok, run_zeroValue' hi hz, newRow, Sem.run_bind, run_newObj, Sem.run_pure]
    rfl


theorem oneB_of {P : Program} {cells : List Value} : True := trivial

/-- A slice's block goes, another one comes in its place. -/
theorem Sim.regrow (h : Sim ρ σ w) {b : Nat} {blk : Blk} (hg : σ.get b = some blk) (hrw : blk.rw = true) {e : RE} (he : ρ b = some e) {id : Nat} (h1 : σ.get id = none) (h2 : ρ id = none)
    {w' : World} {o : Nat} {c : List Value} {arr : Array Value} {el : TypeId} (hu : Upd w e.blk (.cells arr el (0, 0)) w') (hsz : e.sh + e.cap ≤ arr.size) (ho : o ≤ e.cap) (hc : c.length ≤ e.cap - o)
    (hv : VL ρ c (win arr (e.sh + o) c.length)) :
    ∃ ρ', ρ' id = some ⟨e.blk, e.sh + o, e.cap - o⟩ ∧ Sim ρ' ((σ.set id ⟨c, true⟩).del b) w' ∧ Stp ρ σ w ρ' ((σ.set id ⟨c, true⟩).del b) w' := by
  have hbi : b ≠ id := fun e => by rw [e, h1] at hg; cases hg
  have hle : ρ.le (fun j => if j = id then some ⟨e.blk, e.sh + o, e.cap - o⟩ else ρ j) := fun j ej hj => by
    dsimp only
    split
    · rename_i hji; subst hji; rw [h2] at hj; cases hj
    · exact hj
  have hget : ∀ {j : Nat} {bj : Blk}, ((σ.set id ⟨c, true⟩).del b).get j = some bj → (j = id ∧ bj = ⟨c, true⟩) ∨ (j ≠ id ∧ j ≠ b ∧ σ.get j = some bj) := by
    intro j bj hj
    rw [Mem.get_del] at hj
    split at hj
    · cases hj
    · rename_i hjb
      rw [Mem.get_set] at hj
      split at hj
      · rename_i hji; cases hj; exact .inl ⟨hji, rfl⟩
      · rename_i hji; exact .inr ⟨hji, hjb, hj⟩
  have hown : ∀ r x, Own r (fun j => if j = id then some ⟨e.blk, e.sh + o, e.cap - o⟩ else ρ j) ((σ.set id ⟨c, true⟩).del b) x → Own r ρ σ x := by
    intro r x hx
    obtain ⟨j, bj, ej, q1, q2, q3, q4⟩ := hx
    rcases hget q1 with ⟨rfl, rfl⟩ | ⟨n1, n2, q5⟩
    · simp at q3; subst q3
      exact ⟨b, blk, e, hg, fun _ => hrw, he, q4⟩
    · dsimp only at q3; rw [if_neg n1] at q3
      exact ⟨j, bj, ej, q5, q2, q3, q4⟩
  refine ⟨fun j => if j = id then some ⟨e.blk, e.sh + o, e.cap - o⟩ else ρ j, by simp, ⟨fun j bj hj => ?_, fun x y bx bY ex ey hn hx hy hr ex' ey' => ?_, ?_⟩, ⟨hle, hu.same, by rw [hu.size]; exact Nat.le_refl _, fun x _ hx => hu.rest x fun hh => hx ⟨b, blk, e, hg, fun _ => hrw, he, hh.symm⟩, fun r x _ hx => hown r x hx⟩⟩
  · rcases hget hj with ⟨rfl, rfl⟩ | ⟨n1, n2, q5⟩
    · exact ⟨⟨e.blk, e.sh + o, e.cap - o⟩, arr, el, (0, 0), by simp, hu.here, by simp only; omega, hc, hv.mono hle, fun _ => rfl⟩
    · obtain ⟨e2, arr2, el2, fz2, r1, r2, r3, r4, r5, r6⟩ := h.s1 _ _ q5
      have : e2.blk ≠ e.blk := fun hh => h.s2 _ _ _ _ _ _ (Ne.symm n2) hg q5 hrw he r1 hh.symm
      exact ⟨e2, arr2, el2, fz2, by simp [n1, r1], by rw [hu.rest _ this]; exact r2, r3, r4, r5.mono hle, r6⟩
  · rcases hget hx with ⟨rfl, rfl⟩ | ⟨n1, n2, q5⟩
    · rcases hget hy with ⟨rfl, rfl⟩ | ⟨m1, m2, q6⟩
      · exact absurd rfl hn
      · simp at ex'; subst ex'
        rw [if_neg m1] at ey'
        exact fun hh => h.s2 _ _ _ _ _ _ (Ne.symm m2) hg q6 hrw he ey' hh
    · rw [if_neg n1] at ex'
      rcases hget hy with ⟨rfl, rfl⟩ | ⟨m1, m2, q6⟩
      · simp at ey'; subst ey'
        exact fun hh => h.s2 _ _ _ _ _ _ (Ne.symm n2) hg q5 hrw he ex' hh.symm
      · rw [if_neg m1] at ey'
        exact h.s2 _ _ _ _ _ _ hn q5 q6 hr ex' ey'
  · obtain ⟨N, hN⟩ := h.s3
    exact ⟨N + id + 1, fun i hi => by rw [if_neg (by omega)]; exact hN i (by omega)⟩

theorem Stp.del (h : Stp ρ0 σ0 w0 ρ σ w) (b : Nat) : Stp ρ0 σ0 w0 ρ (σ.del b) w :=
  ⟨h.le, h.same, h.size, h.keep, fun r x hx ho => h.own r x hx ho.of_del⟩

theorem step_app {o : Oper} {t u e : TypeId} (ht : C.P.underlying t = some (.slice e)) (hu : ∃ e', C.P.underlying u = some (.slice e'))
    {z : List Value} (hz : tZero C.P e = some z) (hk : tKnown C.P e = true) {n : Nat} {new new' : List Value} {s0 x' : Value} {sv : Value} (hs : Sim ρ σ w) (hsv : V ρ sv s0)
    (hrun : ∀ v' w', (∃ ty, (Builtin.append_ #[t, u] ty #[s0, x']).run C.P w = .ok v' w') → (execOp a.eval o).run C.P w = .ok (.value v') w') (hty : ∃ ty : TypeId, True)
    (hby : C.P.bytesOf e ≤ 1024) (hnew : VL ρ new new') (hlen : new.length = n * tSz C.P e) (hone : ∀ v ∈ new', oneB v = true)
    (hf : ∀ w' : World, w'.heap = w.heap → (Builtin.firstCells (tSz C.P e) n x').run C.P w' = .ok new'.toArray w') (hn : ∃ a c, x' = .slice a n c)
    {K : Value → Mem → Prop} (h : app (tSz C.P e) n new sv K σ) : Step C.P o a ρ σ w K := by
  obtain ⟨ty, _⟩ := hty
  obtain ⟨i, zv, hi, hzv, hc, hsz, hvl, hl2, _⟩ := tZero_spec (ρ := ρ) hz
  have hzs : zv.cells.size = tSz C.P e := by rw [← hl2, ← hc]; simp
  have hby' : i.bytes ≤ 1024 := by simpa [Program.bytesOf, hi] using hby
  have hlen' : new'.length = n * tSz C.P e := by rw [← hnew.len]; exact hlen
  unfold app at h
  split at h
  · -- nil
    cases hsv
    split at h
    · rename_i h0
      subst h0
      refine step_value (v' := .slice none 0 0) (hrun _ _ ⟨ty, ?_⟩) h .nilS hs (Stp.refl _ _ _)
      have := run_append_in (P := C.P) (w := w) ht hu hk (ty := ty) (base := none) (sl := 0) (sc := 0) hn (hf w rfl) (by omega) (w' := w) (by simp) (fun _ => rfl)
      simpa using this
    · rename_i h0
      split at h
      · rename_i hb
        obtain ⟨cap, arr, w', q1, q2, q3, q4, q5⟩ := run_append_out (P := C.P) (w := w) ht hu hk hi hzv hzs (ty := ty) (base := none) (sl := 0) (sc := 0) (old' := []) hn hf (by omega) (by omega) hby'
          (fun w' _ => by simp [Builtin.firstCells])
        simp only [List.length_nil, Nat.zero_add, List.nil_append] at q1 q2 q3 q5
        have hcn : cap * tSz C.P e = n * tSz C.P e + (cap - n) * tSz C.P e := by rw [← Nat.add_mul]; congr 1; omega
        refine step_new hs h q4 ?_ (by rw [hlen, q3, hlen']; omega) (hrun _ _ ⟨ty, q5⟩) (fun ρ' id h => ?_)
        · unfold win
          rw [hnew.len, List.drop_zero, q2]; exact hnew
        · have := V.sl (ρ := ρ') (o := 0) (n := n) (c := tSz C.P e) (c' := cap) h q1 (by simp only; rw [q3, hlen']; omega)
          simpa using this
      · exact h.elim
  · rename_i b off len c0
    split at h
    · rename_i blk hg
      split at h
      · rename_i hb
        obtain ⟨hrw, rfl, hes, hcov, hbig⟩ := hb
        obtain ⟨e0, arr0, el0, fz, p1, p2, p3, p4, p5, p6⟩ := hs.s1 _ _ hg
        have := p6 hrw; subst this
        obtain ⟨id, f1, f2⟩ := fresh2 hs
        have hK := h id f1
        have hold : VL ρ (blk.cells.drop off) ((arr0.toList.drop (e0.sh + off)).take (len * tSz C.P e)) := by
          have := p5.drop off
          unfold win at this
          rw [List.drop_take, List.drop_drop] at this
          have e1 : blk.cells.length - off = len * tSz C.P e := by omega
          rw [e1] at this; exact this
        have holdlen : (blk.cells.drop off).length = len * tSz C.P e := by simp; omega
        -- growing into a block of the world's own
        have grow : ∀ {base : Option Addr} {sc : Nat}, s0 = .slice base len sc → sc < len + n →
            (∀ w' : World, w'.heap = w.heap → (Builtin.firstCells (tSz C.P e) len (.slice base len sc)).run C.P w' = .ok ((arr0.toList.drop (e0.sh + off)).take (len * tSz C.P e)).toArray w') → Step C.P o a ρ σ w K := by
          intro base sc hsv0 hlt hfc
          subst hsv0
          obtain ⟨cap, arr, w', q1, q2, q3, q4, q5⟩ := run_append_out (P := C.P) (w := w) ht hu hk hi hzv hzs (ty := ty) hn hf hlt (by omega) hby' hfc
          have hol : ((arr0.toList.drop (e0.sh + off)).take (len * tSz C.P e)).length = len * tSz C.P e := by rw [← hold.len]; exact holdlen
          rw [hol, hlen'] at q3
          rw [hol] at q2
          have hcn : cap * tSz C.P e = len * tSz C.P e + n * tSz C.P e + (cap - (len + n)) * tSz C.P e := by
            rw [← Nat.add_mul, ← Nat.add_mul]; congr 1; omega
          have hcl : (blk.cells.drop off ++ new).length = len * tSz C.P e + n * tSz C.P e := by rw [List.length_append, holdlen, hlen]
          obtain ⟨ρ', r1, r2, r3, _⟩ := hs.push (c := blk.cells.drop off ++ new) f1 f2 q4 (Nat.le_refl arr.size) (by rw [hcl, q3]; omega) (by
            unfold win
            rw [hcl, List.drop_zero, ← hlen', q2]
            exact hold.append hnew)
          refine step_value (hrun _ _ ⟨ty, q5⟩) hK ?_ (r2.del b) (r3.del b)
          have := V.sl (ρ := ρ') (o := 0) (n := len + n) (c := tSz C.P e) (c' := cap) r1 q1 (by simp only; rw [q3]; omega)
          simpa using this
        cases hsv with
        | @sl _ _ _ _ c' e2 hb hl hcap =>
          rw [p1] at hb; cases hb
          by_cases hroom : len + n ≤ c'
          · have hcn : (len + n) * tSz C.P e ≤ c' * tSz C.P e := Nat.mul_le_mul_right _ hroom
            rw [Nat.add_mul] at hcn
            obtain ⟨w', s1, s2, s3⟩ := run_storeCells (P := C.P) (b := e0.blk) (o := e0.sh + off + len * tSz C.P e) new' 0 w arr0 p2 hone (by omega)
            have hU : Upd w e0.blk (.cells (lay arr0.toList (e0.sh + off + len * tSz C.P e) new').toArray el0 (0, 0)) w' := by
              by_cases hne : new' = []
              · have := s3 hne; subst this; subst hne
                have e1 : (lay arr0.toList (e0.sh + off + len * tSz C.P e) []).toArray = arr0 := by apply Array.ext'; simp [lay]
                rw [e1]; exact ⟨Same.refl _, rfl, fun _ _ => rfl, p2⟩
              · simpa using s2 hne
            have hsz2 : (lay arr0.toList (e0.sh + off + len * tSz C.P e) new').length = arr0.size := by simp [lay]; omega
            obtain ⟨ρ', r1, r2, r3⟩ := hs.regrow hg hrw p1 f1 f2 (o := off) (c := blk.cells.drop off ++ new) hU (by simp only [List.size_toArray, hsz2]; exact p3) (by omega) (by
              rw [List.length_append, holdlen, hlen]; omega) (by
              have hcl : (blk.cells.drop off ++ new).length = len * tSz C.P e + n * tSz C.P e := by rw [List.length_append, holdlen, hlen]
              rw [hcl]
              have : win (lay arr0.toList (e0.sh + off + len * tSz C.P e) new').toArray (e0.sh + off) (len * tSz C.P e + n * tSz C.P e) = (arr0.toList.drop (e0.sh + off)).take (len * tSz C.P e) ++ new' := by
                unfold win lay
                simp only []
                rw [← hlen']
                apply List.ext_getElem
                · simp; omega
                · intro j hj hj'
                  simp only [List.getElem_take, List.getElem_drop, List.getElem_append, List.length_append, List.length_take, List.length_drop, Array.length_toList]
                  have m1 : min (e0.sh + off + len * tSz C.P e) arr0.size = e0.sh + off + len * tSz C.P e := by omega
                  have m2 : min (len * tSz C.P e) (arr0.size - (e0.sh + off)) = len * tSz C.P e := by omega
                  simp only [m1, m2]
                  have hj2 : j < len * tSz C.P e + new'.length := by
                    simp at hj; omega
                  by_cases c1 : j < len * tSz C.P e
                  · simp [c1, show e0.sh + off + j < e0.sh + off + len * tSz C.P e from by omega, show e0.sh + off + j < e0.sh + off + len * tSz C.P e + new'.length from by omega]
                  · simp [c1, show ¬ e0.sh + off + j < e0.sh + off + len * tSz C.P e from by omega, show e0.sh + off + j < e0.sh + off + len * tSz C.P e + new'.length from by omega]
                    congr 1; omega
              rw [this]
              exact hold.append hnew)
            refine step_value (hrun _ _ ⟨ty, run_append_in (P := C.P) ht hu hk hn (hf w rfl) hroom (w' := w') (fun ad had => ?_) (fun h => by cases h)⟩) hK ?_ r2 r3
            · cases had
              rw [add_none]; simpa using s1
            · have := V.sl (ρ := ρ') (o := 0) (n := len + n) (c := tSz C.P e) (c' := c') r1 hroom (by simp only; omega)
              simpa using this
          · refine grow rfl (by omega) fun w' hw => ?_
            have hq : w'.heap[e0.blk]? = some (.cells arr0 el0 (0, 0)) := by rw [hw]; exact p2
            simp only [Builtin.firstCells, loadCells]
            rw [run_loadCellsFrom hq _ 0 #[] (by omega)]
            simp
        | @slE _ _ _ a' =>
          by_cases h0 : n = 0
          · subst h0
            have hnil : new' = [] := by
              have : new'.length = 0 := by rw [hlen']; simp
              exact List.length_eq_zero_iff.1 this
            subst hnil
            obtain ⟨ρ', r1, r2, r3⟩ := hs.regrow hg hrw p1 f1 f2 (o := off) (c := blk.cells.drop off ++ new) (⟨Same.refl w, rfl, fun _ _ => rfl, p2⟩ : Upd w e0.blk (.cells arr0 el0 (0, 0)) w) p3 (by omega) (by
              rw [List.length_append, holdlen, hlen]; omega) (by
              have hcl : (blk.cells.drop off ++ new).length = 0 := by rw [List.length_append, holdlen, hlen]; simp
              have : blk.cells.drop off ++ new = [] := List.length_eq_zero_iff.1 hcl
              rw [this]; simp [win]; exact .nil)
            refine step_value (hrun _ _ ⟨ty, run_append_in (P := C.P) ht hu hk hn (hf w rfl) (Nat.le_refl _) (w' := w) (fun ad had => ?_) (fun h => by cases h)⟩) hK ?_ r2 r3
            · simp [storeCells]
            · simpa using V.slE
          · refine grow rfl (by omega) fun w' hw => ?_
            simp [Builtin.firstCells, loadCells, loadCellsFrom]
      · exact h.elim
    · exact h.elim
  · exact h.elim

end

end Go.Fl
