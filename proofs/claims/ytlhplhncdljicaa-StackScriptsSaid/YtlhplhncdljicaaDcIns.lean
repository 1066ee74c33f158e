/- slices.Insert of one element, told by rows: from what it does to memory. -/
import Derived.Test.YtlhplhncdljicaaDcXk
import Derived.Shelf.Spec.SlicesInsertGrow
set_option linter.unusedSimpArgs false
set_option linter.unusedVariables false
namespace Go.Dc
open Go.Lib Go.Proofs

/-- The elements with one more at a place. -/
def insF (F : Nat → AV) (i : Nat) (x : AV) : Nat → AV := fun j => bif Nat.blt j i then F j else bif Nat.beq j i then x else F (j - 1)
theorem insF_lt {F : Nat → AV} {i j : Nat} {x : AV} (h : j < i) : insF F i x j = F j := by unfold insF; rw [blt_t h]; rfl
theorem insF_eq {F : Nat → AV} {i : Nat} {x : AV} : insF F i x i = x := by
  unfold insF
  have : Nat.blt i i = false := by rw [Bool.eq_false_iff]; simp [Nat.blt_eq]
  rw [this, cond_false, Nat.beq_refl]; rfl
theorem insF_gt {F : Nat → AV} {i j : Nat} {x : AV} (h : i < j) : insF F i x j = F (j - 1) := by
  unfold insF
  have h1 : Nat.blt j i = false := by rw [Bool.eq_false_iff]; simp [Nat.blt_eq]; omega
  have h2 : Nat.beq j i = false := by rw [Bool.eq_false_iff]; intro e; have := Nat.eq_of_beq_eq_true e; omega
  rw [h1, h2]; rfl

theorem over_setCells {b : Nat} {t : TypeId} {fz : Nat × Nat} : ∀ (vs : List Value) (o : Nat) (w : World) (c : Array Value), w.heap[b]? = some (.cells c t fz) → o + vs.length ≤ c.size → Over w (w.setCells b o vs) b o vs
  | [], o, w, c, hb, hsz => ⟨rfl, rfl, rfl, rfl, fun _ _ => rfl, fun c t fz h => ⟨c, h, rfl, fun k => by simp; omega⟩⟩
  | v :: vs, o, w, cur, hb, hsz => by
    simp only [List.length_cons] at hsz
    have hb' := heap_setCell w b o v cur t fz hb
    have ho := over_setCells vs (o + 1) (w.setCell ⟨b, o, none⟩ v) _ hb' (by simp; omega)
    show Over w ((w.setCell ⟨b, o, none⟩ v).setCells b (o + 1) vs) b o (v :: vs)
    refine ⟨ho.os, ho.tape, ho.output, by rw [ho.size]; simp [World.setCell], fun k hk => ?_, fun c t' fz' h => ?_⟩
    · rw [ho.other k hk]
      exact Go.RowKit.Below.heap_setCell w _ _ k hk
    · rw [hb] at h
      cases h
      obtain ⟨c', hc1, hc2, hc3⟩ := ho.blk _ _ _ hb'
      refine ⟨c', hc1, by rw [hc2]; simp, fun k => ?_⟩
      rw [hc3 k]
      by_cases e : k = o
      · subst e
        rw [if_neg (by omega), if_pos (by simp)]
        have : k < cur.size := by omega
        simp [this]
      · by_cases e2 : o + 1 ≤ k ∧ k < o + 1 + vs.length
        · rw [if_pos e2, if_pos (by simp only [List.length_cons]; omega)]
          rw [show k - o = (k - (o + 1)) + 1 by omega]
          simp
        · rw [if_neg e2, if_neg (by simp only [List.length_cons]; omega)]
          rw [Array.getElem?_setIfInBounds_ne (by omega)]

theorem mul_lt_of {a n z o : Nat} (ha : a < n) (ho : o < z) : a * z + o < n * z := by
  have : (a + 1) * z ≤ n * z := Nat.mul_le_mul_right _ ha
  rw [Nat.add_mul] at this; omega

theorem ins_els {m : Map} {N n z i : Nat} {t : TypeId} {F : Nat → AV} {x : AV} {c0 c2 : Nat → Option Value} {vs : List Value} (hi : i ≤ n)
    (hels : ElsOK m N (.gen t z n F) z c0) (hx1 : x.cells.length = z) (hx2 : ∀ (o : Nat) (a : AV), x.cells[o]? = some a → a.one = true ∧ ∃ v : Value, vs[o]? = some v ∧ Den m N a v)
    (h1 : ∀ k, k < i * z → c2 k = c0 k) (h2 : ∀ k, k < z → c2 (i * z + k) = vs[k]?) (h3 : ∀ k, i * z ≤ k → k < n * z → c2 (k + z) = c0 k) :
    ElsOK m N (.gen t z (n + 1) (insF F i x)) z c2 := by
  intro j e he
  have hj : j < n + 1 := by
    rcases Nat.lt_or_ge j (n + 1) with hj | hj
    · exact hj
    · have : j.blt (n + 1) = false := by rw [Bool.eq_false_iff]; simp [Nat.blt_eq]; omega
      simp only [Row.get?, this, cond_false] at he; cases he
  rw [Row.get_gen hj] at he
  simp only [Option.some.injEq] at he
  subst he
  rcases Nat.lt_trichotomy j i with hlt | rfl | hgt
  · rw [insF_lt hlt]
    obtain ⟨e1, e2⟩ := hels j (F j) (Row.get_gen (by omega))
    refine ⟨e1, fun o a ha => ?_⟩
    have ho : o < z := by have := (List.getElem?_eq_some_iff.1 ha).1; rwa [e1] at this
    obtain ⟨q1, v, q2, q3⟩ := e2 o a ha
    exact ⟨q1, v, by rw [h1 _ (mul_lt_of hlt ho)]; exact q2, q3⟩
  · rw [insF_eq]
    refine ⟨hx1, fun o a ha => ?_⟩
    have ho : o < z := by have := (List.getElem?_eq_some_iff.1 ha).1; rwa [hx1] at this
    obtain ⟨q1, v, q2, q3⟩ := hx2 o a ha
    exact ⟨q1, v, by rw [h2 _ ho]; exact q2, q3⟩
  · rw [insF_gt hgt]
    obtain ⟨e1, e2⟩ := hels (j - 1) (F (j - 1)) (Row.get_gen (by omega))
    refine ⟨e1, fun o a ha => ?_⟩
    have ho : o < z := by have := (List.getElem?_eq_some_iff.1 ha).1; rwa [e1] at this
    obtain ⟨q1, v, q2, q3⟩ := e2 o a ha
    refine ⟨q1, v, ?_, q3⟩
    have e3 : j * z + o = ((j - 1) * z + o) + z := by
      have : j * z = (j - 1) * z + z := by
        have : j = (j - 1) + 1 := by omega
        conv => lhs; rw [this, Nat.add_mul]
        omega
      omega
    rw [e3, h3 _ ?_ (mul_lt_of (by omega) ho)]
    · exact q2
    · have : i * z ≤ (j - 1) * z := Nat.mul_le_mul_right _ (by omega)
      omega

structure InsLaw (P : Program) (f : FuncId) (tE : TypeId) (z nb : Nat) : Prop where
  shift : ∀ (b off n c i vb voff vc : Nat) (cs vs : List Value) (w : World), i < n → n + 1 ≤ c → c ≤ 9223372036854775807 → vb ≠ b → cs.length = n * z → vs.length = z →
    (∀ j v, cs[j]? = some v → w.cell? ⟨b, off + j, none⟩ = some v) → (∀ j, j < (n + 1) * z → (w.cell? ⟨b, off + j, none⟩).isSome = true) → (∀ j, j < (n + 1) * z → w.frozen? ⟨b, off + j, none⟩ = false) →
    (∀ j v, vs[j]? = some v → w.cell? ⟨vb, voff + j, none⟩ = some v) → (∀ v ∈ cs, v.oneCell' = true) → (∀ v ∈ vs, v.oneCell' = true) →
    ∀ (tA tB : TypeId) (kA kB : Nat), w.shape? vb = some (tA, kA) → w.shape? b = some (tB, kB) → kB ≠ 0 → w.frozen? ⟨vb, voff, none⟩ = false → w.frozen? ⟨vb, kA, none⟩ = false →
    Calls P f #[.slice (some ⟨b, off, none⟩) n c, .int .i64 i, .slice (some ⟨vb, voff, none⟩) 1 vc] w fun e w' =>
      e = .returned (.slice (some ⟨b, off, none⟩) (n + 1) c) ∧ w' = (w.drew.setCells b (off + (i + 1) * z) (cs.drop (i * z))).setCells b (off + i * z) vs
  grow : ∀ (b off n c i vb voff vc : Nat) (cs vs : List Value) (w : World), i < n → n ≤ c → c < n + 1 → (n + 1) * nb ≤ 140737488355328 → cs.length = n * z → vs.length = z →
    (∀ j v, cs[j]? = some v → w.cell? ⟨b, off + j, none⟩ = some v) → (∀ j v, vs[j]? = some v → w.cell? ⟨vb, voff + j, none⟩ = some v) → (∀ v ∈ cs, v.oneCell' = true) → (∀ v ∈ vs, v.oneCell' = true) →
    Calls P f #[.slice (some ⟨b, off, none⟩) n c, .int .i64 i, .slice (some ⟨vb, voff, none⟩) 1 vc] w fun e w' =>
      ∃ (G : Nat) (ZA ZB : Array Value), n + 1 ≤ G ∧ G ≤ maxLen ∧ ZA.size = (n + 1 - i) * z ∧ ZB.size = (G - (n + 1)) * z ∧
      e = .returned (.slice (some ⟨w.heap.size, 0, none⟩) (n + 1) G) ∧
      w' = (((w.alloc (.cells ((cs.take (i * z)).toArray ++ ZA ++ ZB) tE)).drew.setCells w.heap.size (i * z) vs).drew).setCells w.heap.size ((i + 1) * z) (cs.drop (i * z))

theorem els_cells {m : Map} {N n z : Nat} {r : Row} {c0 : Nat → Option Value} (hn : n ≤ r.len) (hels : ElsOK m N r z c0) (k : Nat) (hk : k < n * z) : ∃ v, c0 k = some v ∧ v.oneCell' = true := by
  have hz : 0 < z := by rcases Nat.eq_zero_or_pos z with h | h; · subst h; omega
                        · exact h
  have hj : k / z < n := by rw [Nat.div_lt_iff_lt_mul hz]; exact hk
  have ho : k % z < z := Nat.mod_lt _ hz
  obtain ⟨e1, e2⟩ := hels (k / z) (r.at_ (k / z)) (Row.get_iff.2 ⟨by omega, rfl⟩)
  obtain ⟨a, ha⟩ : ∃ a, (r.at_ (k / z)).cells[k % z]? = some a := ⟨_, List.getElem?_eq_getElem (by rw [e1]; exact ho)⟩
  obtain ⟨q1, v, q2, q3⟩ := e2 _ a ha
  have hkk : k / z * z + k % z = k := by rw [Nat.mul_comm]; exact Nat.div_add_mod k z
  rw [hkk] at q2
  exact ⟨v, q2, q3.oneCell q1⟩

theorem SafeCall.insert {P : Program} {R : Nat → RoRow} {f : FuncId} {tE : TypeId} {z nb : Nat} (hI : InsLaw P f tE z nb) (hz : 1 < z) {h : Rows} {q v n i : Nat} {F : Nat → AV} {x : AV} {c cv : Cp} {t2 : TypeId}
    (hq : h.live q = some (.gen tE z n F)) (hv : h.live v = some (.lst t2 z [x])) (hi : i < n) (hb : (n + 1) * nb ≤ 140737488355328) :
    SafeCall P R f [.sl false q 0 n c, .int .i64 i, .sl false v 0 1 cv] h fun a h' => ∃ G : Nat → AV, (∀ j, j < n + 1 → G j = insF F i x j) ∧ a = .sl false h.length 0 (n + 1) .no ∧ h' = h.set q Option.none ++ [some (.gen tE z (n + 1) G)] := by
  intro m w m0 h0 w0 aa hd hW hst
  have hqv : q ≠ v := by rintro rfl; rw [hq] at hv; cases hv
  have hql := live_lt hq
  simp only [DenL] at hd
  obtain ⟨a1, l1, e1, d1, a2, l2, rfl, d2, a3, l3, rfl, d3, rfl⟩ := hd
  obtain rfl : aa = #[a1, a2, a3] := by rw [← Array.toList_inj]; simpa using e1
  have rq := hW.row q _ hq
  have rv := hW.row v _ hv
  have hvq : (m.mu q).vir = false := by
    cases hh : (m.mu q).vir with
    | false => rfl
    | true => obtain ⟨_, _, r3⟩ := rq; rw [hh] at r3; simp only [if_true, Row.len] at r3; omega
  have hvv : (m.mu v).vir = false := by
    cases hh : (m.mu v).vir with
    | false => rfl
    | true => obtain ⟨_, _, r3⟩ := rv; rw [hh] at r3; simp [Row.len] at r3
  have hzq : (m.mu q).esz = z := rq.1
  have hzv : (m.mu v).esz = z := rv.1
  have hnq : n ≤ (m.mu q).ext := rq.2.1
  have hnv : 1 ≤ (m.mu v).ext := rv.2.1
  have hbb : (m.mu v).blk ≠ (m.mu q).blk := fun e => hqv (hW.apart _ _ _ _ hq hv hvq hvv e.symm)
  obtain ⟨cc, fz, g1, g2, g3, g4⟩ := rq.els hvq
  obtain ⟨cw, fw, k1, k2, k3, k4⟩ := rv.els hvv
  rw [hzq] at g2 g3 g4
  rw [hzv] at k2 k3 k4
  simp only [Den, Map.loc, Bool.false_eq_true, if_false] at d1 d2 d3
  obtain ⟨_, d1⟩ := d1
  obtain ⟨_, d3⟩ := d3
  unfold SlDen at d1 d3
  rw [if_neg (by rw [hvq]; simp)] at d1
  rw [if_neg (by rw [hvv]; simp)] at d3
  obtain ⟨ad, cap, rfl, hle, hmax, _, had⟩ := d1
  obtain ⟨av, vc, rfl, hle3, hmax3, _, hav⟩ := d3
  subst d2
  obtain ⟨rfl, hext⟩ := had (by omega)
  obtain ⟨rfl, hext3⟩ := hav (by omega)
  rw [Nat.zero_add] at hext hext3
  simp only [Nat.zero_mul, Nat.add_zero]
  generalize hB : (m.mu q).blk = B at *
  generalize hO : (m.mu q).shift = O at *
  generalize hE : (m.mu q).ext = E at *
  generalize hBv : (m.mu v).blk = Bv at *
  generalize hOv : (m.mu v).shift = Ov at *
  generalize hEv : (m.mu v).ext = Ev at *
  have hmulq : n * z ≤ E * z := Nat.mul_le_mul_right _ (by omega)
  have hmulv : 1 * z ≤ Ev * z := Nat.mul_le_mul_right _ hnv
  rw [Nat.one_mul] at hmulv
  have hiz : i * z ≤ n * z := Nat.mul_le_mul_right _ (Nat.le_of_lt hi)
  obtain ⟨cs, hcs⟩ : ∃ cs, cs = (cc.toList.drop O).take (n * z) := ⟨_, rfl⟩
  obtain ⟨vs, hvs⟩ : ∃ vs, vs = (cw.toList.drop Ov).take z := ⟨_, rfl⟩
  have lcs : cs.length = n * z := by rw [hcs, List.length_take, List.length_drop, Array.length_toList]; omega
  have lvs : vs.length = z := by rw [hvs, List.length_take, List.length_drop, Array.length_toList]; omega
  have gcs : ∀ j, j < n * z → cs[j]? = cc[O + j]? := fun j hj => by rw [hcs, List.getElem?_take_of_lt hj, List.getElem?_drop, Array.getElem?_toList]
  have gvs : ∀ j, j < z → vs[j]? = cw[Ov + j]? := fun j hj => by rw [hvs, List.getElem?_take_of_lt hj, List.getElem?_drop, Array.getElem?_toList]
  have hcell : ∀ j v', cs[j]? = some v' → w.cell? ⟨B, O + j, Option.none⟩ = some v' := fun j v' hj => by
    have hlt : j < n * z := by have := (List.getElem?_eq_some_iff.1 hj).1; omega
    rw [gcs j hlt] at hj
    simp [World.cell?, g1, hj]
  have vcell : ∀ j v', vs[j]? = some v' → w.cell? ⟨Bv, Ov + j, Option.none⟩ = some v' := fun j v' hj => by
    have hlt : j < z := by have := (List.getElem?_eq_some_iff.1 hj).1; omega
    rw [gvs j hlt] at hj
    simp [World.cell?, k1, hj]
  have hone : ∀ v' ∈ cs, v'.oneCell' = true := fun v' hv' => by
    obtain ⟨j, hj⟩ := List.getElem?_of_mem hv'
    have hlt : j < n * z := by have := (List.getElem?_eq_some_iff.1 hj).1; omega
    obtain ⟨u, hu1, hu2⟩ := els_cells (Nat.le_refl _) g4 j hlt
    rw [gcs j hlt, hu1] at hj
    cases hj; exact hu2
  have vone : ∀ v' ∈ vs, v'.oneCell' = true := fun v' hv' => by
    obtain ⟨j, hj⟩ := List.getElem?_of_mem hv'
    have hlt : j < z := by have := (List.getElem?_eq_some_iff.1 hj).1; omega
    obtain ⟨u, hu1, hu2⟩ := els_cells (n := 1) (by simp [Row.len]) k4 j (by omega)
    rw [gvs j hlt, hu1] at hj
    cases hj; exact hu2
  obtain ⟨x1, x2⟩ := k4 0 x rfl
  have x2' : ∀ o a, x.cells[o]? = some a → a.one = true ∧ ∃ v', vs[o]? = some v' ∧ Den m h.length a v' := fun o a ha => by
    have ho : o < z := by have := (List.getElem?_eq_some_iff.1 ha).1; rwa [x1] at this
    obtain ⟨q1, v', q2, q3⟩ := x2 o a ha
    rw [Nat.zero_mul, Nat.zero_add] at q2
    exact ⟨q1, v', by rw [gvs o ho]; exact q2, q3⟩
  have ldr : (cs.drop (i * z)).length = n * z - i * z := by rw [List.length_drop, lcs]
  have h1z : (i + 1) * z = i * z + z := by rw [Nat.add_mul, Nat.one_mul]
  have hnz : (n + 1) * z = n * z + z := by rw [Nat.add_mul, Nat.one_mul]
  have hEz : (m.mu q).esz = z := hzq
  by_cases hroom : n + 1 ≤ cap
  · -- there is room
    have hE1 : (n + 1) * z ≤ E * z := Nat.mul_le_mul_right _ (by omega)
    refine (hI.shift B O n cap i Bv Ov vc cs vs w hi hroom (by unfold maxLen at hmax; omega) hbb lcs lvs hcell
      (fun j hj => by
        have : O + j < cc.size := by omega
        simp [World.cell?, g1, this])
      (fun j hj => by
        simp only [World.frozen?, g1]
        exact g3.1 _ (by omega) (by omega))
      vcell hone vone t2 tE cw.size cc.size (by simp [World.shape?, k1, Row.ty]) (by simp [World.shape?, g1, Row.ty]) (by omega)
      (by simp only [World.frozen?, k1]; exact k3.1 _ (by omega) (by omega)) (by simp only [World.frozen?, k1]; exact k3.2 hz)).mono ?_
    rintro e w' ⟨rfl, rfl⟩
    have g1' : w.drew.heap[B]? = some (.cells cc tE fz) := g1
    have o1 := over_setCells (cs.drop (i * z)) (O + (i + 1) * z) w.drew cc g1' (by rw [ldr]; omega)
    obtain ⟨c1, p1, p2, p3⟩ := o1.blk _ _ _ g1'
    have o2 := over_setCells vs (O + i * z) _ c1 p1 (by rw [lvs, p2]; omega)
    obtain ⟨c2, s1, s2, s3⟩ := o2.blk _ _ _ p1
    have hmv := hW.move hq hvq (.gen tE z (n + 1) (insF F i x)) c2 fz O E (o2.os.trans o1.os) (o2.tape.trans o1.tape) (o2.output.trans o1.output) (o2.size.trans o1.size)
      (fun k hk => by rw [hB] at hk; rw [o2.other k hk, o1.other k hk]; rfl) (by rw [hB]; exact s1) (by show n + 1 ≤ E; omega) (by rw [s2, p2]; exact g2) (by rw [s2, p2]; exact g3)
      (ins_els (Nat.le_of_lt hi) g4 x1 x2' (fun k hk => by
          show c2[O + k]? = cc[O + k]?
          rw [s3, if_neg (by omega), p3, if_neg (by omega)]) (fun k hk => by
          show c2[O + (i * z + k)]? = vs[k]?
          rw [s3, if_pos (by omega)]
          congr 1; omega) (fun k hk1 hk2 => by
          show c2[O + (k + z)]? = cc[O + k]?
          rw [s3, if_neg (by omega), p3, if_pos (by omega), List.getElem?_drop]
          rw [show i * z + (O + (k + z) - (O + (i + 1) * z)) = k by omega]
          exact gcs k hk2))
    obtain ⟨mW, mS⟩ := hmv
    refine ⟨_, .sl false h.length 0 (n + 1) .no, _, _, rfl, ⟨_, fun _ _ => rfl, rfl, rfl⟩, ?_, mW, hst.trans mS⟩
    simp only [Den]
    refine ⟨fun _ => by simp, ?_⟩
    simp only [Map.loc, Bool.false_eq_true, if_false, Map.setMu_same, SlDen]
    exact ⟨_, _, rfl, hroom, hmax, trivial, fun _ => ⟨by simp [hB], by omega⟩⟩
  · -- a new row
    refine (hI.grow B O n cap i Bv Ov vc cs vs w hi hle (by omega) hb lcs lvs hcell vcell hone vone).mono ?_
    rintro e w' ⟨G, ZA, ZB, hG1, hG2, hZA, hZB, rfl, rfl⟩
    obtain ⟨dW, dS⟩ := (⟨hW.dropRow q, Step.drop q hql⟩ : WR R m (h.set q Option.none) w ∧ Step m h w m (h.set q Option.none) w)
    have hGz : G * z = i * z + (n + 1 - i) * z + (G - (n + 1)) * z := by
      rw [← Nat.add_mul, ← Nat.add_mul]; congr 1; omega
    have hni : (n + 1 - i) * z = n * z + z - i * z := by rw [Nat.sub_mul, hnz]
    obtain ⟨ROW, hROW⟩ : ∃ ROW : Array Value, ROW = (cs.take (i * z)).toArray ++ ZA ++ ZB := ⟨_, rfl⟩
    have lROW : ROW.size = G * z := by
      rw [hROW, Array.size_append, Array.size_append, List.size_toArray, List.length_take, lcs, hZA, hZB, hGz]; omega
    have rROW : ∀ k, k < i * z → ROW[k]? = cs[k]? := fun k hk => by
      rw [hROW, Array.getElem?_append_left (by rw [Array.size_append, List.size_toArray, List.length_take, lcs]; omega), Array.getElem?_append_left (by rw [List.size_toArray, List.length_take, lcs]; omega)]
      simp [List.getElem?_take_of_lt hk]
    rw [← hROW]
    have b1 : ((w.alloc (.cells ROW tE)).drew).heap[w.heap.size]? = some (.cells ROW tE (0, 0)) := by
      show (w.heap.push (.cells ROW tE (0, 0)))[w.heap.size]? = _
      simp
    have hG1z : (n + 1) * z ≤ G * z := Nat.mul_le_mul_right _ hG1
    have o1 := over_setCells vs (i * z) _ ROW b1 (by rw [lvs, lROW]; omega)
    obtain ⟨c1, p1, p2, p3⟩ := o1.blk _ _ _ b1
    have p1' : ((((w.alloc (.cells ROW tE)).drew.setCells w.heap.size (i * z) vs).drew)).heap[w.heap.size]? = some (.cells c1 tE (0, 0)) := p1
    have o2 := over_setCells (cs.drop (i * z)) ((i + 1) * z) _ c1 p1' (by rw [ldr, p2, lROW]; omega)
    obtain ⟨c2, s1, s2, s3⟩ := o2.blk _ _ _ p1'
    have hsz : c2.size = G * z := by rw [s2, p2, lROW]
    have hheap : ((((w.alloc (.cells ROW tE)).drew.setCells w.heap.size (i * z) vs).drew).setCells w.heap.size ((i + 1) * z) (cs.drop (i * z))).heap = w.heap.push (.cells c2 tE (0, 0)) := by
      apply Array.ext_getElem?
      intro k
      by_cases hk : k = w.heap.size
      · subst hk; rw [s1]; simp
      · rw [o2.other k hk]
        show ((w.alloc (.cells ROW tE)).drew.setCells w.heap.size (i * z) vs).heap[k]? = _
        rw [o1.other k hk]
        show (w.heap.push (.cells ROW tE (0, 0)))[k]? = _
        rw [Array.getElem?_push, if_neg hk, Array.getElem?_push, if_neg hk]
    have hlen : (h.set q Option.none).length = h.length := by simp
    obtain ⟨vW, vS⟩ := dW.push (w' := (((w.alloc (.cells ROW tE)).drew.setCells w.heap.size (i * z) vs).drew).setCells w.heap.size ((i + 1) * z) (cs.drop (i * z))) (.gen tE z (n + 1) (insF F i x)) c2 (0, 0) G
      (o2.os.trans o1.os) (o2.tape.trans o1.tape) (o2.output.trans o1.output) hheap hG1 (by show G * z ≤ c2.size; omega) (FzOff.zero _ _ _ _)
      (by
        rw [hlen]
        exact ins_els (Nat.le_of_lt hi) g4 x1 x2' (fun k hk => by
          show c2[k]? = cc[O + k]?
          rw [s3, if_neg (by omega), p3, if_neg (by omega), rROW k hk]
          exact gcs k (by omega)) (fun k hk => by
          show c2[i * z + k]? = vs[k]?
          rw [s3, if_neg (by omega), p3, if_pos (by omega)]
          congr 1; omega) (fun k hk1 hk2 => by
          show c2[k + z]? = cc[O + k]?
          rw [s3, if_pos (by omega), List.getElem?_drop]
          rw [show i * z + (k + z - (i + 1) * z) = k by omega]
          exact gcs k hk2))
    rw [hlen] at vW vS
    refine ⟨_, .sl false h.length 0 (n + 1) .no, _, _, rfl, ⟨_, fun _ _ => rfl, rfl, rfl⟩, ?_, vW, hst.trans (dS.trans vS)⟩
    simp only [Den]
    refine ⟨fun _ => by simp, ?_⟩
    simp only [Map.loc, Bool.false_eq_true, if_false, Map.setMu_same, SlDen]
    exact ⟨_, _, rfl, hG1, hG2, trivial, fun _ => ⟨by simp, by omega⟩⟩

/-- One more at the end: by what append does. -/
theorem SafeCall.insEnd {P : Program} {T : TypeId → Option TI} (hT : TabOK P T) {R : Nat → RoRow} {f : FuncId} {t tE : TypeId} {z nb : Nat} {ti te : TI} (ht : T t = some ti) (hk : ti.kd = .slice tE) (hte : T tE = some te) (hz : te.size = z) (hz1 : 1 < z) (hnb : te.bytes = nb) (hnb0 : 0 < nb) (hzv : te.zv.cells.length = z)
    (hcall : ∀ (base : Option Addr) (n c : Nat) (b : Addr) (vc : Nat) (r : Value) (w w' : World), n ≤ 140737488355328 → (Builtin.append_ #[t, t] t #[.slice base n c, .slice (some b) 1 vc]).run P w = .ok r w' →
      Calls P f #[.slice base n c, .int .i64 n, .slice (some b) 1 vc] w fun e w2 => e = .returned r ∧ w2 = w')
    {h : Rows} {q v n : Nat} {F : Nat → AV} {x : AV}
    (hq : h.live q = some (.gen tE z n F)) (hv : h.live v = some (.lst tE z [x])) (hb : (n + 1) * nb ≤ 140737488355328) :
    SafeCall P R f [.sl false q 0 n .no, .int .i64 n, .sl false v 0 1 .no] h fun a h' => ∃ G : Nat → AV, (∀ j, j < n + 1 → G j = insF F n x j) ∧ a = .sl false h.length 0 (n + 1) .no ∧ h' = h.set q Option.none ++ [some (.gen tE z (n + 1) G)] := by
  intro m w m0 h0 w0 aa hd hW hst
  simp only [DenL] at hd
  obtain ⟨a1, l1, e1, d1, a2, l2, rfl, d2, a3, l3, rfl, d3, rfl⟩ := hd
  obtain rfl : aa = #[a1, a2, a3] := by rw [← Array.toList_inj]; simpa using e1
  have hsq : srcOf R h (.sl false q 0 n .no) = some (decide (0 + n ≤ n), .gen n fun j => F (0 + j)) := by simp only [srcOf, hq]
  have hsv : srcOf R h (.sl false v 0 1 .no) = some (decide (0 + 1 ≤ [x].length), .lst (([x].drop 0).take 1)) := by simp only [srcOf, hv]
  have hok : appOK R h tE te ti (.sl false q 0 n .no) (.sl false v 0 1 .no) = true := by
    unfold appOK
    simp only [hk, srcFits, eszOfAV, eszOf, hq, hv, Row.esz, Row.ty, Bool.false_eq_true, if_false, Bool.and_eq_true]
    exact ⟨trivial, by rw [hz]; exact Nat.beq_refl z, by rw [hz]; exact Nat.beq_refl z, by rw [hnb]; exact blt_t hnb0, by rw [hzv, hz]; exact Nat.beq_refl z, Nat.beq_refl _⟩
  have hap := aappend_ok hT hW t t t [] (.sl false q 0 n .no) (.sl false v 0 1 .no) a1 a3 [] d1 d3
  unfold aappend at hap
  simp only [ht, hk, hte, hok, if_true, hsq, hsv, consumes] at hap
  obtain ⟨nx, c', w', m', hrun, hnx, hden, hW', hS'⟩ := hap (by
    simp only [Bool.and_eq_true, decide_eq_true_eq, joinCond, Src.len]
    refine ⟨by omega, by simp, trivial, ?_⟩
    rw [hnb]
    simpa using hb)
  have h1 : ∃ base c, a1 = .slice base n c := by
    simp only [Den] at d1
    have d := d1.2
    unfold SlDen at d
    split at d
    · obtain ⟨rfl, ao, rfl, _⟩ := d; exact ⟨_, _, rfl⟩
    · obtain ⟨ad, cap, rfl, _⟩ := d; exact ⟨_, _, rfl⟩
  have h3 : ∃ b vc, a3 = .slice (some b) 1 vc := by
    simp only [Den] at d3
    have d := d3.2
    unfold SlDen at d
    split at d
    · omega
    · obtain ⟨ad, cap, rfl, _⟩ := d; exact ⟨_, _, rfl⟩
  obtain ⟨base, c, rfl⟩ := h1
  obtain ⟨b, vc, rfl⟩ := h3
  simp only [Den] at d2
  subst d2
  obtain ⟨r, hr, hnxr⟩ : ∃ r, (Builtin.append_ #[t, t] t #[.slice base n c, .slice (some b) 1 vc]).run P w = .ok r w' ∧ nx = .value r := by
    simp only [Sem.run_bind] at hrun
    cases hx : (Builtin.append_ #[t, t] t #[.slice base n c, .slice (some b) 1 vc]).run P w with
    | ok r w1 =>
      have hx' : (Builtin.append_ [t, t].toArray t [.slice base n c, .slice (some b) 1 vc].toArray).run P w = .ok r w1 := hx
      rw [hx'] at hrun
      simp only [Result.andThen_ok, Sem.run_pure, Result.ok.injEq] at hrun
      exact ⟨r, by rw [hrun.2], hrun.1.symm⟩
    | halt _ hh =>
      have hx' : (Builtin.append_ [t, t].toArray t [.slice base n c, .slice (some b) 1 vc].toArray).run P w = _ := hx
      rw [hx'] at hrun
      cases hrun
  subst hnxr
  simp only [nextVal, Option.some.injEq] at hnx
  subst hnx
  have hnb1 : n ≤ 140737488355328 := by
    have : (n + 1) * 1 ≤ (n + 1) * nb := Nat.mul_le_mul_left _ hnb0
    omega
  refine (hcall base n c b vc r w w' hnb1 hr).mono ?_
  rintro e w2 ⟨rfl, rfl⟩
  subst hz
  refine ⟨r, .sl false h.length 0 (n + 1) .no, m', _, rfl, ⟨fun j => bif Nat.blt j n then F (0 + j) else (Src.lst [x]).at_ (j - n), ?_, rfl, rfl⟩, hden, hW', hst.trans hS'⟩
  intro j hj
  show (bif Nat.blt j n then F (0 + j) else (Src.lst [x]).at_ (j - n)) = _
  rcases Nat.lt_or_ge j n with h1 | h1
  · rw [insF_lt h1, blt_t h1]; simp
  · obtain rfl : j = n := by omega
    have : Nat.blt j j = false := by rw [Bool.eq_false_iff]; simp [Nat.blt_eq]
    rw [insF_eq, this, Nat.sub_self]; rfl
end Go.Dc
