/- append: that the program does so. -/
import Derived.Test.YtebgogcdndmaaaaDcI
set_option linter.unusedSimpArgs false
set_option linter.unusedVariables false
namespace Go.Dc

/-- A row without elements and without a place. -/
theorem WR.pushVir {R : Nat → RoRow} {m : Map} {h : Rows} {w : World} (hW : WR R m h w) (r : Row) (h0 : r.len = 0) :
    WR R (m.setMu h.length ⟨0, 0, r.esz, 0, true⟩) (h ++ [some r]) w ∧ Step m h w (m.setMu h.length ⟨0, 0, r.esz, 0, true⟩) (h ++ [some r]) w := by
  have hmu : ∀ b, b < h.length → (m.setMu h.length ⟨0, 0, r.esz, 0, true⟩).mu b = m.mu b := fun b hb => Map.setMu_ne m _ _ _ (by omega)
  have hmn := Map.setMu_same m h.length ⟨0, 0, r.esz, 0, true⟩
  refine ⟨{ row := ?_, apart := ?_, ro := ?_, roApart := ?_ }, { os := rfl, tape := rfl, output := rfl, size := Nat.le_refl _, block := fun _ _ _ => rfl, len := by simp, mu := hmu, ro := rfl, new := ?_ }⟩
  · intro b r' hb
    rcases live_push hb with ⟨hlt, hl⟩ | ⟨rfl, rfl⟩
    · rw [hmu b hlt]
      exact (hW.row b r' hl).mono (by simp) (fun c hc => hmu c hc) rfl (fun _ => rfl)
    · rw [hmn]
      exact ⟨rfl, by simp [h0], by simp [h0]⟩
  · intro b b' r1 r2 hb hb' hv hv' he
    rcases live_push hb with ⟨hlt, hl⟩ | ⟨rfl, rfl⟩
    · rcases live_push hb' with ⟨hlt', hl'⟩ | ⟨rfl, rfl⟩
      · rw [hmu b hlt] at hv he
        rw [hmu b' hlt'] at hv' he
        exact hW.apart b b' r1 r2 hl hl' hv hv' he
      · rw [hmn] at hv'; exact absurd hv' (by simp)
    · rw [hmn] at hv; exact absurd hv (by simp)
  · intro i
    exact (hW.ro i).mono rfl (fun _ _ => rfl)
  · intro i b r' hb hv hv' hn
    rcases live_push hb with ⟨hlt, hl⟩ | ⟨rfl, rfl⟩
    · rw [hmu b hlt] at hv ⊢
      exact hW.roApart i b r' hl hv hv' hn
    · rw [hmn] at hv; exact absurd hv (by simp)
  · intro b r' hb hv
    rcases live_push hb with ⟨hlt, hl⟩ | ⟨rfl, rfl⟩
    · rw [hmu b hlt] at hv ⊢
      exact .inr ⟨b, r', hl, hv, rfl⟩
    · rw [hmn] at hv; exact absurd hv (by simp)

theorem dropRow_WR {R : Nat → RoRow} {m : Map} {h : Rows} {w : World} (hW : WR R m h w) (d : Option Nat) (hd : ∀ b, d = some b → b < h.length) : WR R m (dropRow h d) w ∧ Step m h w m (dropRow h d) w ∧ (dropRow h d).length = h.length := by
  cases d with
  | none => exact ⟨hW, Step.refl _ _ _, rfl⟩
  | some b => exact ⟨hW.drop b (hd b rfl), Step.drop b (hd b rfl), by simp [dropRow]⟩

theorem grownCap_bounds (w : World) (need old : Nat) (e : TypeId) (h : need < 2 ^ 63) : need ≤ grownCap w need old e ∧ grownCap w need old e ≤ maxLen := by
  simp only [grownCap, Question.cut]
  refine ⟨Nat.le_add_right _ _, ?_⟩
  have : w.tape w.drawn (Question.appendCap need old e) % (2 ^ 63 - need) < 2 ^ 63 - need := Nat.mod_lt _ (by omega)
  unfold maxLen
  omega

theorem WR.sl_live {R : Nat → RoRow} {h : Rows} {b i len : Nat} {full : Bool} {c : Bool} {s : Src} (hs : srcOf R h (.sl false b i len full) = some (c, s)) : ∃ r, h.live b = some r := by
  unfold srcOf at hs
  simp only [] at hs
  cases hl : h.live b with
  | none => rw [hl] at hs; simp at hs
  | some r => exact ⟨r, rfl⟩

theorem consumes_some {s : AV} {b : Src} {bb : Nat} (h : consumes s b = some (some bb)) : ∃ i len full, s = .sl false bb i len full := by
  cases s <;> try (simp [consumes] at h; done)
  rename_i ro blk i len full
  cases ro <;> cases full <;> cases len <;> cases b <;> try (simp [consumes] at h; done)
  all_goals first
    | (simp [consumes] at h; subst h; exact ⟨_, _, _, rfl⟩)
    | (rename_i l; cases l <;> simp [consumes] at h <;> subst h <;> exact ⟨_, _, _, rfl⟩)

theorem consumes_in {ro full : Bool} {blk i len : Nat} {b : Src} {d : Option Nat} (h : consumes (.sl ro blk i len full) b = some d) (h0 : full = true → len ≠ 0) (h1 : full = true → b.len = 0) : ro = false ∧ d = some blk := by
  cases full with
  | false => cases ro <;> simp [consumes] at h <;> exact ⟨rfl, h.symm⟩
  | true =>
    cases len with
    | zero => exact absurd rfl (h0 rfl)
    | succ len =>
      have hb := h1 rfl
      cases b with
      | lst l =>
        cases l with
        | cons x xs => simp [Src.len] at hb
        | nil => cases ro <;> simp [consumes] at h <;> exact ⟨rfl, h.symm⟩
      | gen n f => cases ro <;> simp [consumes] at h <;> exact ⟨rfl, h.symm⟩
      | byt l => cases ro <;> simp [consumes] at h <;> exact ⟨rfl, h.symm⟩

theorem aappend_ok {T : TypeId → Option TI} {P : Program} (hT : TabOK P T) {R : Nat → RoRow} {m : Map} {h : Rows} {w : World} (hW : WR R m h w) (t t2 ty : TypeId) (ts : List TypeId) (s x : AV) (u v : Value) (us : List Value)
    (hs : Den m h.length s u) (hx : Den m h.length x v) :
    (aappend T R h t t2 s x).run R m h P w (do pure (.value (← Builtin.append_ (t :: t2 :: ts).toArray ty (u :: v :: us).toArray))) := by
  unfold aappend
  split
  case h_2 => trivial
  rename_i ti t2i hti ht2i
  split
  case h_2 => trivial
  rename_i e hkd
  cases hte : T e with
  | none => trivial
  | some te =>
    simp only []
    split
    case isFalse => trivial
    rename_i hcond
    simp only [appOK, Bool.and_eq_true] at hcond
    obtain ⟨k1, k2, k3, k4, k5, k6⟩ := hcond
    obtain ⟨d, hr, hu, hk⟩ := (hT _ _ hti).run_underlying w
    rw [hkd] at hk; simp only [KdOK] at hk; subst hk
    obtain ⟨d2, hr2, hu2, hk2⟩ := (hT _ _ ht2i).run_underlying w
    have hd2 : (∃ e2, d2 = .slice e2) ∨ d2 = .string := by
      cases hkd2 : t2i.kd <;> rw [hkd2] at k1 hk2 <;> simp at k1 <;> simp only [KdOK] at hk2
      · exact .inr hk2
      · exact .inl ⟨_, hk2⟩
    obtain ⟨ie, hie, hies, hieb, ze, hze, hzd⟩ := (hT _ _ hte).info
    have hbytes : 0 < ie.bytes := by rw [hieb]; simpa [Nat.blt_eq] using k4
    have hzsz : ze.cells.size = te.size := by
      have := (Den.cells (hT _ _ hte).zk (hzd m h.length)).length
      rw [← Nat.eq_of_beq_eq_true k5, this]; simp
    -- the two sources, told as values
    have fit : ∀ y c q, srcFits R h te y = true → srcOf R h y = some (c, q) → c = true → (∃ z, eszOfAV R h y = some z ∧ z = te.size) ∨ y = .nils ∨ (te.size = 1 ∧ ∃ l, y = .str l) := by
      intro y c q hf hq hc
      unfold srcFits at hf
      split at hf
      · exact .inr (.inl rfl)
      · split at hf
        · exact .inr (.inr ⟨Nat.eq_of_beq_eq_true hf, _, rfl⟩)
        · exact absurd hf (by simp)
      · cases hz : eszOfAV R h y with
        | none => rw [hz] at hf; simp at hf
        | some z => rw [hz] at hf; exact .inl ⟨z, rfl, Nat.eq_of_beq_eq_true hf⟩
    split
    · -- nothing is appended
      intro _
      simp only [Den] at hx
      subst hx
      have hbase : ∃ base sLen sCap, u = .slice base sLen sCap ∧ sLen ≤ sCap ∧ (base = none → sLen = 0 ∧ sCap = 0) := by
        cases s <;> simp only [Den] at hs <;> simp [srcFits, eszOfAV] at k2
        · exact absurd k6 (by simp)
        · obtain ⟨_, hsl⟩ := hs
          unfold SlDen at hsl
          split at hsl
          · obtain ⟨rfl, ao, rfl⟩ := hsl; exact ⟨ao, 0, 0, rfl, Nat.le_refl _, fun _ => ⟨rfl, rfl⟩⟩
          · obtain ⟨ad, cap, rfl, h1, _⟩ := hsl; exact ⟨_, _, _, rfl, h1, fun h => absurd h (by simp)⟩
        · subst hs; exact ⟨_, _, _, rfl, Nat.le_refl _, fun _ => ⟨rfl, rfl⟩⟩
      obtain ⟨base, sLen, sCap, rfl, hle, hb0⟩ := hbase
      have hrun := run_append_in (P := P) (w := w) (ty := ty) hu hu2 hd2 hie ts us base sLen sCap 0 (.slice none 0 0) [] (by simp [Builtin.lenOf, pure, Sem.run]) (by simp [Builtin.firstCells, pure, Sem.run]) (by omega)
      refine ⟨.value (.slice base sLen sCap), .slice base sLen sCap, w, m, ?_, rfl, hs, hW, Step.refl _ _ _⟩
      simp only [Sem.run_bind, hrun]
      cases base <;> simp [storeCells, pure, Sem.run]
    · rename_i c1 a c2 b hnn hsa hsb
      split
      case h_2 => trivial
      rename_i d hd
      intro hc
      simp only [Bool.and_eq_true, decide_eq_true_eq] at hc
      obtain ⟨rfl, rfl, hj, hfit⟩ := hc
      obtain ⟨olds, o1, o2, o3, o4, o5⟩ := src_vals (P := P) hW hs hsa (fit _ _ _ k2 hsa rfl)
      obtain ⟨news, n1, n2, n3, n4, n5⟩ := src_vals (P := P) hW hx hsb (fit _ _ _ k3 hsb rfl)
      have hbig : a.len + b.len ≤ 140737488355328 := by
        have : (a.len + b.len) * 1 ≤ (a.len + b.len) * te.bytes := Nat.mul_le_mul_left _ (by rw [← hieb]; exact hbytes)
        omega
      -- what s is
      have hbase : ∃ base sCap, u = .slice base a.len sCap ∧ a.len ≤ sCap ∧ (base = none → a.len = 0 ∧ sCap = 0) ∧
          (0 < sCap → ∃ ro bb i full, s = .sl ro bb i a.len full ∧ (m.loc ro bb).vir = false ∧ base = some ⟨(m.loc ro bb).blk, (m.loc ro bb).shift + i * (m.loc ro bb).esz, none⟩ ∧ i + sCap ≤ (m.loc ro bb).ext ∧ (full = true → sCap = a.len) ∧ (m.loc ro bb).esz = te.size ∧ sCap ≤ maxLen) := by
        cases s <;> simp only [Den] at hs <;> try (simp [srcOf] at hsa; done)
        · exact absurd k6 (by simp)
        · rename_i ro bb i len full
          obtain ⟨_, hsl⟩ := hs
          have hez : (m.loc ro bb).esz = te.size := by
            rcases fit _ _ _ k2 hsa rfl with ⟨z, h1, rfl⟩ | h1 | ⟨_, _, h1⟩
            · exact eszOf_spec hW h1
            · exact absurd h1 (by simp)
            · exact absurd h1 (by simp)
          have hal : (m.loc ro bb).vir = false → a.len = len := fun hv => (src_cells hW hsa hv).1
          unfold SlDen at hsl
          split at hsl
          · rename_i hv
            obtain ⟨rfl, ao, rfl⟩ := hsl
            have ha0 : a.len = 0 := by
              have := o2
              simp only [Builtin.lenOf] at this
              simpa [pure, Sem.run] using this.symm
            rw [ha0]
            exact ⟨ao, 0, rfl, Nat.le_refl _, fun _ => ⟨rfl, rfl⟩, fun h => absurd h (Nat.lt_irrefl _)⟩
          · rename_i hv
            have hv' : (m.loc ro bb).vir = false := by simpa using hv
            obtain ⟨ad, cap, rfl, h1, h2, h3, h4⟩ := hsl
            rw [hal hv']
            refine ⟨some ad, cap, rfl, h1, fun h => absurd h (by simp), fun hp => ?_⟩
            obtain ⟨rfl, h5⟩ := h4 hp
            exact ⟨ro, bb, i, full, rfl, hv', rfl, h5, h3, hez, h2⟩
        · simp only [srcOf, Option.some.injEq, Prod.mk.injEq, true_and] at hsa
          subst hs hsa
          exact ⟨none, 0, rfl, Nat.le_refl _, fun _ => ⟨rfl, rfl⟩, fun h => absurd h (Nat.lt_irrefl _)⟩
      obtain ⟨base, sCap, rfl, hle, hb0, hpos⟩ := hbase
      have hdlt : ∀ bb, d = some bb → bb < h.length ∧ ∃ i len full, s = .sl false bb i len full := by
        intro bb hdb
        subst hdb
        obtain ⟨i, len, full, rfl⟩ := consumes_some hd
        obtain ⟨r, hr⟩ := WR.sl_live hsa
        exact ⟨live_lt hr, _, _, _, rfl⟩
      obtain ⟨dW, dS, dL⟩ := dropRow_WR hW d (fun bb hbb => (hdlt bb hbb).1)
      have hlen2 : (joinRow e te.size a b).len = a.len + b.len := joinRow_len _ _ _ _
      have hesz2 := joinRow_esz e te.size a b
      have hty2 := joinRow_ty e te.size a b
      by_cases hin : a.len + b.len ≤ sCap
      · -- there is room
        have hrun := run_append_in (P := P) (w := w) (ty := ty) hu hu2 hd2 hie ts us base a.len sCap b.len v news n2 (by rw [hies]; exact n3 w rfl) hin
        by_cases hp : sCap = 0
        · -- nothing at all
          subst hp
          have ha0 : a.len = 0 := by omega
          have hb0' : b.len = 0 := by omega
          have hnews : news = [] := by
            have : news.length = 0 := by rw [n1, hb0']; simp
            exact List.length_eq_zero_iff.1 this
          obtain ⟨vW, vS⟩ := dW.pushVir (joinRow e te.size a b) (by omega)
          rw [dL] at vW vS
          refine ⟨.value (.slice base (a.len + b.len) 0), .slice base (a.len + b.len) 0, w, _, ?_, rfl, ?_, vW, dS.trans vS⟩
          · simp only [Sem.run_bind, hrun]
            subst hnews
            cases base <;> simp [storeCells, pure, Sem.run]
          · simp only [Den]
            refine ⟨fun _ => by simp [dL], ?_⟩
            simp only [Map.loc, Bool.false_eq_true, if_false, Map.setMu_same, SlDen, if_true]
            exact ⟨by omega, base, by rw [ha0, hb0']⟩
        · obtain ⟨ro, bb, i, full, rfl, hvir, rfl, hext, hfull, hez, hmax⟩ := hpos (by omega)
          -- the row is used up
          have hdb : ro = false ∧ d = some bb := consumes_in hd (fun hf h0 => by have := hfull hf; omega) (fun hf => by have := hfull hf; omega)
          obtain ⟨rfl, rfl⟩ := hdb
          simp only [Map.loc, Bool.false_eq_true, if_false] at hvir hext hez
          obtain ⟨r, hlr⟩ := WR.sl_live hsa
          obtain ⟨c, fz, g1, g2, g3, g4⟩ := (hW.row bb r hlr).els hvir
          have hrty : r.ty = (joinRow e te.size a b).ty ∨ True := .inr trivial
          -- the stores
          have hmul : (a.len + b.len) * te.size ≤ sCap * te.size := Nat.mul_le_mul_right _ hin
          have hmul2 : (i + sCap) * te.size ≤ (m.mu bb).ext * te.size := Nat.mul_le_mul_right _ hext
          rw [Nat.add_mul] at hmul hmul2
          have haddr : ∀ j, (((⟨(m.mu bb).blk, (m.mu bb).shift + i * (m.mu bb).esz, none⟩ : Addr).add (a.len * te.size)).add j) = ⟨(m.mu bb).blk, (m.mu bb).shift + i * te.size + a.len * te.size + j, none⟩ := by
            intro j
            rw [hez]
            unfold Addr.add
            split <;> split <;> simp_all
          rw [hez] at g2 g3
          obtain ⟨w', hst, ho⟩ := run_storeCells_over (P := P) (m.mu bb).blk r.ty fz ((⟨(m.mu bb).blk, (m.mu bb).shift + i * (m.mu bb).esz, none⟩ : Addr).add (a.len * te.size)) news 0 ((m.mu bb).shift + i * te.size + a.len * te.size) c w g1
            (by rw [haddr]; simp) (fun j => by rw [haddr]; simp) (by rw [n1]; omega) (fun k q1 q2 => g3 k (by omega) (by rw [n1] at q2; omega)) n5
          obtain ⟨c', p1, p2, p3⟩ := ho.blk _ _ _ g1
          have hty : r.ty = e := by
            simp only [hlr] at k6
            exact Nat.eq_of_beq_eq_true k6
          have hshift : (m.mu bb).shift + i * te.size + sCap * te.size ≤ c'.size := by rw [p2]; omega
          obtain ⟨mW, mS⟩ := hW.move hlr hvir (joinRow e te.size a b) c' fz ((m.mu bb).shift + i * te.size) sCap ho.os ho.tape ho.output ho.size ho.other
            (by rw [p1, hty, hty2]) (by omega) (by rw [hesz2]; exact hshift) (fun k q1 q2 => g3 k (by omega) (by rw [hesz2] at q2; omega))
            (by
              rw [hesz2]
              obtain ⟨hal, hcs⟩ := src_cells hW hsa (by simpa [Map.loc] using hvir)
              simp only [Map.loc, Bool.false_eq_true, if_false, hez] at hcs
              refine joinRow_els e te.size hj ?_ ?_
              · intro j hjl
                refine ⟨(hcs j hjl).1, fun o x hx => ?_⟩
                obtain ⟨q1, vv, q2, q3⟩ := (hcs j hjl).2 o x hx
                refine ⟨q1, vv, ?_, q3⟩
                have ho2 : o < te.size := by
                  have := (List.getElem?_eq_some_iff.1 hx).1
                  rw [(hcs j hjl).1] at this; exact this
                have hk : (j + 1) * te.size ≤ a.len * te.size := Nat.mul_le_mul_right _ hjl
                rw [Nat.add_mul] at hk
                show c'[(m.mu bb).shift + i * te.size + (j * te.size + o)]? = some vv
                rw [p3, if_neg (by omega)]
                simp only [World.cell?, g1, Option.isSome_none, Bool.false_eq_true, if_false] at q2
                rw [← q2, Nat.add_mul]
                congr 1; omega
              · refine n4.mono (fun k vv hk hkv => ?_)
                show c'[(m.mu bb).shift + i * te.size + (a.len * te.size + k)]? = some vv
                rw [p3, if_pos (by omega), ← hkv]
                congr 1; omega)
          refine ⟨.value (.slice (some ⟨(m.mu bb).blk, (m.mu bb).shift + i * (m.mu bb).esz, none⟩) (a.len + b.len) sCap), .slice (some ⟨(m.mu bb).blk, (m.mu bb).shift + i * (m.mu bb).esz, none⟩) (a.len + b.len) sCap, w', _, ?_, rfl, ?_, mW, mS⟩
          · simp only [Map.loc, Bool.false_eq_true, if_false, hies] at hrun
            simp only [Map.loc, Bool.false_eq_true, if_false, Sem.run_bind, hrun, hst, Result.andThen_ok]
            rfl
          · simp only [Den]
            refine ⟨fun _ => by simp [dropRow], ?_⟩
            simp only [Map.loc, Bool.false_eq_true, if_false, Map.setMu_same, SlDen]
            refine ⟨_, sCap, rfl, hin, hmax, fun h => absurd h (by simp), fun _ => ⟨by rw [hez]; simp, by simp⟩⟩
      · -- a new block
        have hrun := run_append_up (P := P) (w := w) (ty := ty) hu hu2 hd2 hie hze hbytes ts us base a.len sCap b.len v olds news n2 (by rw [hies]; exact n3) (by rw [hies]; exact fun w2 hw2 => by have := o3 w2 hw2; exact this) (by omega) (by rw [hieb]; exact hfit)
        obtain ⟨b1, b2⟩ := grownCap_bounds w (a.len + b.len) sCap e (by omega)
        have hsz : (olds.toArray ++ news.toArray ++ Builtin.zeroCells ze.cells (grownCap w (a.len + b.len) sCap e - (a.len + b.len))).size = grownCap w (a.len + b.len) sCap e * te.size := by
          simp only [Array.size_append, List.size_toArray, size_zeroCells, o1, n1, hzsz, ← Nat.add_mul]
          congr 1; omega
        obtain ⟨vW, vS⟩ := WR.push (w' := w.drew.alloc (.cells (olds.toArray ++ news.toArray ++ Builtin.zeroCells ze.cells (grownCap w (a.len + b.len) sCap e - (a.len + b.len))) e)) dW (joinRow e te.size a b)
          (olds.toArray ++ news.toArray ++ Builtin.zeroCells ze.cells (grownCap w (a.len + b.len) sCap e - (a.len + b.len))) (0, 0) (grownCap w (a.len + b.len) sCap e) rfl rfl rfl (by rw [hty2]; rfl) (by omega) (by rw [hesz2, hsz]; exact Nat.le_refl _) (fun k _ => by simp)
          (by
            rw [hesz2, dL]
            refine joinRow_els e te.size hj (o4.mono fun k vv _ hk => ?_) (n4.mono fun k vv _ hk => ?_)
            · have hlt : k < olds.length := (List.getElem?_eq_some_iff.1 hk).1
              rw [Array.getElem?_append_left (by simp; omega), Array.getElem?_append_left (by simpa using hlt)]
              simpa using hk
            · have hlt : k < news.length := (List.getElem?_eq_some_iff.1 hk).1
              rw [Array.getElem?_append_left (by simp; omega), Array.getElem?_append_right (by simp; omega)]
              simpa [o1] using hk)
        rw [dL] at vW vS
        refine ⟨.value (.slice (some ⟨w.heap.size, 0, none⟩) (a.len + b.len) (grownCap w (a.len + b.len) sCap e)), .slice (some ⟨w.heap.size, 0, none⟩) (a.len + b.len) (grownCap w (a.len + b.len) sCap e), _, _, ?_, rfl, ?_, vW, dS.trans vS⟩
        · simp only [Sem.run_bind, hrun]; rfl
        · simp only [Den]
          refine ⟨fun _ => by simp [dL], ?_⟩
          simp only [Map.loc, Bool.false_eq_true, if_false, Map.setMu_same, SlDen]
          exact ⟨_, _, rfl, b1, b2, fun h => absurd h (by simp), fun _ => ⟨by simp, by simp⟩⟩
    · trivial

end Go.Dc
