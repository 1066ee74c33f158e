/- Operations that change no memory, part four, and what one such operation answers. -/
import Derived.Test.YtebgogcdndmaaaaDcD
set_option linter.unusedSimpArgs false
set_option linter.unusedVariables false
namespace Go.Dc

/-! ### Slicing -/
def loOf : Option AV → Option (Option Int)
  | none => some none
  | some (.int _ n) => some (some n)
  | _ => none

def slCond (lo hi : Option Int) (len : Nat) : Bool :=
  match lo, hi with
  | none, none => true
  | none, some h => decide (0 ≤ h) && decide (h ≤ (len : Int))
  | some l, none => decide (0 ≤ l) && decide (l ≤ (len : Int))
  | some l, some h => decide (0 ≤ h) && (decide (h ≤ (len : Int)) && (decide (0 ≤ l) && decide (l ≤ h)))

def slLo : Option Int → Nat | none => 0 | some l => l.toNat
def slHi (len : Nat) : Option Int → Nat | none => len | some h => h.toNat

theorem slCond_spec {lo hi : Option Int} {len : Nat} (h : slCond lo hi len = true) : slLo lo ≤ slHi len hi ∧ slHi len hi ≤ len ∧ (∀ l, lo = some l → 0 ≤ l ∧ (l.toNat : Int) = l ∧ l ≤ (slHi len hi : Int)) ∧ (∀ x, hi = some x → 0 ≤ x ∧ x ≤ len ∧ (x.toNat : Int) = x) := by
  cases lo <;> cases hi <;> simp [slCond, slLo, slHi] at h ⊢ <;> omega

theorem run_sliceBounds {P : Program} {w : World} {m : Map} {n : Nat} (isS : Bool) (len cap : Nat) (hcap : len ≤ cap) (lo hi : Option AV) (vlo vhi : Option Value) (l' h' : Option Int)
    (hlo : loOf lo = some l') (hhi : loOf hi = some h') (dlo : ∀ a, lo = some a → ∃ v, vlo = some v ∧ Den m n a v) (dlo0 : lo = none → vlo = none)
    (dhi : ∀ a, hi = some a → ∃ v, vhi = some v ∧ Den m n a v) (dhi0 : hi = none → vhi = none) (hc : slCond l' h' len = true) :
    (Instr.sliceBounds isS len cap vlo vhi none).run P w = .ok (slLo l', slHi len h', cap) w := by
  obtain ⟨h1, h2, h3, h4⟩ := slCond_spec hc
  have elo : vlo = l'.map (fun x => Value.int (match lo with | some (.int k _) => k | _ => .i64) x) := by
    cases lo with
    | none => simp [loOf] at hlo; subst hlo; simp [dlo0 rfl]
    | some a =>
      obtain ⟨v, rfl, hd⟩ := dlo a rfl
      cases a <;> simp [loOf] at hlo
      subst hlo
      simp only [Den] at hd; subst hd; rfl
  have ehi : vhi = h'.map (fun x => Value.int (match hi with | some (.int k _) => k | _ => .i64) x) := by
    cases hi with
    | none => simp [loOf] at hhi; subst hhi; simp [dhi0 rfl]
    | some a =>
      obtain ⟨v, rfl, hd⟩ := dhi a rfl
      cases a <;> simp [loOf] at hhi
      subst hhi
      simp only [Den] at hd; subst hd; rfl
  subst elo ehi
  cases l' with
  | none =>
    cases h' with
    | none => simp [Instr.sliceBounds, slLo, slHi, pure, Sem.run]
    | some x =>
      obtain ⟨a, b, c⟩ := h4 x rfl
      have hb : 0 ≤ x ∧ x ≤ (cap : Int) := ⟨a, by omega⟩
      simp [Instr.sliceBounds, Instr.sliceBound, asIntOf, slLo, slHi, hb, pure, Sem.run]
  | some y =>
    obtain ⟨a', b', c'⟩ := h3 y rfl
    cases h' with
    | none =>
      have hb : 0 ≤ y ∧ y ≤ (len : Int) := ⟨a', by simpa [slHi] using c'⟩
      simp [Instr.sliceBounds, Instr.sliceBound, asIntOf, slLo, slHi, hb, pure, Sem.run]
    | some x =>
      obtain ⟨a, b, c⟩ := h4 x rfl
      have hb : 0 ≤ x ∧ x ≤ (cap : Int) := ⟨a, by omega⟩
      simp only [slHi] at c'
      have hb2 : 0 ≤ y ∧ y ≤ (x.toNat : Int) := ⟨a', c'⟩
      simp [Instr.sliceBounds, Instr.sliceBound, asIntOf, slLo, slHi, hb, pure, Sem.run]
      intro hh
      have := hh a'
      omega

def zeroAV : Option AV → Bool
  | none => true
  | some (.int _ 0) => true
  | _ => false

def aslice (T : TypeId → Option TI) (R : Nat → RoRow) (h : Rows) (t : TypeId) (x : AV) (lo hi mx : Option AV) : QR :=
  match T t with
  | none => .no
  | some ti =>
    match ti.kd, x, mx with
    | .str, .str l, none => match loOf lo, loOf hi with
      | some a, some b => .ck (slCond a b l.length) (.str ((l.drop (slLo a)).take (slHi l.length b - slLo a)))
      | _, _ => .no
    | .slice e, .sl ro b i len full, none => match T e with
      | some te => if eszOf R h ro b = some te.size then match loOf lo, loOf hi with
          | some l, some u => .ck (slCond l u len) (.sl ro b (i + slLo l) (slHi len u - slLo l) (full && (match u with | none => true | some u => u.toNat == len)))
          | _, _ => .no
        else .no
      | none => .no
    | .slice e, .nils, none => match T e, loOf lo, loOf hi with
      | some te, some l, some u => .ck (slCond l u 0) .nils
      | _, _, _ => .no
    | .slice e, .sl ro b i len full, some m => match T e with
      | some te => if zeroAV lo && (zeroAV hi && (zeroAV (some m) && hi.isSome)) then .ok (.sl ro b i 0 true) else .no
      | none => .no
    | .slice e, .nils, some m => match T e with
      | some te => if zeroAV lo && (zeroAV hi && (zeroAV (some m) && hi.isSome)) then .ok .nils else .no
      | none => .no
    | _, _, _ => .no

theorem zeroAV_den {m : Map} {n : Nat} {lo : Option AV} {v : Option Value} (h : zeroAV lo = true) (d : ∀ a, lo = some a → ∃ x, v = some x ∧ Den m n a x) (d0 : lo = none → v = none) :
    v = none ∧ lo = none ∨ ∃ k, v = some (.int k 0) ∧ lo ≠ none := by
  cases lo with
  | none => exact .inl ⟨d0 rfl, rfl⟩
  | some a =>
    obtain ⟨x, rfl, hd⟩ := d a rfl
    unfold zeroAV at h
    split at h
    · rename_i he; exact absurd he (by simp)
    · rename_i k he
      cases he
      simp only [Den] at hd; subst hd
      exact .inr ⟨k, rfl, by simp⟩
    · exact absurd h (by simp)

theorem aslice_ok {T : TypeId → Option TI} {P : Program} (hT : TabOK P T) {R : Nat → RoRow} {m : Map} {h : Rows} {w : World} (hW : WR R m h w) (t : TypeId) (x : AV) (lo hi mx : Option AV) (u : Value) (vlo vhi vmx : Option Value)
    (hx : Den m h.length x u)
    (dlo : ∀ a, lo = some a → ∃ v, vlo = some v ∧ Den m h.length a v) (dlo0 : lo = none → vlo = none)
    (dhi : ∀ a, hi = some a → ∃ v, vhi = some v ∧ Den m h.length a v) (dhi0 : hi = none → vhi = none)
    (dmx : ∀ a, mx = some a → ∃ v, vmx = some v ∧ Den m h.length a v) (dmx0 : mx = none → vmx = none) :
    (aslice T R h t x lo hi mx).sat m h.length P w (Instr.sliceAt t u vlo vhi vmx) := by
  refine QR.sat_of fun a ha => ?_
  unfold aslice at ha
  cases hti : T t with
  | none => rw [hti] at ha; exact ha.elim
  | some ti =>
    rw [hti] at ha
    obtain ⟨d, hr, hu, hk⟩ := (hT _ _ hti).run_underlying w
    have hat : ∀ (hd : ∀ n e, d ≠ .array n e), (Instr.sliceAt t u vlo vhi vmx).run P w = (Instr.slice t u vlo vhi vmx).run P w := by
      intro hd
      simp only [Instr.sliceAt, Sem.run_bind, hr, Result.andThen_ok]
      all_goals (cases d <;> first | rfl | exact absurd rfl (hd _ _))
    simp only [] at ha
    split at ha
    · -- a text
      rename_i l hkd
      rw [hkd] at hk; simp only [KdOK] at hk; subst hk
      split at ha
      · rename_i p q hp hq
        obtain ⟨hc, rfl⟩ := ha
        simp only [Den] at hx; subst hx
        have hb := run_sliceBounds (P := P) (w := w) (m := m) (n := h.length) false l.length l.length (Nat.le_refl _) lo hi vlo vhi p q hp hq dlo dlo0 dhi dhi0 hc
        obtain rfl := dmx0 rfl
        refine ⟨.string ⟨⟨(l.drop (slLo p)).take (slHi l.length q - slLo p)⟩⟩, ?_, by simp [Den]⟩
        rw [hat (by simp)]
        simp only [Instr.slice, Sem.run_bind, hr, Result.andThen_ok, size_mk]
        simp only [Option.isSome_none, Bool.false_eq_true, if_false, Sem.run_bind, Sem.run_pure, Result.andThen_ok, hb]
        exact congrArg (fun s => Result.ok (Value.string s) w) (ByteArray.extract_mk l (slLo p) (slHi l.length q))
      · exact ha.elim
    · -- a slice
      rename_i e ro b i len full hkd
      rw [hkd] at hk; simp only [KdOK] at hk; subst hk
      cases hte : T e with
      | none => rw [hte] at ha; exact ha.elim
      | some te =>
        rw [hte] at ha
        simp only [] at ha
        split at ha
        · rename_i hz
          split at ha
          · rename_i p q hp hq
            obtain ⟨hc, rfl⟩ := ha
            obtain rfl := dmx0 rfl
            have hesz := eszOf_spec hW hz
            simp only [Den] at hx
            obtain ⟨hb, hsl⟩ := hx
            obtain ⟨c1, c2, c3, c4⟩ := slCond_spec hc
            unfold SlDen at hsl
            split at hsl
            · rename_i hvir
              obtain ⟨rfl, ao, rfl⟩ := hsl
              have hbd := run_sliceBounds (P := P) (w := w) (m := m) (n := h.length) true 0 0 (Nat.le_refl _) lo hi vlo vhi p q hp hq dlo dlo0 dhi dhi0 hc
              refine ⟨.slice ao 0 0, ?_, ?_⟩
              · rw [hat (by simp)]
                simp only [Instr.slice, Sem.run_bind, hr, Result.andThen_ok, hbd, (hT _ _ hte).run_sizeOf w, Sem.run_pure]
                have e1 : slHi 0 q = 0 := by omega
                have e2 : slLo p = 0 := by omega
                simp [e1, e2]
              · simp only [Den]
                refine ⟨hb, ?_⟩
                unfold SlDen
                rw [if_pos hvir]
                exact ⟨by omega, ao, rfl⟩
            · rename_i hvir
              obtain ⟨ad, cap, rfl, h1, h2, h3, h4⟩ := hsl
              have hbd := run_sliceBounds (P := P) (w := w) (m := m) (n := h.length) true len cap h1 lo hi vlo vhi p q hp hq dlo dlo0 dhi dhi0 hc
              refine ⟨.slice (some (if cap = slLo p then ad else ad.add (slLo p * te.size))) (slHi len q - slLo p) (cap - slLo p), ?_, ?_⟩
              · rw [hat (by simp)]
                simp only [Instr.slice, Sem.run_bind, hr, Result.andThen_ok, hbd, (hT _ _ hte).run_sizeOf w, Sem.run_pure]
                congr 2
                split <;> rfl
              · simp only [Den]
                refine ⟨hb, ?_⟩
                unfold SlDen
                rw [if_neg hvir]
                refine ⟨_, _, rfl, by omega, by omega, ?_, ?_⟩
                · intro hf
                  simp only [Bool.and_eq_true] at hf
                  have := h3 hf.1
                  cases q with
                  | none => simp only [slHi]; omega
                  | some y =>
                    have := hf.2
                    simp only [beq_iff_eq] at this
                    simp only [slHi]; omega
                · intro hpos
                  obtain ⟨rfl, h5⟩ := h4 (by omega)
                  refine ⟨?_, by omega⟩
                  rw [if_neg (by omega)]
                  unfold Addr.add
                  rw [hesz]
                  split
                  · rename_i h0; simp only [Addr.mk.injEq, and_true, true_and]; rw [Nat.add_mul]; omega
                  · simp only [Addr.mk.injEq, and_true, true_and]; rw [Nat.add_mul]; omega
          · exact ha.elim
        · exact ha.elim
    · -- nil
      rename_i e hkd
      rw [hkd] at hk; simp only [KdOK] at hk; subst hk
      split at ha
      · rename_i te p q hte hp hq
        obtain ⟨hc, rfl⟩ := ha
        obtain rfl := dmx0 rfl
        simp only [Den] at hx; subst hx
        obtain ⟨c1, c2, c3, c4⟩ := slCond_spec hc
        have hbd := run_sliceBounds (P := P) (w := w) (m := m) (n := h.length) true 0 0 (Nat.le_refl _) lo hi vlo vhi p q hp hq dlo dlo0 dhi dhi0 hc
        refine ⟨.slice none 0 0, ?_, by simp [Den]⟩
        rw [hat (by simp)]
        simp only [Instr.slice, Sem.run_bind, hr, Result.andThen_ok, hbd, (hT _ _ hte).run_sizeOf w, Sem.run_pure]
        have e1 : slHi 0 q = 0 := by omega
        have e2 : slLo p = 0 := by omega
        simp [e1, e2]
      · exact ha.elim
    · rename_i e ro b i len full mm hkd
      rw [hkd] at hk; simp only [KdOK] at hk; subst hk
      cases hte : T e with
      | none => rw [hte] at ha; exact ha.elim
      | some te =>
        rw [hte] at ha
        simp only [] at ha
        split at ha
        · rename_i hz
          simp only [Bool.and_eq_true] at hz
          obtain ⟨z1, z2, z3, z4⟩ := hz
          cases ha
          simp only [Den] at hx
          obtain ⟨hb, hsl⟩ := hx
          rcases zeroAV_den z2 dhi dhi0 with ⟨_, h0⟩ | ⟨k2, rfl, _⟩
          · rw [h0] at z4; simp at z4
          rcases zeroAV_den z3 dmx dmx0 with ⟨_, h0⟩ | ⟨k3, rfl, _⟩
          · exact absurd h0 (by simp)
          have hlo := zeroAV_den z1 dlo dlo0
          unfold SlDen at hsl
          split at hsl
          · rename_i hvir
            obtain ⟨rfl, ao, rfl⟩ := hsl
            refine ⟨.slice ao 0 0, ?_, by simp only [Den]; exact ⟨hb, by unfold SlDen; rw [if_pos hvir]; exact ⟨rfl, ao, rfl⟩⟩⟩
            rw [hat (by simp)]
            rcases hlo with ⟨rfl, _⟩ | ⟨k1, rfl, _⟩ <;> simp [Instr.slice, Instr.sliceBounds, Instr.sliceBound, asIntOf, hr, (hT _ _ hte).run_sizeOf w, pure, Sem.run]
          · rename_i hvir
            obtain ⟨ad, cap, rfl, h1, h2, h3, h4⟩ := hsl
            refine ⟨.slice (some ad) 0 0, ?_, by simp only [Den]; exact ⟨hb, by unfold SlDen; rw [if_neg hvir]; exact ⟨ad, 0, rfl, Nat.le_refl _, by unfold maxLen; omega, fun _ => rfl, fun h => absurd h (Nat.lt_irrefl _)⟩⟩⟩
            rw [hat (by simp)]
            rcases hlo with ⟨rfl, _⟩ | ⟨k1, rfl, _⟩ <;> simp [Instr.slice, Instr.sliceBounds, Instr.sliceBound, asIntOf, hr, (hT _ _ hte).run_sizeOf w, pure, Sem.run]
        · exact ha.elim
    · rename_i e mm hkd
      rw [hkd] at hk; simp only [KdOK] at hk; subst hk
      cases hte : T e with
      | none => rw [hte] at ha; exact ha.elim
      | some te =>
        rw [hte] at ha
        simp only [] at ha
        split at ha
        · rename_i hz
          simp only [Bool.and_eq_true] at hz
          obtain ⟨z1, z2, z3, z4⟩ := hz
          cases ha
          simp only [Den] at hx
          subst hx
          rcases zeroAV_den z2 dhi dhi0 with ⟨_, h0⟩ | ⟨k2, rfl, _⟩
          · rw [h0] at z4; simp at z4
          rcases zeroAV_den z3 dmx dmx0 with ⟨_, h0⟩ | ⟨k3, rfl, _⟩
          · exact absurd h0 (by simp)
          have hlo := zeroAV_den z1 dlo dlo0
          refine ⟨.slice none 0 0, ?_, by simp [Den]⟩
          rw [hat (by simp)]
          rcases hlo with ⟨rfl, _⟩ | ⟨k1, rfl, _⟩ <;> simp [Instr.slice, Instr.sliceBounds, Instr.sliceBound, asIntOf, hr, (hT _ _ hte).run_sizeOf w, pure, Sem.run]
        · exact ha.elim
    · exact ha.elim

/-! ### Index, len, min, max, build -/
def aindex (T : TypeId → Option TI) (t : TypeId) (x ix : AV) : QR :=
  match T t, x, ix with
  | some ti, .str l, .int _ j => match ti.kd with
    | .str => .ck (decide (0 ≤ j) && decide (j < (l.length : Int))) (.int .u8 (l.getD j.toNat 0).toNat)
    | _ => .no
  | some ti, .agg cs, .int _ j => match ti.kd with
    | .array n e => match T e with
      | some te => match apart T e cs (j.toNat * te.size) with
        | .no => .no
        | .ok v => .ck (decide (0 ≤ j) && decide (j < (n : Int))) v
        | .ck c v => .ck (decide (0 ≤ j) && (decide (j < (n : Int)) && c)) v
      | none => .no
    | _ => .no
  | _, _, _ => .no

theorem aindex_ok {T : TypeId → Option TI} {P : Program} (hT : TabOK P T) {m : Map} {n : Nat} {w : World} (t : TypeId) (x ix : AV) (u v : Value)
    (hx : Den m n x u) (hi : Den m n ix v) : (aindex T t x ix).sat m n P w (Instr.index t u v) := by
  refine QR.sat_of fun a ha => ?_
  unfold aindex at ha
  split at ha
  · rename_i ti l k j hti
    split at ha
    · rename_i hkd
      obtain ⟨d, hr, hu, hk⟩ := (hT _ _ hti).run_underlying w
      rw [hkd] at hk; simp only [KdOK] at hk; subst hk
      obtain ⟨hc, rfl⟩ := ha
      simp only [Bool.and_eq_true, decide_eq_true_eq] at hc
      simp only [Den] at hx hi
      subst hx hi
      have hlt : j.toNat < l.length := by omega
      refine ⟨_, ?_, by simp [Den]; rfl⟩
      simp only [Instr.index, asIntOf, Sem.run_bind, Sem.run_pure, Result.andThen_ok, hr]
      rw [if_pos hc.1]
      have e : (⟨⟨l⟩⟩ : ByteArray)[j.toNat]? = some l[j.toNat] := by
        have : j.toNat < (⟨⟨l⟩⟩ : ByteArray).size := hlt
        rw [getElem?_pos (⟨⟨l⟩⟩ : ByteArray) j.toNat this]; rfl
      rw [e]
      simp [List.getD, List.getElem?_eq_getElem hlt, Sem.run]
    · exact ha.elim
  · rename_i ti cs k j hti
    split at ha
    · rename_i nn e hkd
      obtain ⟨d, hr, hu, hk⟩ := (hT _ _ hti).run_underlying w
      rw [hkd] at hk; simp only [KdOK] at hk; subst hk
      cases hte : T e with
      | none => rw [hte] at ha; exact ha.elim
      | some te =>
        rw [hte] at ha
        simp only [] at ha
        simp only [Den] at hx hi
        obtain ⟨us, rfl, hd⟩ := hx
        subst hi
        have hap := apart_ok hT (w := w) e cs us (j.toNat * te.size) hd
        have key : (0 ≤ j ∧ j < (nn : Int)) → (apart T e cs (j.toNat * te.size)).has a → ∃ c, (Instr.index t (.agg us) (.int k j)).run P w = .ok c w ∧ Den m n a c := by
          intro hc hh
          have e1 : (Instr.index t (.agg us) (.int k j)).run P w = (part e us (j.toNat * te.size)).run P w := by
            simp only [Instr.index, asIntOf, Sem.run_bind, Sem.run_pure, Result.andThen_ok, hr]
            rw [if_pos hc]
            simp only [Sem.run_bind, (hT _ _ hte).run_sizeOf w, Result.andThen_ok]
          rw [e1]
          cases hq : apart T e cs (j.toNat * te.size) <;> rw [hq] at hap hh
          · exact hh.elim
          · cases hh; exact hap
          · obtain ⟨h1, rfl⟩ := hh; exact hap h1
        cases hq : apart T e cs (j.toNat * te.size) <;> rw [hq] at ha <;> simp only [] at ha
        · exact ha.elim
        · obtain ⟨hc, rfl⟩ := ha
          simp only [Bool.and_eq_true, decide_eq_true_eq] at hc
          exact key hc (by rw [hq]; rfl)
        · obtain ⟨hc, rfl⟩ := ha
          simp only [Bool.and_eq_true, decide_eq_true_eq] at hc
          exact key ⟨hc.1, hc.2.1⟩ (by rw [hq]; exact ⟨hc.2.2, rfl⟩)
    · exact ha.elim
  · exact ha.elim

def alen (T : TypeId → Option TI) (t : TypeId) (x : AV) : QR :=
  match T t with
  | none => .no
  | some ti => match ti.kd, x with
    | .str, .str l => .ok (.int .i64 l.length)
    | .array n _, .any => .no
    | .array n _, _ => .ok (.int .i64 n)
    | .slice _, .sl _ _ _ len _ => .ok (.int .i64 len)
    | .slice _, .nils => .ok (.int .i64 0)
    | _, _ => .no

theorem alen_ok {T : TypeId → Option TI} {P : Program} (hT : TabOK P T) {m : Map} {n : Nat} {w : World} (t r : TypeId) (ts : List TypeId) (x : AV) (u : Value) (us : List Value)
    (hx : Den m n x u) : (alen T t x).sat m n P w (Builtin.len_ (t :: ts).toArray r (u :: us).toArray) := by
  refine QR.sat_of fun a ha => ?_
  unfold alen at ha
  cases hti : T t with
  | none => rw [hti] at ha; exact ha.elim
  | some ti =>
    rw [hti] at ha
    obtain ⟨d, hr, hu, hk⟩ := (hT _ _ hti).run_underlying w
    simp only [] at ha
    split at ha
    · rename_i l hkd
      rw [hkd] at hk; simp only [KdOK] at hk; subst hk
      cases ha
      simp only [Den] at hx; subst hx
      exact ⟨_, by simp [Builtin.len_, hr, goInt, size_mk, pure, Sem.run]; rfl, by simp [Den]⟩
    · exact ha.elim
    · rename_i nn e hkd _
      rw [hkd] at hk; simp only [KdOK] at hk; subst hk
      cases ha
      exact ⟨_, by simp [Builtin.len_, hr, goInt, pure, Sem.run]; rfl, by simp [Den]⟩
    · rename_i e ro b i len full hkd
      rw [hkd] at hk; simp only [KdOK] at hk; subst hk
      cases ha
      simp only [Den] at hx
      obtain ⟨_, hsl⟩ := hx
      unfold SlDen at hsl
      split at hsl
      · obtain ⟨rfl, ao, rfl⟩ := hsl
        exact ⟨_, by simp [Builtin.len_, hr, goInt, pure, Sem.run]; rfl, by simp [Den]⟩
      · obtain ⟨_, _, rfl, _⟩ := hsl
        exact ⟨_, by simp [Builtin.len_, hr, goInt, pure, Sem.run]; rfl, by simp [Den]⟩
    · rename_i e hkd
      rw [hkd] at hk; simp only [KdOK] at hk; subst hk
      cases ha
      simp only [Den] at hx; subst hx
      exact ⟨_, by simp [Builtin.len_, hr, goInt, pure, Sem.run]; rfl, by simp [Den]⟩
    · exact ha.elim

def aminmax (mx : Bool) : List AV → QR
  | [.int k a, .int k' b] => if k = k' then .ok (.int k (if mx then (if b > a then b else a) else (if b < a then b else a))) else .no
  | _ => .no

theorem DenL.two {m : Map} {n : Nat} {a b : AV} {l : List Value} (h : DenL m n [a, b] l) : ∃ u v, l = [u, v] ∧ Den m n a u ∧ Den m n b v := by
  simp only [DenL] at h
  obtain ⟨u, us, rfl, h1, v, vs, rfl, h2, rfl⟩ := h
  exact ⟨u, v, rfl, h1, h2⟩

theorem amin_ok {P : Program} {m : Map} {n : Nat} {w : World} (ts : Array TypeId) (r : TypeId) (xs : List AV) (us : Array Value) (h : DenL m n xs us.toList) :
    (aminmax false xs).sat m n P w (Builtin.min_ ts r us) := by
  refine QR.sat_of fun a ha => ?_
  unfold aminmax at ha
  split at ha
  · rename_i k x k' y
    split at ha
    · rename_i hk
      subst hk
      cases ha
      obtain ⟨u, v, e, h1, h2⟩ := h.two
      simp only [Den] at h1 h2
      subst h1 h2
      refine ⟨_, ?_, by simp only [Den]; rfl⟩
      simp only [Builtin.min_, e]
      simp [Builtin.min2, pure, Sem.run]
    · exact ha.elim
  · exact ha.elim

theorem amax_ok {P : Program} {m : Map} {n : Nat} {w : World} (ts : Array TypeId) (r : TypeId) (xs : List AV) (us : Array Value) (h : DenL m n xs us.toList) :
    (aminmax true xs).sat m n P w (Builtin.max_ ts r us) := by
  refine QR.sat_of fun a ha => ?_
  unfold aminmax at ha
  split at ha
  · rename_i k x k' y
    split at ha
    · rename_i hk
      subst hk
      cases ha
      obtain ⟨u, v, e, h1, h2⟩ := h.two
      simp only [Den] at h1 h2
      subst h1 h2
      refine ⟨_, ?_, by simp only [Den]; rfl⟩
      simp only [Builtin.max_, e]
      simp [Builtin.max2, pure, Sem.run]
    · exact ha.elim
  · exact ha.elim

/-! ### build -/
def putAt (cells : List AV) (off : Nat) (vs : List AV) : List AV := cells.take off ++ (vs ++ cells.drop (off + vs.length))

def AV.known : AV → Bool
  | .any => false
  | _ => true

def afill (place : Nat → Option (Nat × Nat)) (cells : List AV) : List (Nat × AV) → Option (List AV)
  | [] => some cells
  | (i, v) :: rest =>
    match place i with
    | none => none
    | some (off, size) =>
      if v.known = true ∧ v.cells.length = size ∧ off + v.cells.length ≤ cells.length then afill place (putAt cells off v.cells) rest else none

theorem putAt_get {cells : List AV} {off : Nat} {vs : List AV} (h : off + vs.length ≤ cells.length) (k : Nat) :
    (putAt cells off vs)[k]? = if off ≤ k ∧ k < off + vs.length then vs[k - off]? else cells[k]? := by
  unfold putAt
  by_cases h1 : k < off
  · rw [List.getElem?_append_left (by simp; omega), List.getElem?_take_of_lt h1, if_neg (by omega)]
  · rw [List.getElem?_append_right (by simp; omega)]
    have e : (cells.take off).length = off := by simp; omega
    rw [e]
    by_cases h2 : k < off + vs.length
    · rw [List.getElem?_append_left (by omega), if_pos (by omega)]
    · rw [List.getElem?_append_right (by omega), List.getElem?_drop, if_neg (by omega)]
      congr 1; omega

theorem putAt_length {cells : List AV} {off : Nat} {vs : List AV} (h : off + vs.length ≤ cells.length) : (putAt cells off vs).length = cells.length := by
  unfold putAt; simp; omega

theorem foldl_set (off : Nat) : ∀ (vs : List Value) (j : Nat) (cs : Array Value), off + j + vs.length ≤ cs.size →
    ((vs.zipIdx j).foldl (fun cs (c, i) => cs.setIfInBounds (off + i) c) cs).size = cs.size ∧
    ∀ k, ((vs.zipIdx j).foldl (fun cs (c, i) => cs.setIfInBounds (off + i) c) cs)[k]? = if off + j ≤ k ∧ k < off + j + vs.length then vs[k - (off + j)]? else cs[k]?
  | [], j, cs, h => by
    refine ⟨rfl, fun k => ?_⟩
    simp only [List.zipIdx_nil, List.foldl_nil, List.length_nil]
    rw [if_neg (by omega)]
  | v :: vs, j, cs, h => by
    simp only [List.length_cons] at h
    have ih := foldl_set off vs (j + 1) (cs.setIfInBounds (off + j) v) (by simp; omega)
    simp only [List.zipIdx_cons, List.foldl_cons]
    refine ⟨by rw [ih.1]; simp, fun k => ?_⟩
    rw [ih.2 k]
    by_cases h1 : k = off + j
    · subst h1
      rw [if_neg (by omega), if_pos (by simp)]
      have hlt : off + j < cs.size := by omega
      simp [hlt]
    · by_cases h2 : off + (j + 1) ≤ k ∧ k < off + (j + 1) + vs.length
      · rw [if_pos h2, if_pos (by simp only [List.length_cons]; omega)]
        rw [show k - (off + j) = (k - (off + (j + 1))) + 1 by omega]
        simp
      · rw [if_neg h2, if_neg (by simp only [List.length_cons]; omega)]
        rw [Array.getElem?_setIfInBounds_ne (by omega)]

theorem fill_ok {m : Map} {n : Nat} (place : Nat → Option (Nat × Nat)) : ∀ (parts : List (Nat × AV)) (ps : List (Nat × Value)) (cells res : List AV) (cs : Array Value),
    DenL m n cells cs.toList → ps.map (·.1) = parts.map (·.1) → DenL m n (parts.map (·.2)) (ps.map (·.2)) → afill place cells parts = some res →
    ∃ r, Instr.fill place cs ps = some r ∧ DenL m n res r.toList
  | [], ps, cells, res, cs, hc, h1, h2, hf => by
    have : ps = [] := by simpa using h1
    subst this
    simp only [afill, Option.some.injEq] at hf
    subst hf
    exact ⟨cs, rfl, hc⟩
  | (i, v) :: parts, [], cells, res, cs, hc, h1, h2, hf => by simp at h1
  | (i, v) :: parts, (i', u) :: ps, cells, res, cs, hc, h1, h2, hf => by
    simp only [List.map_cons, List.cons.injEq] at h1
    obtain ⟨rfl, h1⟩ := h1
    simp only [List.map_cons, DenL] at h2
    obtain ⟨u', us, he, hd, h2⟩ := h2
    simp only [List.cons.injEq] at he
    obtain ⟨rfl, rfl⟩ := he
    simp only [afill] at hf
    cases hp : place i' with
    | none => rw [hp] at hf; exact absurd hf (by simp)
    | some pr =>
      obtain ⟨off, size⟩ := pr
      rw [hp] at hf
      simp only [] at hf
      split at hf
      · rename_i hcond
        obtain ⟨k1, k2, k3⟩ := hcond
        have hdc := hd.cells (fun e => by rw [e] at k1; simp [AV.known] at k1)
        have hlen := hdc.length
        have hclen := hc.length
        simp only [Array.length_toList] at hlen hclen
        have hset := foldl_set off u.cells.toList 0 cs (by simp; omega)
        simp only [Nat.add_zero, Array.length_toList] at hset
        have hz : u.cells.zipIdx.foldl (fun cs (c, j) => cs.setIfInBounds (off + j) c) cs = (u.cells.toList.zipIdx 0).foldl (fun cs (c, i) => cs.setIfInBounds (off + i) c) cs := by
          rw [← Array.foldl_toList]; simp
        simp only [Instr.fill, hp]
        rw [if_neg (by simp; omega), hz]
        refine fill_ok place parts ps _ res _ ?_ h1 h2 hf
        refine DenL.of (by rw [putAt_length k3]; simp [hset.1, hclen]) ?_
        intro k a ha
        rw [putAt_get k3] at ha
        have := hset.2 k
        rw [← Array.getElem?_toList] at this
        rw [this]
        split at ha
        · rename_i hk
          rw [if_pos (by omega)]
          exact hdc.get ha
        · rename_i hk
          rw [if_neg (by omega)]
          simpa using hc.get ha
      · exact absurd hf (by simp)

def places (kd : Kd) (te : Nat) : Nat → Option (Nat × Nat) :=
  match kd with
  | .struct fs => fun i => (fs[i]?).map fun f => (f.2.1, f.2.2)
  | .array _ _ => fun i => some (i * te, te)
  | _ => fun _ => none

def abuild (T : TypeId → Option TI) (t : TypeId) (parts : List (Nat × AV)) : QR :=
  match T t with
  | none => .no
  | some ti => match ti.kd with
    | .struct fs => if fs.all (fun f => (T f.1).isSome) then match afill (places ti.kd 0) ti.zv.cells parts with | some cs => .ok (.agg cs) | none => .no else .no
    | .array _ e => match T e with
      | some te => match afill (places ti.kd te.size) ti.zv.cells parts with | some cs => .ok (.agg cs) | none => .no
      | none => .no
    | _ => .no

end Go.Dc
