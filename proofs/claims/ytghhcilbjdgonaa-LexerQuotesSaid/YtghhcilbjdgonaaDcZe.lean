/- Functions that hold a range over slices.Backward: their condition. -/
import Derived.Test.YtghhcilbjdgonaaDcZd
set_option linter.unusedSimpArgs false
set_option linter.unusedVariables false
namespace Go.Dc
noncomputable section

def hasRange : Code → Bool
  | .seq a b => hasRange a || hasRange b
  | .cond _ a b => hasRange a || hasRange b
  | .block _ b => hasRange b
  | .loop b => hasRange b
  | .rangeFunc .. => true
  | _ => false

/-- The rounds that are left, of a range whose elements are known. -/
def rng (go : Code → St → (Exit → St → Prop) → Prop) (st : St) (p0 p1 : Tmp) (as body : Code) (ds : List Nat) (r : Row) (i : Nat) (k : Exit → St → Prop) (len : Nat) : Rows → Prop :=
  Nat.rec (fun rows => forceRows (revive ds st.rows rows) fun rows => k .normal ⟨st.tmps, rows⟩)
    (fun j ih rows => match r.get? (i + j) with
      | some e => setK st.tmps p0 (.int .i64 (j : Int)) fun ts => setK ts p1 e fun ts => go as ⟨ts, rows⟩ fun e1 st1 => match e1 with
        | .normal => go body st1 fun e st2 => match e with
          | .normal => ih st2.rows
          | .ret => forceRows (revive ds st.rows st2.rows) fun rows => k .ret ⟨st.tmps, rows⟩
          | .exit id => forceRows (revive ds st.rows st2.rows) fun rows => k (.exit id) ⟨st.tmps, rows⟩
          | _ => False
        | _ => False
      | none => False) len

theorem rng_succ (go : Code → St → (Exit → St → Prop) → Prop) (st : St) (p0 p1 : Tmp) (as body : Code) (ds : List Nat) (r : Row) (i : Nat) (k : Exit → St → Prop) (j : Nat) (rows : Rows) :
    rng go st p0 p1 as body ds r i k (j + 1) rows = (match r.get? (i + j) with
      | some e => setK st.tmps p0 (.int .i64 (j : Int)) fun ts => setK ts p1 e fun ts => go as ⟨ts, rows⟩ fun e1 st1 => match e1 with
        | .normal => go body st1 fun e st2 => match e with
          | .normal => rng go st p0 p1 as body ds r i k j st2.rows
          | .ret => forceRows (revive ds st.rows st2.rows) fun rows => k .ret ⟨st.tmps, rows⟩
          | .exit id => forceRows (revive ds st.rows st2.rows) fun rows => k (.exit id) ⟨st.tmps, rows⟩
          | _ => False
        | _ => False
      | none => False) := rfl

variable (E : Env Prop) (back : FuncId → Option Nat) (rl : Nat → Option LoopSp) (n : Nat) (f : FuncId)

def codeM : Code → St → (Exit → St → Prop) → Prop
  | .seq x y, st, k => codeM x st fun e st => match e with | .normal => codeM y st k | e => k e st
  | .block id b, st, k => match hasRange b with
    | false => code propAns E (drawAll propAns E) n f (.block id b) st k
    | true => match rl id with
      | some spec => spec st k
      | none => codeM b st fun e st => match e with
        | .exit id' => bif Nat.beq id' id then k .normal st else k (.exit id') st
        | e => k e st
  | .rangeFunc g ⟨[p0, p1]⟩ as body, st, k => match st.ev g with
    | .fn gf [] [.ptr false bx 0 0] => match back gf, st.rows.live bx with
      | some esz, some rb => match rb.get? 0 with
        | some .nils => forceRows (revive [bx] st.rows (dead [bx] st.rows)) fun rows => k .normal ⟨st.tmps, rows⟩
        | some (.sl false b i len _) => match st.rows.live b with
          | some r => cond (Nat.beq r.esz esz && Nat.ble (i + len) r.len) (forceRows (dead [bx, b] st.rows) fun rows => rng (code propAns E (drawAll propAns E) n f) st p0 p1 as body [bx, b] r i k len rows) False
          | none => False
        | _ => False
      | _, _ => False
    | _ => False
  | c, st, k => code propAns E (drawAll propAns E) n f c st k

end

section
variable {E : Env Prop} {back : FuncId → Option Nat} {rl : Nat → Option LoopSp} {n : Nat} {f : FuncId} {P : Program}

theorem SafeR.mono {rd : Option Nat} {ds : List Deferred} {P : Program} {R : Nat → RoRow} {c : Code} {st : St} {Q Q' : Exit → St → Prop} (h : SafeR rd ds P R c st Q) (hq : ∀ e st, Q e st → Q' e st) : SafeR rd ds P R c st Q' :=
  fun m a w m0 h0 w0 ha hr hs => wpIn_mono (h m a w m0 h0 w0 ha hr hs) fun _ _ _ hp => ⟨hp.1.mono hq, hp.2⟩

theorem Row.get?_some {r : Row} {i : Nat} (h : i < r.len) : ∃ e, r.get? i = some e := by
  cases r with
  | lst t s l => exact ⟨l[i]'h, by simp only [Row.get?]; exact List.getElem?_eq_getElem h⟩
  | gen t s n a => exact ⟨a i, Row.get_gen h⟩
  | byt t l => exact ⟨.int .u8 (l[i]'h).toNat, by simp only [Row.get?]; rw [List.getElem?_eq_getElem h]; rfl⟩

theorem codeM_ok (hm : P.follows .mixedOrders = true) (hE : EnvOK P E id) (hb : ∀ gf esz, back gf = some esz → BackOK P gf esz ∧ ∀ args w, (callFunc gf args).run P w = .ok (.enter gf args) w)
    (hl : ∀ id, E.loops f id = Option.none)
    (hrl : ∀ id spec, rl id = some spec → ∀ body, (id, body) ∈ E.subsOf f → ∀ st k, spec st k → SafeM P E.R (.block id body) st k) :
    ∀ (c : Code) (st : St) (k : Exit → St → Prop), codeND c = true → (∀ p ∈ subs c, p ∈ E.subsOf f) → codeM E back rl n f c st k → SafeM P E.R c st k := by
  have plain : ∀ (c : Code) (st : St) (k : Exit → St → Prop), codeND c = true → (∀ p ∈ subs c, p ∈ E.subsOf f) → code propAns E (drawAll propAns E) n f c st k → SafeM P E.R c st k := by
    intro c st k hnd hsub h
    exact SafeM.of fun ds => code_okR propHolds hE hm f (fun id spec e => by rw [hl id] at e; cases e) n c st k hnd hsub h
  intro c
  induction c with
  | seq x y ihx ihy =>
    intro st k hnd hsub h
    refine SafeM.seq ((ihx st _ (nd_seq hnd).1 (fun p hp => hsub p (by simp [subs, hp])) h).mono ?_)
    intro e st' hq
    cases e with
    | normal => exact ihy st' k (nd_seq hnd).2 (fun p hp => hsub p (by simp [subs, hp])) hq
    | _ => exact hq
  | block id b ih =>
    intro st k hnd hsub h
    simp only [codeM] at h
    split at h
    · exact plain _ st k hnd hsub h
    · split at h
      · rename_i spec hs
        exact hrl id spec hs b (hsub _ (by simp [subs])) st k h
      · exact SafeM.block (ih st _ (by simpa [codeND] using hnd) (fun p hp => hsub p (by simp [subs, hp])) h)
  | rangeFunc g ps as body iha ihb =>
    intro st k hnd hsub h
    obtain ⟨pl⟩ := ps
    match pl, h with
    | [p0, p1], h =>
      simp only [codeM] at h
      split at h
      · rename_i gf bx hg
        split at h
        · rename_i esz rb hbk hbx
          obtain ⟨hB, hent⟩ := hb gf esz hbk
          have hnd' : codeND as = true ∧ codeND body = true := by simpa [codeND] using hnd
          have hsa : ∀ p ∈ subs as, p ∈ E.subsOf f := fun p hp => hsub p (by simp [subs, hp])
          have hsb : ∀ p ∈ subs body, p ∈ E.subsOf f := fun p hp => hsub p (by simp [subs, hp])
          split at h
          · -- no slice
            rename_i hsv
            rw [forceRows_eq] at h
            refine range_ok (ds := [bx]) (len := 0) (els := fun _ => .any) (I := fun _ rows => rows = dead [bx] st.rows) (X := fun _ _ => False) hB hent hg hbx hsv (by simp) (.inl ⟨rfl, rfl⟩) rfl ?_ ?_ ?_
            · intro l j rows hj; omega
            · rintro rows rfl; exact h
            · intro e rows hx; exact hx.elim
          · rename_i b i len full hsv
            split at h
            · rename_i r hbr
              rcases hold_cond (hold := id) _ _ _ h with ⟨he, h⟩ | ⟨_, h⟩
              · simp only [Bool.and_eq_true] at he
                have hle : i + len ≤ r.len := Nat.le_of_ble_eq_true he.2
                have he := Nat.eq_of_beq_eq_true he.1
                have hels : ∀ j, j < len → r.get? (i + j) = some ((r.get? (i + j)).getD .any) := by
                  intro j hj
                  obtain ⟨e, he'⟩ := Row.get?_some (r := r) (i := i + j) (by omega)
                  rw [he']; rfl
                simp only [id, forceRows_eq] at h
                refine range_ok (ds := [bx, b]) (len := len) (els := fun j => (r.get? (i + j)).getD .any)
                  (I := fun j rows => rng (code propAns E (drawAll propAns E) n f) st p0 p1 as body [bx, b] r i k (len - j) rows)
                  (X := fun e rows => k e ⟨st.tmps, revive [bx, b] st.rows rows⟩) hB hent hg hbx hsv (by simp) ?_ (by simpa using h) ?_ ?_ ?_
                · exact .inr (.inl ⟨b, i, full, r, rfl, hbr, he, by simp, hels⟩)
                · intro l j rows hj hI
                  obtain ⟨q, hq⟩ : ∃ q, len - j = q + 1 := ⟨len - j - 1, by omega⟩
                  have hq2 : len - 1 - j = q := by omega
                  rw [hq] at hI
                  rw [rng_succ, hels q (by omega)] at hI
                  simp only [setK_eq] at hI
                  rw [hq2]
                  have ok := fun c st k => code_okR (rd := some l) (ds := []) propHolds hE hm f (fun id spec e => by rw [hl id] at e; cases e) n c st k
                  refine SafeR.mono (ok as _ _ hnd'.1 hsa hI) ?_
                  intro e1 st1 hq1
                  cases e1 with
                  | normal =>
                    refine ⟨rfl, SafeR.mono (ok body _ _ hnd'.2 hsb hq1) ?_⟩
                    intro e2 st2 hq2'
                    refine ⟨_, .inl rfl, ?_⟩
                    cases e2 with
                    | normal =>
                      have : len - (j + 1) = q := by omega
                      simp only [this]
                      exact hq2'
                    | ret => simpa [forceRows_eq] using hq2'
                    | exit id => simpa [forceRows_eq] using hq2'
                    | _ => exact hq2'.elim
                  | _ => exact hq1.elim
                · intro rows hI
                  simp only [Nat.sub_self, rng, forceRows_eq] at hI
                  exact hI
                · intro e rows hx; exact hx
              · exact h.elim
            · exact h.elim
          · exact h.elim
        · exact h.elim
      · exact h.elim
    | [], h => exact plain _ st k hnd hsub h
    | [_], h => exact plain _ st k hnd hsub h
    | _ :: _ :: _ :: _, h => exact plain _ st k hnd hsub h
  | _ => intro st k hnd hsub h; exact plain _ st k hnd hsub h

noncomputable def vcm (E : Env Prop) (back : FuncId → Option Nat) (rl : Nat → Option LoopSp) (n : Nat) (f : FuncId) (fi : FI) (args : List AV) (h : Rows) (Q : AV → Rows → Prop) : Prop :=
  forceL (enterT args fi.ntmps) fun ts => codeM E back rl n f fi.body ⟨ts, h⟩ fun e st => match e with
    | .normal | .ret => resK propAns E st fi.results fun v => Q v st.rows
    | _ => False

theorem SafeCall.vcm (hm : P.follows .mixedOrders = true) (hE : EnvOK P E id) (hb : ∀ gf esz, back gf = some esz → BackOK P gf esz ∧ ∀ args w, (callFunc gf args).run P w = .ok (.enter gf args) w)
    (hl : ∀ id, E.loops f id = Option.none) (hrl : ∀ id spec, rl id = some spec → ∀ body, (id, body) ∈ E.subsOf f → ∀ st k, spec st k → SafeM P E.R (.block id body) st k)
    {fi : FI} (hF : E.F f = some fi) (hnd : codeND fi.body = true) {args : List AV} {h : Rows} {Q : AV → Rows → Prop} (hk : Dc.vcm E back rl n f fi args h Q) : SafeCall P E.R f args h Q := by
  unfold Dc.vcm at hk
  rw [forceL_eq] at hk
  refine SafeCall.of_bodyM hE.T (hE.F f fi hF) ((codeM_ok hm hE hb hl hrl fi.body _ _ hnd (fun p hp => by unfold Env.subsOf; rw [hF]; exact hp) hk).mono ?_)
  intro e st' he
  cases e <;> first
    | exact ⟨.inl rfl, resL_ok propHolds he⟩
    | exact ⟨.inr rfl, resL_ok propHolds he⟩
    | exact he.elim
end
end Go.Dc
