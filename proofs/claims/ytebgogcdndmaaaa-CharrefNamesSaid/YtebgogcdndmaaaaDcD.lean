/- Operations that change no memory, part three: the others; what one operation answers. -/
import Derived.Test.YtebgogcdndmaaaaDcC
set_option linter.unusedSimpArgs false
set_option linter.unusedVariables false
namespace Go.Dc

theorem Den.cells {m : Map} {n : Nat} {v : AV} {u : Value} (hv : v ≠ .any) (h : Den m n v u) : DenL m n v.cells u.cells.toList := by
  have single : ∀ (v : AV) (u : Value), Den m n v u → v.cells = [v] → u.cells = #[u] → DenL m n v.cells u.cells.toList := by
    intro v u h e1 e2
    rw [e1, e2]
    simp only [DenL]
    exact ⟨u, [], rfl, h, rfl⟩
  cases v
  case any => exact absurd rfl hv
  case agg cs =>
    simp only [Den] at h
    obtain ⟨vs, rfl, hd⟩ := h
    exact hd
  all_goals
    refine single _ _ h rfl ?_
    have h' := h
    simp only [Den] at h'
  case sl ro b i len full =>
    unfold SlDen at h'
    obtain ⟨_, h'⟩ := h'
    split at h'
    · obtain ⟨_, _, rfl⟩ := h'; rfl
    · obtain ⟨_, _, rfl, _⟩ := h'; rfl
  all_goals first
    | (subst h'; rfl)
    | (obtain ⟨_, _, rfl⟩ := h'; rfl)
    | (obtain ⟨_, rfl, _⟩ := h'; rfl)
    | (obtain ⟨_, _, rfl, _⟩ := h'; rfl)

def aunary (op : UnOp) (x : AV) : QR :=
  match op, x with
  | .neg, .int k n => .ok (.int k (k.wrap (0 - n)))
  | .not, .bool b => .ok (.bool !b)
  | _, _ => .no

theorem aunary_ok {P : Program} {m : Map} {n : Nat} {w : World} (op : UnOp) (x : AV) (u : Value) (hx : Den m n x u) : (aunary op x).sat m n P w (Op.unary op u) := by
  unfold aunary
  split <;> first
    | trivial
    | (simp only [Den] at hx
       subst hx
       exact ⟨_, by simp [Op.unary, Op.intArith, pure, Sem.run]; rfl, by simp [Den]⟩)

def byteOfAV : AV → Option UInt8
  | .int .u8 n => some (UInt8.ofNat n.toNat)
  | _ => none

def bytesOf : List AV → Option (List UInt8)
  | [] => some []
  | a :: as => match byteOfAV a, bytesOf as with
    | some c, some l => some (c :: l)
    | _, _ => none

def bytesAt (h : Rows) (b i len : Nat) : Option (Bool × List UInt8) :=
  match h.live b with
  | some (.byt _ l) => some (decide (i + len ≤ l.length), (l.drop i).take len)
  | some (.lst _ _ els) => (bytesOf ((els.drop i).take len)).map fun l => (decide (i + len ≤ els.length), l)
  | _ => none

def aconv (T : TypeId → Option TI) (h : Rows) (s d : TypeId) (x : AV) : QR :=
  match T s, T d with
  | some ts, some td =>
    match td.kd, x with
    | .int k, .int _ n => .ok (.int k (k.wrap n))
    | .str, .int _ n => .ok (.str (Utf8.encode n).data.toList)
    | .str, .str l => .ok (.str l)
    | .str, .nils => match ts.kd with
      | .slice e => match T e with
        | some te => match te.kd with | .int .u8 => .ok (.str []) | _ => .no
        | none => .no
      | _ => .no
    | .str, .sl false b i len _ => match ts.kd with
      | .slice e => match T e with
        | some te => match te.kd, te.size, eszOf (fun _ => ⟨0, 0, 0, fun _ => .any⟩) h false b, bytesAt h b i len with
          | .int .u8, 1, some 1, some (c, l) => .ck c (.str l)
          | _, _, _, _ => .no
        | none => .no
      | _ => .no
    | _, _ => .no
  | _, _ => .no

theorem bytesOf_spec : ∀ {as : List AV} {l : List UInt8}, bytesOf as = some l → l.length = as.length ∧ ∀ (j : Nat) (c : UInt8), l[j]? = some c → ∃ n, as[j]? = some (.int .u8 n) ∧ c = UInt8.ofNat n.toNat
  | [], l, h => by simp [bytesOf] at h; subst h; simp
  | a :: as, l, h => by
    simp only [bytesOf] at h
    split at h
    · rename_i c l' h1 h2
      simp only [Option.some.injEq] at h
      subst h
      obtain ⟨hl, hg⟩ := bytesOf_spec h2
      refine ⟨by simp [hl], fun j c' hj => ?_⟩
      cases j with
      | zero =>
        simp at hj; subst hj
        unfold byteOfAV at h1
        split at h1
        · rename_i n; cases h1; exact ⟨n, by simp, rfl⟩
        · exact absurd h1 (by simp)
      | succ j => simpa using hg j c' (by simpa using hj)
    · exact absurd h (by simp)

theorem bytesAt_spec {R : Nat → RoRow} {m : Map} {h : Rows} {w : World} (hW : WR R m h w) {b i len : Nat} {l : List UInt8} (he : bytesAt h b i len = some (true, l)) (hv : (m.mu b).vir = false) (hz : (m.mu b).esz = 1) :
    l.length = len ∧ ∀ j c, l[j]? = some c → ∃ n, w.cell? ⟨(m.mu b).blk, (m.mu b).shift + i + j, none⟩ = some (.int .u8 n) ∧ c = UInt8.ofNat n.toNat := by
  unfold bytesAt at he
  cases hl : h.live b with
  | none => rw [hl] at he; simp at he
  | some r =>
    rw [hl] at he
    have hrow := hW.row b r hl
    unfold RowOK at hrow
    rw [hv] at hrow
    simp only [Bool.false_eq_true, if_false] at hrow
    obtain ⟨h1, h2, c, fz, hb, h3, h4, hall⟩ := hrow
    have key : ∀ j n, r.get? (i + j) = some (.int .u8 n) → w.cell? ⟨(m.mu b).blk, (m.mu b).shift + i + j, none⟩ = some (.int .u8 n) := by
      intro j n hg
      obtain ⟨_, h6⟩ := hall _ _ hg
      obtain ⟨_, v, hv1, hd⟩ := h6 0 (.int .u8 n) rfl
      simp only [Den] at hd
      subst hd
      rw [hz] at hv1
      simp only [World.cell?, hb, Option.isSome_none, Bool.false_eq_true, if_false]
      rw [← hv1]; congr 1; omega
    cases r with
    | gen t s n f => simp at he
    | byt t bl =>
      simp only [Option.some.injEq, Prod.mk.injEq, decide_eq_true_eq] at he
      obtain ⟨hle, rfl⟩ := he
      refine ⟨by simp; omega, fun j c' hj => ?_⟩
      have hjl : j < len := by
        have := (List.getElem?_eq_some_iff.1 hj).1
        simp at this; omega
      rw [List.getElem?_take_of_lt hjl, List.getElem?_drop] at hj
      refine ⟨(c'.toNat : Int), key j _ (by simp [Row.get?, hj]), ?_⟩
      simp
    | lst t s els =>
      obtain ⟨l', hl', hp⟩ := Option.map_eq_some_iff.1 he
      simp only [Prod.mk.injEq, decide_eq_true_eq] at hp
      obtain ⟨hle, rfl⟩ := hp
      obtain ⟨hlen, hg⟩ := bytesOf_spec hl'
      refine ⟨by rw [hlen]; simp; omega, fun j c' hj => ?_⟩
      obtain ⟨n, hn, rfl⟩ := hg j c' hj
      have hjl : j < len := by
        have := (List.getElem?_eq_some_iff.1 hn).1
        simp at this; omega
      rw [List.getElem?_take_of_lt hjl, List.getElem?_drop] at hn
      exact ⟨n, key j n (by simp [Row.get?, hn]), rfl⟩

theorem run_bytes {P : Program} {w : World} (a : Addr) (len cap : Nat) (l : List UInt8) (hl : l.length = len)
    (h : ∀ j c, l[j]? = some c → ∃ n, w.cell? (a.add j) = some (.int .u8 n) ∧ c = UInt8.ofNat n.toNat) :
    (Conv.bytesToString (.slice (some a) len cap)).run P w = .ok (.string ⟨⟨l⟩⟩) w := by
  obtain ⟨f, hf⟩ : ∃ f : Nat → Int, ∀ j c, l[j]? = some c → w.cell? (a.add j) = some (.int .u8 (f j)) ∧ c = UInt8.ofNat (f j).toNat := by
    refine ⟨fun j => match w.cell? (a.add j) with | some (.int .u8 n) => n | _ => 0, fun j c hc => ?_⟩
    obtain ⟨n, hn, hcn⟩ := h j c hc
    simp only [hn]
    exact ⟨trivial, hcn⟩
  have hload := run_loadCells_list (P := P) (w := w) a (((List.range l.length).map f).map (Value.int .u8)) (by
    intro j x hx
    have hj : j < l.length := by have := (List.getElem?_eq_some_iff.1 hx).1; simpa using this
    have hx' : Value.int .u8 (f j) = x := by simpa [List.getElem?_range hj] using hx
    subst hx'
    exact (hf j l[j] (List.getElem?_eq_getElem hj)).1)
  subst hl
  have hload' : (loadCells a l.length).run P w = .ok (((List.range l.length).map f).map (Value.int .u8)).toArray w := by
    rw [List.length_map, List.length_map, List.length_range] at hload; exact hload
  rw [run_bytesToString (P := P) w a l.length cap ((List.range l.length).map f) hload', foldl_push_bytes]
  congr 2
  apply ByteArray.ext
  simp only [ByteArray.data_empty, Array.empty_append]
  apply congrArg
  apply List.ext_getElem?
  intro j
  by_cases hj : j < l.length
  · have := (hf j l[j] (List.getElem?_eq_getElem hj)).2
    simp [hj, ← this]
  · simp [hj, List.getElem?_eq_none (Nat.le_of_not_lt hj)]

theorem aconv_ok {T : TypeId → Option TI} {P : Program} (hT : TabOK P T) {R : Nat → RoRow} {m : Map} {h : Rows} {w : World} (hW : WR R m h w) (s d : TypeId) (x : AV) (u : Value)
    (hx : Den m h.length x u) : (aconv T h s d x).sat m h.length P w (convert s d u) := by
  refine QR.sat_of fun a ha => ?_
  unfold aconv at ha
  split at ha
  case h_2 => exact ha.elim
  rename_i ts td hts htd
  obtain ⟨ds, hrs, hus, hks⟩ := (hT _ _ hts).run_underlying w
  obtain ⟨dd, hrd, hud, hkd⟩ := (hT _ _ htd).run_underlying w
  split at ha
  · rename_i k k' n hk
    cases ha
    rw [hk] at hkd; simp only [KdOK] at hkd; subst hkd
    simp only [Den] at hx; subst hx
    exact ⟨_, by simp only [convert, Sem.run_bind, hrs, hrd, Result.andThen_ok]; simp [Conv.intToInt, pure, Sem.run]; rfl, by simp [Den]⟩
  · rename_i k n hk
    cases ha
    rw [hk] at hkd; simp only [KdOK] at hkd; subst hkd
    simp only [Den] at hx; subst hx
    exact ⟨_, by simp only [convert, Sem.run_bind, hrs, hrd, Result.andThen_ok]; simp [Conv.intToString, pure, Sem.run]; rfl, by simp [Den]⟩
  · rename_i l hk
    cases ha
    rw [hk] at hkd; simp only [KdOK] at hkd; subst hkd
    simp only [Den] at hx; subst hx
    exact ⟨_, by simp only [convert, Sem.run_bind, hrs, hrd, Result.andThen_ok]; simp [pure, Sem.run]; rfl, by simp [Den]⟩
  · rename_i hk
    rw [hk] at hkd; simp only [KdOK] at hkd; subst hkd
    simp only [Den] at hx; subst hx
    split at ha
    · rename_i e hke
      rw [hke] at hks; simp only [KdOK] at hks; subst hks
      cases hte : T e with
      | none => rw [hte] at ha; exact ha.elim
      | some te =>
        rw [hte] at ha
        obtain ⟨de, hre, hue, hkk⟩ := (hT _ _ hte).run_underlying w
        simp only [] at ha
        split at ha
        · rename_i hkte
          cases ha
          rw [hkte] at hkk; simp only [KdOK] at hkk; subst hkk
          exact ⟨.string ⟨⟨[]⟩⟩, by simp only [convert, Sem.run_bind, hrs, hrd, Result.andThen_ok, hre]; simp [Conv.bytesToString, pure, Sem.run]; rfl, by simp [Den]⟩
        · exact ha.elim
    · exact ha.elim
  · rename_i b i len full hk
    rw [hk] at hkd; simp only [KdOK] at hkd; subst hkd
    split at ha
    · rename_i e hke
      rw [hke] at hks; simp only [KdOK] at hks; subst hks
      cases hte : T e with
      | none => rw [hte] at ha; exact ha.elim
      | some te =>
        rw [hte] at ha
        obtain ⟨de, hre, hue, hkk⟩ := (hT _ _ hte).run_underlying w
        simp only [] at ha
        split at ha
        · rename_i c l hkte hsz hez hba
          obtain ⟨hc, rfl⟩ := ha
          subst hc
          rw [hkte] at hkk; simp only [KdOK] at hkk; subst hkk
          simp only [Den] at hx
          obtain ⟨hb, hsl⟩ := hx
          have hesz : (m.mu b).esz = 1 := by
            obtain ⟨r, hr, hrz⟩ := Option.map_eq_some_iff.1 hez
            rw [(hW.row b r hr).1, hrz]
          unfold SlDen at hsl
          simp only [Map.loc, Bool.false_eq_true, if_false] at hsl
          have hlen0 : ∀ l : List UInt8, l.length = 0 → l = [] := fun l h => List.length_eq_zero_iff.1 h
          split at hsl
          · rename_i hvir
            obtain ⟨rfl, ao, rfl⟩ := hsl
            have : l = [] := by
              unfold bytesAt at hba
              cases hl : h.live b with
              | none => rw [hl] at hba; simp at hba
              | some r =>
                rw [hl] at hba
                cases r with
                | gen => simp at hba
                | byt t bl => simp at hba; first | exact hba.2.symm | exact hba.2 | exact hba.2.2
                | lst t s els =>
                  simp [bytesOf] at hba; first | exact hba.2.symm | exact hba.2
            subst this
            cases ao with
            | none => exact ⟨.string ⟨⟨[]⟩⟩, by simp only [convert, Sem.run_bind, hrs, hrd, Result.andThen_ok, hre]; simp [Conv.bytesToString, pure, Sem.run]; rfl, by simp [Den]⟩
            | some ad =>
              refine ⟨.string ⟨⟨[]⟩⟩, ?_, by simp [Den]⟩
              simp only [convert, Sem.run_bind, hrs, hrd, Result.andThen_ok, hre]
              exact run_bytes ad 0 0 [] rfl (fun j c hj => by simp at hj)
          · rename_i hvir
            obtain ⟨ad, cap, rfl, h1, h2, h3, h4⟩ := hsl
            obtain ⟨hl, hg⟩ := bytesAt_spec hW hba (by simpa using hvir) hesz
            refine ⟨.string ⟨⟨l⟩⟩, ?_, by simp [Den]⟩
            have hr := run_bytes (P := P) (w := w) ad len cap l hl (by
              intro j c hj
              have hj' : j < len := by rw [← hl]; exact (List.getElem?_eq_some_iff.1 hj).1
              obtain ⟨rfl, _⟩ := h4 (by omega)
              obtain ⟨n, hn, hcn⟩ := hg j c hj
              refine ⟨n, ?_, hcn⟩
              rw [← hn, hesz]
              congr 1
              unfold Addr.add
              split
              · rename_i h0; subst h0; simp
              · simp)
            simp only [convert, Sem.run_bind, hrs, hrd, Result.andThen_ok, hre]
            exact hr
        · exact ha.elim
    · exact ha.elim
  · exact ha.elim

end Go.Dc
