/- Operations that change no memory: what they answer on abstract values, and that the program answers so. -/
import Derived.Test.YtebgogcdndmaaaaDcA
set_option linter.unusedSimpArgs false
set_option linter.unusedVariables false
namespace Go.Dc

inductive Kd where
  | int (k : IntKind) | bool | str | ptr (e : TypeId) | slice (e : TypeId) | struct (fs : List (TypeId × Nat × Nat)) | array (n : Nat) (e : TypeId) | func | iface | other

structure TI where
  kd : Kd
  size : Nat
  bytes : Nat
  zv : AV
  eqs : Bool      -- a struct of single cells (whole numbers, texts, bools) that == compares cell by cell

def Kd.agg : Kd → Bool
  | .struct _ | .array _ _ => true
  | _ => false

def KdOK (P : Program) : Kd → TypeDesc → Prop
  | .int k, d => d = .int k
  | .bool, d => d = .bool
  | .str, d => d = .string
  | .ptr e, d => d = .pointer e
  | .slice e, d => d = .slice e
  | .struct fs, d => ∃ a : Array Field, d = .struct a ∧ a.toList.map (fun f => (f.type, f.offset, ((P.info? f.type).map (·.size)).getD 0)) = fs
  | .array n e, d => d = .array n e
  | .func, d => ∃ a b c, d = .func a b c
  | .iface, d => ∃ a, d = .interface a
  | .other, d => (match d with | .struct _ | .array _ _ => False | _ => True)

structure TOK (P : Program) (t : TypeId) (ti : TI) : Prop where
  info : ∃ i, P.info? t = some i ∧ i.size = ti.size ∧ i.bytes = ti.bytes ∧ ∃ z, i.zero = some z ∧ ∀ m n, Den m n ti.zv z
  und : ∃ d, P.underlying t = some d ∧ KdOK P ti.kd d
  zk : ti.zv ≠ .any
  eqs : ti.eqs = true → P.stoodInHeld t = false ∧ P.eqGuardType P.depth t = false ∧ ∀ a, P.underlying t = some (.struct a) → ∀ f, f ∈ a.toList → f.name ≠ "_"

def TabOK (P : Program) (T : TypeId → Option TI) : Prop := ∀ t ti, T t = some ti → TOK P t ti

section runs
variable {P : Program} {t : TypeId} {ti : TI} (w : World)

theorem TOK.run_underlying (h : TOK P t ti) : ∃ d, (underlying t).run P w = .ok d w ∧ P.underlying t = some d ∧ KdOK P ti.kd d := by
  obtain ⟨d, hd, hk⟩ := h.und
  exact ⟨d, by simp [underlying, program, Sem.run, hd, pure], hd, hk⟩

theorem TOK.run_sizeOf (h : TOK P t ti) : (sizeOf t).run P w = .ok ti.size w := by
  obtain ⟨i, hi, hs, _⟩ := h.info
  simp [sizeOf, typeInfo, program, Sem.run, hi, pure, hs]

theorem TOK.run_typeInfo (h : TOK P t ti) : ∃ i, (typeInfo t).run P w = .ok i w ∧ i.bytes = ti.bytes ∧ i.size = ti.size := by
  obtain ⟨i, hi, hs, hb, _⟩ := h.info
  exact ⟨i, by simp [typeInfo, program, Sem.run, hi, pure], hb, hs⟩

theorem TOK.run_zero (h : TOK P t ti) : ∃ z, (zeroValue t).run P w = .ok z w ∧ ∀ m n, Den m n ti.zv z := by
  obtain ⟨i, hi, hs, hb, z, hz, hd⟩ := h.info
  exact ⟨z, by simp [zeroValue, typeInfo, program, Sem.run, hi, pure, hz], hd⟩

theorem TOK.run_isAgg (h : TOK P t ti) : (isAgg t).run P w = .ok ti.kd.agg w := by
  obtain ⟨d, hr, hd, hk⟩ := h.run_underlying w
  simp only [isAgg, Sem.run_bind, hr, Result.andThen_ok]
  cases hkd : ti.kd <;> simp only [hkd, KdOK] at hk <;> simp only [Kd.agg]
  case other => cases d <;> simp_all [pure, Sem.run]
  all_goals first
    | (subst hk; simp [pure, Sem.run]; done)
    | (obtain ⟨_, rfl, _⟩ := hk; simp [pure, Sem.run]; done)
    | (obtain ⟨_, rfl⟩ := hk; simp [pure, Sem.run]; done)
    | (obtain ⟨_, _, _, rfl⟩ := hk; simp [pure, Sem.run]; done)
end runs

/-- What an operation answers: nothing that is known; a value; a value, if a condition holds. -/
inductive QR where
  | no
  | ok (v : AV)
  | ck (c : Bool) (v : AV)

def abinInt (op : BinOp) (k : IntKind) (a b : Int) : QR :=
  match op with
  | .add => .ok (.int k (k.wrap (a + b)))
  | .sub => .ok (.int k (k.wrap (a - b)))
  | .mul => .ok (.int k (k.wrap (a * b)))
  | .quo => .ck (b != 0) (.int k (k.wrap (a.tdiv b)))
  | .rem => .ck (b != 0) (.int k (a.tmod b))
  | .and => .ok (.int k (k.wrap ((BitVec.ofInt k.bits a &&& BitVec.ofInt k.bits b).toNat)))
  | .or => .ok (.int k (k.wrap ((BitVec.ofInt k.bits a ||| BitVec.ofInt k.bits b).toNat)))
  | .xor => .ok (.int k (k.wrap ((BitVec.ofInt k.bits a ^^^ BitVec.ofInt k.bits b).toNat)))
  | .eql => .ok (.bool (a == b))
  | .neq => .ok (.bool (a != b))
  | .lss => .ok (.bool (decide (a < b)))
  | .leq => .ok (.bool (decide (a ≤ b)))
  | .gtr => .ok (.bool (decide (a > b)))
  | .geq => .ok (.bool (decide (a ≥ b)))
  | _ => .no

def abinStr (op : BinOp) (x y : List UInt8) : QR :=
  match op with
  | .add => .ck (decide (x.length + y.length ≤ 9223372036854775807)) (.str (x ++ y))
  | .eql => .ok (.bool (x == y))
  | .neq => .ok (.bool !(x == y))
  | .lss => .ok (.bool (Op.bytesLess x y))
  | .leq => .ok (.bool (Op.bytesLess x y || x == y))
  | .gtr => .ok (.bool !(Op.bytesLess x y || x == y))
  | .geq => .ok (.bool !(Op.bytesLess x y))
  | _ => .no

/-- Two values, where one of them is the literal nil, or two bools. -/
def slNil (len : Nat) : Option Bool := bif Nat.ble 1 len then some false else none
def aeq (x y : AV) : Option Bool :=
  match x, y with
  | .nils, .sl _ _ _ len _ | .sl _ _ _ len _, .nils => slNil len
  | .bool a, .bool b => some (a == b)
  | .nilp, .nilp | .nilf, .nilf | .nils, .nils => some true
  | .nilp, .ptr .. | .ptr .., .nilp | .nilf, .fn .. | .fn .., .nilf => some false
  | .nili, .ifc .. | .ifc .., .nili => some false
  | _, _ => none

/-- A field's type is of one cell, which == compares as the cell is. -/
def eqField (T : TypeId → Option TI) (t : TypeId) (x : AV) : Bool :=
  match T t, x with
  | some ti, .int _ _ => match ti.kd with | .int _ => true | _ => false
  | some ti, .str _ => match ti.kd with | .str => true | _ => false
  | some ti, .bool _ => match ti.kd with | .bool => true | _ => false
  | _, _ => false

def eqCell : AV → AV → Option Bool
  | .int k a, .int k' b => if k = k' then some (a == b) else none
  | .str a, .str b => some (a == b)
  | .bool a, .bool b => some (a == b)
  | _, _ => none

def eqAggF (T : TypeId → Option TI) : List (TypeId × Nat × Nat) → Nat → List AV → List AV → Option Bool
  | [], _, [], [] => some true
  | (t, off, _) :: fs, j, x :: xs, y :: ys =>
    if off = j ∧ eqField T t x = true then
      match eqCell x y, eqAggF T fs (j + 1) xs ys with
      | some a, some b => some (a && b)
      | _, _ => none
    else none
  | _, _, _, _ => none

def eqAgg (T : TypeId → Option TI) (t : TypeId) (xs ys : List AV) : Option Bool :=
  match T t with
  | none => none
  | some ti =>
    if ti.eqs then
      match ti.kd with
      | .struct fs => eqAggF T fs 0 xs ys
      | _ => none
    else none

def eqRes (op : BinOp) : Option Bool → QR
  | none => .no
  | some b => match op with
    | .eql => .ok (.bool b)
    | .neq => .ok (.bool !b)
    | _ => .no

def aeqTy (T : TypeId → Option TI) (t : TypeId) (x : AV) : Bool :=
  match T t with
  | none => false
  | some ti => match ti.kd, x with
    | .bool, .bool _ => true
    | .ptr _, .ptr .. | .ptr _, .nilp => true
    | .func, .fn .. | .func, .nilf => true
    | .slice _, .nils => true
    | .iface, .ifc .. => true
    | _, _ => false

def abin (T : TypeId → Option TI) (op : BinOp) (t : TypeId) (x y : AV) : QR :=
  match x, y with
  | .int k a, .int k' b =>
    match op with
    | .shl => .ck (decide (0 ≤ b)) (.int k (k.wrap (a * 2 ^ (min b.toNat k.bits))))
    | .shr => .ck (decide (0 ≤ b)) (.int k (a.fdiv (2 ^ (min b.toNat k.bits))))
    | _ => if k = k' then abinInt op k a b else .no
  | .str a, .str b => abinStr op a b
  | .agg xs, .agg ys => eqRes op (eqAgg T t xs ys)
  | x, y => if aeqTy T t x || aeqTy T t y then eqRes op (aeq x y) else .no

/-! ### Run lemmas -/
theorem toList_mk (l : List UInt8) : (⟨⟨l⟩⟩ : ByteArray).toList = l := by rw [ByteArray.toList_eq]
theorem size_mk (l : List UInt8) : (⟨⟨l⟩⟩ : ByteArray).size = l.length := rfl
theorem append_mk (x y : List UInt8) : (⟨⟨x⟩⟩ ++ ⟨⟨y⟩⟩ : ByteArray) = ⟨⟨x ++ y⟩⟩ := by
  apply ByteArray.ext
  simp [ByteArray.data_append]

def QR.sat (m : Map) (n : Nat) (P : Program) (w : World) (s : Sem Value) : QR → Prop
  | .no => True
  | .ok v => ∃ c, s.run P w = .ok c w ∧ Den m n v c
  | .ck b v => b = true → ∃ c, s.run P w = .ok c w ∧ Den m n v c

theorem abinInt_ok (m : Map) (n : Nat) (P : Program) (w : World) (t : TypeId) (op : BinOp) (k : IntKind) (a b : Int) (h1 : op ≠ .shl) (h2 : op ≠ .shr) :
    (abinInt op k a b).sat m n P w (binOp op t (.int k a) (.int k b)) := by
  cases op <;> simp only [abinInt, QR.sat] <;> first
    | trivial
    | (exact absurd rfl h1)
    | (exact absurd rfl h2)
    | (refine ⟨_, by simp [binOp, Op.intArith, Op.intCmp, Op.intBits, pure, Sem.run]; rfl, by simp [Den]⟩)
    | (intro hb; refine ⟨_, by simp [binOp, Op.intDiv, pure, Sem.run, show b ≠ 0 by simpa using hb]; rfl, by simp [Den]⟩)
    | skip

theorem abinStr_ok (m : Map) (n : Nat) (P : Program) (w : World) (t : TypeId) (op : BinOp) (x y : List UInt8) :
    (abinStr op x y).sat m n P w (binOp op t (.string ⟨⟨x⟩⟩) (.string ⟨⟨y⟩⟩)) := by
  cases op <;> simp only [abinStr, QR.sat] <;> first
    | trivial
    | (refine ⟨_, by simp [binOp, Op.stringOp, pure, Sem.run, toList_mk]; rfl, by simp [Den]⟩)
    | (intro hb; refine ⟨.string ⟨⟨x ++ y⟩⟩, ?_, by simp [Den]⟩
       have hb' : ¬ ((((x.length + y.length : Nat) : Int)) > IntKind.i64.max) := by
         have hm : IntKind.i64.max = 9223372036854775807 := by decide
         simp only [decide_eq_true_eq] at hb
         rw [hm]
         omega
       simp only [binOp, Op.stringOp, size_mk, append_mk]
       rw [if_neg hb']; rfl)

theorem eqField_run {T : TypeId → Option TI} {P : Program} (hT : TabOK P T) {t : TypeId} {m : Map} {n : Nat} {x y : AV} {u v : Value} {b : Bool} (h : eqField T t x = true)
    (hx : Den m n x u) (hy : Den m n y v) (he : eqCell x y = some b) (w : World) (d : Nat) : (Op.equalIn (d + 1) t u v).run P w = .ok b w ∧ ((T t).map (·.kd.agg)) = some false := by
  unfold eqField at h
  cases hti : T t with
  | none => simp [hti] at h
  | some ti =>
    obtain ⟨dd, hr, hu, hk⟩ := (hT _ _ hti).run_underlying w
    rw [hti] at h
    cases x <;> simp at h <;> cases y <;> simp [eqCell] at he <;> simp only [Den] at hx hy <;> subst hx hy <;> split at h <;> (try (exact absurd h Bool.false_ne_true)) <;> (rename_i hkd; rw [hkd] at hk; simp only [KdOK] at hk; subst hk)
    · exact ⟨by rw [run_equalIn_bool' w d t _ _ hu, he], by simp [hkd, Kd.agg]⟩
    · obtain ⟨rfl, rfl⟩ := he
      exact ⟨by rw [run_equalIn_int w d t _ _ _ _ hu], by simp [hkd, Kd.agg]⟩
    · exact ⟨by rw [run_equalIn_string w d t _ _ hu, toList_mk, toList_mk, he], by simp [hkd, Kd.agg]⟩

theorem run_part {P : Program} {t : TypeId} {ti : TI} (h : TOK P t ti) (ha : ti.kd.agg = false) (w : World) (cs : Array Value) (o : Nat) (v : Value) (hv : cs[o]? = some v) :
    (part t cs o).run P w = .ok v w := by
  simp [part, h.run_isAgg w, ha, hv, pure, Sem.run]

theorem eqAggF_run {T : TypeId → Option TI} {P : Program} (hT : TabOK P T) {m : Map} {n : Nat} (us vs : Array Value) (w : World) (d : Nat) : ∀ (fs : List Field) (j : Nat) (xs ys : List AV) (b : Bool),
    eqAggF T (fs.map fun f => (f.type, f.offset, ((P.info? f.type).map (·.size)).getD 0)) j xs ys = some b → (∀ f ∈ fs, f.name ≠ "_") →
    (∀ i x, xs[i]? = some x → ∃ u, us[j + i]? = some u ∧ Den m n x u) → (∀ i y, ys[i]? = some y → ∃ v, vs[j + i]? = some v ∧ Den m n y v) →
    (Op.eqFields (d + 1) us vs fs).run P w = .ok b w
  | [], j, xs, ys, b, h, _, _, _ => by
    cases xs <;> cases ys <;> simp [eqAggF] at h
    subst h; rfl
  | f :: fs, j, [], ys, b, h, _, _, _ => by cases ys <;> simp [eqAggF] at h
  | f :: fs, j, x :: xs, [], b, h, _, _, _ => by simp [eqAggF] at h
  | f :: fs, j, x :: xs, y :: ys, b, h, hn, hx, hy => by
    simp only [List.map_cons, eqAggF] at h
    split at h
    · rename_i hc
      obtain ⟨ho, hf⟩ := hc
      split at h
      · rename_i b0 b1 h0 h1
        simp only [Option.some.injEq] at h
        subst h
        obtain ⟨u, hu, hdu⟩ := hx 0 x (by simp)
        obtain ⟨v, hv, hdv⟩ := hy 0 y (by simp)
        obtain ⟨hr, hg⟩ := eqField_run hT hf hdu hdv h0 w d
        obtain ⟨ti, hti, hag⟩ := Option.map_eq_some_iff.1 hg
        have ih := eqAggF_run hT us vs w d fs (j + 1) xs ys b1 h1 (fun f hf => hn f (List.mem_cons_of_mem _ hf))
          (fun i x hi => by have := hx (i + 1) x (by simpa using hi); rwa [show j + (i + 1) = j + 1 + i by omega] at this)
          (fun i x hi => by have := hy (i + 1) x (by simpa using hi); rwa [show j + (i + 1) = j + 1 + i by omega] at this)
        have hne : f.name ≠ "_" := hn f List.mem_cons_self
        simp only [Op.eqFields]
        rw [if_pos hne]
        simp only [Sem.run_bind, run_part (hT _ _ hti) hag w us f.offset u (by rw [ho]; simpa using hu), run_part (hT _ _ hti) hag w vs f.offset v (by rw [ho]; simpa using hv), Result.andThen_ok, hr]
        cases b0 with
        | true => simp [ih]
        | false => simp [pure, Sem.run]
      · exact absurd h (by simp)
    · exact absurd h (by simp)

theorem eqRes_sat {m : Map} {n : Nat} {P : Program} {w : World} {op : BinOp} {t : TypeId} {ox oy : Operand} {u v : Value} (b : Bool)
    (hg : (eqGuard op t ox oy u v).run P w = .ok () w)
    (h1 : (binOp .eql t u v).run P w = .ok (.bool b) w) (h2 : (binOp .neq t u v).run P w = .ok (.bool !b) w) :
    (eqRes op (some b)).sat m n P w (do eqGuard op t ox oy u v; binOp op t u v) := by
  cases op <;> simp only [eqRes, QR.sat]
  · exact ⟨_, by rw [Sem.run_bind, hg, Result.andThen_ok, h1], by simp [Den]⟩
  · exact ⟨_, by rw [Sem.run_bind, hg, Result.andThen_ok, h2], by simp [Den]⟩

theorem eqGuard_other {P : Program} (w : World) (op : BinOp) (t : TypeId) (ox oy : Operand) (u v : Value) (h1 : u ≠ .nilIface ∨ v ≠ .nilIface) (h2 : ∀ a, u ≠ .agg a) :
    (eqGuard op t ox oy u v).run P w = .ok () w := by
  unfold eqGuard
  split <;> simp only [Bool.not_true, Bool.not_false, Bool.false_eq_true, if_false, if_true]
  · split
    · rcases h1 with h | h <;> exact absurd rfl h
    · exact absurd rfl (h2 _)
    · rfl
  · split
    · rcases h1 with h | h <;> exact absurd rfl h
    · exact absurd rfl (h2 _)
    · rfl
  · rfl

theorem eqRes_of {m : Map} {n : Nat} {P : Program} {w : World} {op : BinOp} {t : TypeId} {ox oy : Operand} {u v : Value} (b : Bool)
    (hg : (eqGuard op t ox oy u v).run P w = .ok () w)
    (h1 : binOp .eql t u v = (do pure (.bool (← Op.equal t u v)))) (h2 : binOp .neq t u v = (do pure (.bool (!(← Op.equal t u v)))))
    (key : ∀ d, (Op.equalIn (d + 1) t u v).run P w = .ok b w) :
    (eqRes op (some b)).sat m n P w (do eqGuard op t ox oy u v; binOp op t u v) := by
  have hk : (Op.equal t u v).run P w = .ok b w := key 9999
  refine eqRes_sat b hg ?_ ?_
  · rw [h1, Sem.run_bind, hk]; rfl
  · rw [h2, Sem.run_bind, hk]; rfl

theorem slNil_some {len : Nat} {b : Bool} (h : slNil len = some b) : b = false ∧ Nat.ble 1 len = true := by
  unfold slNil at h
  cases hb : Nat.ble 1 len <;> rw [hb] at h <;> simp at h
  exact ⟨h, rfl⟩
theorem SlDen.some {l : Loc} {i len : Nat} {full : Bool} {v : Value} (h : SlDen l i len full v) (hl : Nat.ble 1 len = true) : ∃ a cap, v = .slice (some a) len cap := by
  have h1 : 1 ≤ len := Nat.le_of_ble_eq_true hl
  unfold SlDen at h
  split at h
  · omega
  · obtain ⟨a, cap, hv, _⟩ := h
    exact ⟨a, cap, hv⟩
theorem aeq_ok {T : TypeId → Option TI} {P : Program} (hT : TabOK P T) (m : Map) (n : Nat) (w : World) (op : BinOp) (t : TypeId) (ox oy : Operand) (p q : AV) (u v : Value)
    (hp : Den m n p u) (hq : Den m n q v) (hty : (aeqTy T t p || aeqTy T t q) = true) : (eqRes op (aeq p q)).sat m n P w (do eqGuard op t ox oy u v; binOp op t u v) := by
  cases hti : T t with
  | none => simp [aeqTy, hti] at hty
  | some ti =>
    obtain ⟨dd, hr, hu, hk⟩ := (hT _ _ hti).run_underlying w
    unfold aeqTy at hty
    rw [hti] at hty
    simp only [] at hty
    cases p <;> cases q <;> simp only [aeq, eqRes, QR.sat] <;> simp only [Den] at hp hq <;> cases hkd : ti.kd <;> simp [hkd] at hty <;> rw [hkd] at hk <;> simp only [KdOK] at hk
    all_goals first
      | (subst hk; subst hp; obtain ⟨_, h2⟩ := hq
         generalize hc : slNil _ = o
         cases o with
         | none => trivial
         | some b =>
           obtain ⟨rfl, hl⟩ := slNil_some hc
           obtain ⟨_, _, rfl⟩ := h2.some hl
           exact eqRes_of _ (eqGuard_other w _ _ _ _ _ _ (by simp) (by simp)) (by simp only [binOp]) (by simp only [binOp]) (fun d => by simp [Op.equalIn, hr, pure, Sem.run]))
      | (subst hk; subst hq; obtain ⟨_, h2⟩ := hp
         generalize hc : slNil _ = o
         cases o with
         | none => trivial
         | some b =>
           obtain ⟨rfl, hl⟩ := slNil_some hc
           obtain ⟨_, _, rfl⟩ := h2.some hl
           exact eqRes_of _ (eqGuard_other w _ _ _ _ _ _ (by simp) (by simp)) (by simp only [binOp]) (by simp only [binOp]) (fun d => by simp [Op.equalIn, hr, pure, Sem.run]))
      | (subst hk; subst hp; subst hq
         exact eqRes_of _ (eqGuard_other w _ _ _ _ _ _ (by simp) (by simp)) (by simp only [binOp]) (by simp only [binOp]) (fun d => by simp [Op.equalIn, hr, pure, Sem.run]))
      | (subst hk; subst hp; obtain ⟨_, _, rfl⟩ := hq
         exact eqRes_of _ (eqGuard_other w _ _ _ _ _ _ (by simp) (by simp)) (by simp only [binOp]) (by simp only [binOp]) (fun d => by simp [Op.equalIn, hr, pure, Sem.run]))
      | (subst hk; subst hq; obtain ⟨_, _, rfl⟩ := hp
         exact eqRes_of _ (eqGuard_other w _ _ _ _ _ _ (by simp) (by simp)) (by simp only [binOp]) (by simp only [binOp]) (fun d => by simp [Op.equalIn, hr, pure, Sem.run]))
      | (obtain ⟨_, _, _, rfl⟩ := hk; subst hp; subst hq
         exact eqRes_of _ (eqGuard_other w _ _ _ _ _ _ (by simp) (by simp)) (by simp only [binOp]) (by simp only [binOp]) (fun d => by simp [Op.equalIn, hr, pure, Sem.run]))
      | (obtain ⟨_, _, _, rfl⟩ := hk; subst hp; obtain ⟨_, _, rfl, _⟩ := hq
         exact eqRes_of _ (eqGuard_other w _ _ _ _ _ _ (by simp) (by simp)) (by simp only [binOp]) (by simp only [binOp]) (fun d => by simp [Op.equalIn, hr, pure, Sem.run]))
      | (obtain ⟨_, _, _, rfl⟩ := hk; subst hq; obtain ⟨_, _, rfl, _⟩ := hp
         exact eqRes_of _ (eqGuard_other w _ _ _ _ _ _ (by simp) (by simp)) (by simp only [binOp]) (by simp only [binOp]) (fun d => by simp [Op.equalIn, hr, pure, Sem.run]))
      | (obtain ⟨_, rfl⟩ := hk; subst hp; obtain ⟨_, rfl, _⟩ := hq
         exact eqRes_of _ (eqGuard_other w _ _ _ _ _ _ (by simp) (by simp)) (by simp only [binOp]) (by simp only [binOp]) (fun d => by simp [Op.equalIn, hr, pure, Sem.run]))
      | (obtain ⟨_, rfl⟩ := hk; subst hq; obtain ⟨_, rfl, _⟩ := hp
         exact eqRes_of _ (eqGuard_other w _ _ _ _ _ _ (by simp) (by simp)) (by simp only [binOp]) (by simp only [binOp]) (fun d => by simp [Op.equalIn, hr, pure, Sem.run]))

theorem abin_ok {T : TypeId → Option TI} {P : Program} (hT : TabOK P T) (m : Map) (n : Nat) (w : World) (op : BinOp) (t : TypeId) (ox oy : Operand) (x y : AV) (u v : Value)
    (hx : Den m n x u) (hy : Den m n y v) : (abin T op t x y).sat m n P w (do eqGuard op t ox oy u v; binOp op t u v) := by
  have hg : ∀ s : QR, s.sat m n P w (binOp op t u v) → (eqGuard op t ox oy u v).run P w = .ok () w → s.sat m n P w (do eqGuard op t ox oy u v; binOp op t u v) := by
    intro s hs he
    cases s <;> simp only [QR.sat, Sem.run_bind, he, Result.andThen_ok] at hs ⊢ <;> exact hs
  unfold abin
  split
  · rename_i k a k' b
    simp only [Den] at hx hy
    subst hx hy
    have he := eqGuard_other (P := P) w op t ox oy (.int k a) (.int k' b) (by simp) (by simp)
    refine hg _ ?_ he
    split
    · intro hb
      have hb' : ¬ b < 0 := by simpa using hb
      exact ⟨_, by simp [binOp, Op.shift, hb', pure, Sem.run]; rfl, by simp [Den]⟩
    · intro hb
      have hb' : ¬ b < 0 := by simpa using hb
      exact ⟨_, by simp [binOp, Op.shift, hb', pure, Sem.run]; rfl, by simp [Den]⟩
    · rename_i h1 h2
      split
      · rename_i hk
        subst hk
        exact abinInt_ok m n P w t op k a b (fun e => h1 e) (fun e => h2 e)
      · trivial
  · simp only [Den] at hx hy
    subst hx hy
    exact hg _ (abinStr_ok m n P w t op _ _) (eqGuard_other w _ _ _ _ _ _ (by simp) (by simp))
  · rename_i xs ys
    simp only [Den] at hx hy
    obtain ⟨us, rfl, hus⟩ := hx
    obtain ⟨vs, rfl, hvs⟩ := hy
    cases hq : eqAgg T t xs ys with
    | none => trivial
    | some b =>
      unfold eqAgg at hq
      cases hti : T t with
      | none => simp [hti] at hq
      | some ti =>
        rw [hti] at hq
        simp only [] at hq
        split at hq
        · rename_i he
          split at hq
          · rename_i fs hkd
            obtain ⟨dd, hr, hu, hk⟩ := (hT _ _ hti).run_underlying w
            rw [hkd] at hk
            simp only [KdOK] at hk
            obtain ⟨a, rfl, rfl⟩ := hk
            obtain ⟨e1, e2, e3⟩ := (hT _ _ hti).eqs he
            have hfo : P.fieldsOf t = a := by simp [Program.fieldsOf, hu]
            have hrun : (Op.equalIn 10000 t (.agg us) (.agg vs)).run P w = .ok b w := by
              rw [show (10000 : Nat) = 9999 + 1 from rfl, run_equalIn_struct w 9999 t us vs (by rw [hfo, hu]) e1, hfo]
              exact eqAggF_run hT us vs w 9998 a.toList 0 xs ys b hq (e3 a hu)
                (fun i x hi => by
                  obtain ⟨v, hv, hd⟩ := hus.get hi
                  exact ⟨v, by simpa using hv, hd⟩)
                (fun i x hi => by
                  obtain ⟨v, hv, hd⟩ := hvs.get hi
                  exact ⟨v, by simpa using hv, hd⟩)
            exact eqRes_sat b (run_eqGuard_agg w op t ox oy us vs e2) (by rw [run_eql_struct, hrun, Result.andThen_ok]) (by rw [run_neq_struct, hrun, Result.andThen_ok])
          · exact absurd hq (by simp)
        · exact absurd hq (by simp)
  · split
    · rename_i hty
      exact aeq_ok hT m n w op t ox oy _ _ u v hx hy hty
    · trivial

end Go.Dc
