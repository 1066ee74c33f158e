/- Values, rows, operations on abstract states. -/
import Derived.Orders
import Derived.Below
import Derived.KernelRfl
import Derived.WalkKit
import Derived.Lib.ConvBytes
set_option linter.unusedVariables false
set_option linter.unusedSimpArgs false
section
namespace Go.Dc
inductive Cp where
 | no
 | tight
 | room (n:Nat)
 deriving Inhabited
instance:Coe Bool Cp:=⟨fun b => match b with | true => .tight | false => .no⟩
inductive AV where
 | any
 | bool (b:Bool)
 | int (k:IntKind) (n:Int)
 | str (l:List UInt8)
 | ptr (ro:Bool) (b i o:Nat)
 | nilp
 | sl (ro:Bool) (b i len:Nat) (full:Cp)
 | nils
 | fn (f:FuncId) (first cap:List AV)
 | nilf
 | ifc (t:TypeId) (x:AV)
 | nili
 | agg (cs:List AV)
 | tup (vs:List AV)
 deriving Inhabited
abbrev AV.undef:AV:=.tup []
def AV.cells:AV -> List AV
 | .agg cs => cs
 | v => [v]
def AV.one:AV -> Bool
 | .any | .agg _ | .tup _ => false
 | _ => true
structure Loc where
 blk:Nat
 shift:Nat
 esz:Nat
 ext:Nat
 vir:Bool
structure Map where
 mu:Nat -> Loc
 ro:Nat -> Loc
def Map.loc (m:Map) (ro:Bool) (b:Nat):Loc:=if ro then m.ro b else m.mu b
def CpOK:Cp -> Nat -> Nat -> Prop
 | .no,_,_ => True
 | .tight,len,cap => cap = len
 | .room n,len,cap => len + n <= cap
def SlDen (l:Loc) (i len:Nat) (full:Cp) (v:Value):Prop :=
 if l.vir then len = 0 /\ ∃ ao,v = .slice ao 0 0 /\ CpOK full 0 0
 else ∃ a cap,v = .slice (some a) len cap /\ len <= cap /\ cap <= maxLen /\ CpOK full len cap /\ (0 < cap -> a = ⟨l.blk,l.shift + i * l.esz,none⟩ /\ i + cap <= l.ext)
mutual
def Den (m:Map) (n:Nat):AV -> Value -> Prop
 | .any,_ => True
 | .bool b,v => v = .bool b
 | .int k x,v => v = .int k x
 | .str l,v => v = .string ⟨⟨l⟩⟩
 | .ptr ro b i o,v => (ro = false -> b < n) /\ (m.loc ro b).vir = false /\ v = .pointer (some ⟨(m.loc ro b).blk,(m.loc ro b).shift + (i * (m.loc ro b).esz + o),none⟩)
 | .nilp,v => v = .pointer none
 | .sl ro b i len full,v => (ro = false -> b < n) /\ SlDen (m.loc ro b) i len full v
 | .nils,v => v = .slice none 0 0
 | .fn f first cap,v => ∃ us vs:Array Value,v = .func (.func f) us vs /\ DenL m n first us.toList /\ DenL m n cap vs.toList
 | .nilf,v => v = .nilFunc
 | .ifc t x,v => ∃ u,v = .iface t u /\ Den m n x u
 | .nili,v => v = .nilIface
 | .agg cs,v => ∃ vs:Array Value,v = .agg vs /\ DenL m n cs vs.toList
 | .tup cs,v => ∃ vs:Array Value,v = .tuple vs /\ DenL m n cs vs.toList
def DenL (m:Map) (n:Nat):List AV -> List Value -> Prop
 | [],l => l = []
 | a :: as,l => ∃ v vs,l = v :: vs /\ Den m n a v /\ DenL m n as vs
end
inductive Row where
 | lst (ty:TypeId) (esz:Nat) (els:List AV)
 | gen (ty:TypeId) (esz n:Nat) (at_:Nat -> AV)
 | byt (ty:TypeId) (l:List UInt8)
def Row.ty:Row -> TypeId | .lst t _ _ | .gen t _ _ _ | .byt t _ => t
def Row.esz:Row -> Nat | .lst _ s _ | .gen _ s _ _ => s | .byt .. => 1
def Row.len:Row -> Nat | .lst _ _ l => l.length | .gen _ _ n _ => n | .byt _ l => l.length
def Row.get?:Row -> Nat -> Option AV
 | .lst _ _ l,i => l[i]?
 | .gen _ _ n f,i => bif Nat.blt i n then some (f i) else none
 | .byt _ l,i => (l[i]?).map fun c => .int .u8 c.toNat
abbrev Rows:=List (Option Row)
def Rows.live (h:Rows) (b:Nat):Option Row:=(h[b]?).join
structure St where
 tmps:List AV
 rows:Rows
def FzOff (fz:Nat × Nat) (lo hi size esz:Nat):Prop:=(∀ k,lo <= k -> k < hi -> (fz.1 <= k && k < fz.2) = false) /\ (1 < esz -> (fz.1 <= size && size < fz.2) = false)
theorem FzOff.zero (lo hi size esz:Nat):FzOff (0,0) lo hi size esz:=⟨fun k _ _ => by simp,fun _ => by simp⟩
def RowOK (m:Map) (n:Nat) (l:Loc) (r:Row) (w:World):Prop :=
 l.esz = r.esz /\ r.len <= l.ext /\
 if l.vir then r.len = 0 /\ l.ext = 0
 else ∃ c fz,w.heap[l.blk]? = some (.cells c r.ty fz) /\ l.shift + l.ext * l.esz <= c.size /\
  FzOff fz l.shift (l.shift + l.ext * l.esz) c.size l.esz /\
  ∀ i e,r.get? i = some e -> e.cells.length = l.esz /\
   ∀ o a,e.cells[o]? = some a -> a.one = true /\ ∃ v,c[l.shift + (i * l.esz + o)]? = some v /\ Den m n a v
structure RoRow where
 ty:TypeId
 esz:Nat
 n:Nat
 at_:Nat -> AV
def RoOK (m:Map) (l:Loc) (r:RoRow) (w:World):Prop :=
 l.esz = r.esz /\ r.n <= l.ext /\
 if l.vir then r.n = 0
 else 0 < r.n -> ∃ c fz,w.heap[l.blk]? = some (.cells c r.ty fz) /\
  ∀ i,i < r.n -> (r.at_ i).cells.length = l.esz /\
   ∀ o a,(r.at_ i).cells[o]? = some a -> a.one = true /\ ∃ v,c[l.shift + (i * l.esz + o)]? = some v /\ Den m 0 a v
structure WR (R:Nat -> RoRow) (m:Map) (h:Rows) (w:World):Prop where
 row:∀ b r,h.live b = some r -> RowOK m h.length (m.mu b) r w
 apart:∀ b b' r r',h.live b = some r -> h.live b' = some r' -> (m.mu b).vir = false -> (m.mu b').vir = false -> (m.mu b).blk = (m.mu b').blk -> b = b'
 ro:∀ i,RoOK m (m.ro i) (R i) w
 roApart:∀ i b r,h.live b = some r -> (m.mu b).vir = false -> (m.ro i).vir = false -> 0 < (R i).n -> (m.ro i).blk ≠ (m.mu b).blk
structure Step (m:Map) (h:Rows) (w:World) (m':Map) (h':Rows) (w':World):Prop where
 os:w'.os = w.os
 tape:w'.tape = w.tape
 output:w'.output = w.output
 size:w.heap.size <= w'.heap.size
 block:∀ k,k < w.heap.size -> (∀ b r,h.live b = some r -> (m.mu b).vir = false -> (m.mu b).blk ≠ k) -> w'.heap[k]? = w.heap[k]?
 len:h.length <= h'.length
 mu:∀ b,b < h.length -> m'.mu b = m.mu b
 ro:m'.ro = m.ro
 new:∀ b r,h'.live b = some r -> (m'.mu b).vir = false -> w.heap.size <= (m'.mu b).blk \/ ∃ c r',h.live c = some r' /\ (m.mu c).vir = false /\ (m.mu c).blk = (m'.mu b).blk
theorem Step.refl (m:Map) (h:Rows) (w:World):Step m h w m h w :=
 ⟨rfl,rfl,rfl,Nat.le_refl _,fun _ _ _ => rfl,Nat.le_refl _,fun _ _ => rfl,rfl,fun b r hb hv => .inr ⟨b,r,hb,hv,rfl⟩⟩
theorem Step.trans {m m1 m2:Map} {h h1 h2:Rows} {w w1 w2:World} (a:Step m h w m1 h1 w1) (b:Step m1 h1 w1 m2 h2 w2):Step m h w m2 h2 w2 where
 os:=b.os.trans a.os
 tape:=b.tape.trans a.tape
 output:=b.output.trans a.output
 size:=Nat.le_trans a.size b.size
 block:=fun k hk hn => by
  rw [b.block k (Nat.lt_of_lt_of_le hk a.size),a.block k hk hn]
  intro c r hc hv he
  rcases a.new c r hc hv with h | ⟨d,r',hd,hdv,hde⟩
  ·omega
  ·exact hn d r' hd hdv (hde.trans he)
 len:=Nat.le_trans a.len b.len
 mu:=fun c hc => (b.mu c (Nat.lt_of_lt_of_le hc a.len)).trans (a.mu c hc)
 ro:=b.ro.trans a.ro
 new:=fun c r hc hv => by
  rcases b.new c r hc hv with h | ⟨d,r',hd,hdv,hde⟩
  ·exact .inl (Nat.le_trans a.size h)
  ·rcases a.new d r' hd hdv with h | ⟨e,r'',he,hev,hee⟩
   ·exact .inl (hde ▸ h)
   ·exact .inr ⟨e,r'',he,hev,hee.trans hde⟩
mutual
theorem Den.mono {m m' : Map} {n n' : Nat} (hn : n ≤ n') (hm : ∀ b, b < n → m'.mu b = m.mu b) (hr : m'.ro = m.ro) :
    ∀ (a : AV) (v : Value), Den m n a v → Den m' n' a v
  | .any, _, _ => by simp [Den]
  | .bool b, v, h => by simpa [Den] using h
  | .int k x, v, h => by simpa [Den] using h
  | .str l, v, h => by simpa [Den] using h
  | .ptr ro b i o, v, h => by
    simp only [Den] at h ⊢
    refine ⟨fun e => Nat.lt_of_lt_of_le (h.1 e) hn, ?_⟩
    cases ro with
    | true => have e : m'.loc true b = m.loc true b := by simp [Map.loc, hr]
              rw [e]; exact h.2
    | false => have e : m'.loc false b = m.loc false b := by simp [Map.loc, hm b (h.1 rfl)]
               rw [e]; exact h.2
  | .nilp, v, h => by simpa [Den] using h
  | .sl ro b i len full, v, h => by
    simp only [Den] at h ⊢
    refine ⟨fun e => Nat.lt_of_lt_of_le (h.1 e) hn, ?_⟩
    cases ro with
    | true => have e : m'.loc true b = m.loc true b := by simp [Map.loc, hr]
              rw [e]; exact h.2
    | false => have e : m'.loc false b = m.loc false b := by simp [Map.loc, hm b (h.1 rfl)]
               rw [e]; exact h.2
  | .nils, v, h => by simpa [Den] using h
  | .fn f first cap, v, h => by
    simp only [Den] at h ⊢
    obtain ⟨us, vs, e, hu, hd⟩ := h
    exact ⟨us, vs, e, DenL.mono hn hm hr first _ hu, DenL.mono hn hm hr cap _ hd⟩
  | .nilf, v, h => by simpa [Den] using h
  | .ifc t x, v, h => by
    simp only [Den] at h ⊢
    obtain ⟨u, e, hd⟩ := h
    exact ⟨u, e, Den.mono hn hm hr x _ hd⟩
  | .nili, v, h => by simpa [Den] using h
  | .agg cs, v, h => by
    simp only [Den] at h ⊢
    obtain ⟨vs, e, hd⟩ := h
    exact ⟨vs, e, DenL.mono hn hm hr cs _ hd⟩
  | .tup cs, v, h => by
    simp only [Den] at h ⊢
    obtain ⟨vs, e, hd⟩ := h
    exact ⟨vs, e, DenL.mono hn hm hr cs _ hd⟩
theorem DenL.mono {m m' : Map} {n n' : Nat} (hn : n ≤ n') (hm : ∀ b, b < n → m'.mu b = m.mu b) (hr : m'.ro = m.ro) :
    ∀ (a : List AV) (v : List Value), DenL m n a v → DenL m' n' a v
  | [], v, h => by simpa [DenL] using h
  | a :: as, v, h => by
    simp only [DenL] at h ⊢
    obtain ⟨x, xs, e, hd, hl⟩ := h
    exact ⟨x, xs, e, Den.mono hn hm hr a _ hd, DenL.mono hn hm hr as _ hl⟩
end
theorem DenL.length {m:Map} {n:Nat}:∀ {as:List AV} {vs:List Value},DenL m n as vs -> as.length = vs.length
 | [],_,h => by simp only [DenL] at h; subst h; rfl
 | a :: as,_,h => by
  simp only [DenL] at h
  obtain ⟨x,xs,rfl,_,hl⟩:=h
  simp [DenL.length hl]
theorem DenL.get {m:Map} {n:Nat}:∀ {as:List AV} {vs:List Value},DenL m n as vs -> ∀ {i:Nat} {a:AV},as[i]? = some a -> ∃ v,vs[i]? = some v /\ Den m n a v
 | [],_,_,_,_,h => by simp at h
 | a :: as,_,h,i,b,hi => by
  simp only [DenL] at h
  obtain ⟨x,xs,rfl,hd,hl⟩:=h
  cases i with
  | zero => simp at hi; subst hi; exact ⟨x,by simp,hd⟩
  | succ i => simp at hi; simpa using DenL.get hl hi
theorem DenL.of {m:Map} {n:Nat}:∀ {as:List AV} {vs:List Value},as.length = vs.length -> (∀ (i:Nat) (a:AV),as[i]? = some a -> ∃ v,vs[i]? = some v /\ Den m n a v) -> DenL m n as vs
 | [],vs,hl,_ => by
  have:vs = []:=by cases vs <;> simp_all
  simp [DenL,this]
 | a :: as,[],hl,_ => by simp at hl
 | a :: as,v :: vs,hl,h => by
  simp only [DenL]
  obtain ⟨x,hx,hd⟩:=h 0 a (by simp)
  simp at hx; subst hx
  exact ⟨v,vs,rfl,hd,DenL.of (by simpa using hl) (fun i b hb => by simpa using h (i + 1) b (by simpa using hb))⟩
def single:Value -> Bool
 | .agg _ | .tuple _ => false
 | _ => true
theorem Den.oneCell {m:Map} {n:Nat} {a:AV} {v:Value} (h:Den m n a v) (ho:a.one = true):single v = true:=by
 cases a <;> simp [AV.one] at ho <;> simp only [Den] at h
 all_goals first
  | (subst h; rfl)
  | (obtain ⟨_,rfl⟩:=h; rfl)
  | (obtain ⟨_,rfl,_⟩:=h; rfl)
  | (obtain ⟨_,_,rfl⟩:=h; rfl)
  | (obtain ⟨_,_,rfl,_⟩:=h; rfl)
  | skip
 rename_i ro b i len full
 unfold SlDen at h
 obtain ⟨_,h⟩:=h
 split at h
 ·obtain ⟨_,_,rfl,_⟩:=h; rfl
 ·obtain ⟨_,_,rfl,_⟩:=h; rfl
end Go.Dc
end
section
namespace Go.Dc
inductive Kd where
 | int (k:IntKind) | bool | str | ptr (e:TypeId) | slice (e:TypeId) | struct (fs:List (TypeId × Nat × Nat)) | array (n:Nat) (e:TypeId) | func | iface | other
structure TI where
 kd:Kd
 size:Nat
 bytes:Nat
 zv:AV
 eqs:Bool      -- a struct of single cells (whole numbers,texts,bools) that == compares cell by cell
def Kd.agg:Kd -> Bool
 | .struct _ | .array _ _ => true
 | _ => false
def KdOK (P:Program):Kd -> TypeDesc -> Prop
 | .int k,d => d = .int k
 | .bool,d => d = .bool
 | .str,d => d = .string
 | .ptr e,d => d = .pointer e
 | .slice e,d => d = .slice e
 | .struct fs,d => ∃ a:Array Field,d = .struct a /\ a.toList.map (fun f => (f.type,f.offset,((P.info? f.type).map (·.size)).getD 0)) = fs
 | .array n e,d => d = .array n e
 | .func,d => ∃ a b c,d = .func a b c
 | .iface,d => ∃ a,d = .interface a
 | .other,d => (match d with | .struct _ | .array _ _ => False | _ => True)
structure TOK (P:Program) (t:TypeId) (ti:TI):Prop where
 info:∃ i,P.info? t = some i /\ i.size = ti.size /\ i.bytes = ti.bytes /\ ∃ z,i.zero = some z /\ ∀ m n,Den m n ti.zv z
 und:∃ d,P.underlying t = some d /\ KdOK P ti.kd d
 zk:ti.zv ≠ .any
 eqs : ti.eqs = true → P.stoodInHeld t = false ∧ P.eqGuardType P.depth t = false ∧ ∀ a, P.underlying t = some (.struct a) → ∀ f, f ∈ a.toList → f.name ≠ "_"
def TabOK (P:Program) (T:TypeId -> Option TI):Prop:=∀ t ti,T t = some ti -> TOK P t ti
section runs
variable {P:Program} {t:TypeId} {ti:TI} (w:World)
theorem TOK.run_underlying (h:TOK P t ti):∃ d,(underlying t).run P w = .ok d w /\ P.underlying t = some d /\ KdOK P ti.kd d:=by
 obtain ⟨d,hd,hk⟩:=h.und
 exact ⟨d,by simp [underlying,program,Sem.run,hd,pure],hd,hk⟩
theorem TOK.run_sizeOf (h:TOK P t ti):(sizeOf t).run P w = .ok ti.size w:=by
 obtain ⟨i,hi,hs,_⟩:=h.info
 simp [sizeOf,typeInfo,program,Sem.run,hi,pure,hs]
theorem TOK.run_typeInfo (h:TOK P t ti):∃ i,(typeInfo t).run P w = .ok i w /\ i.bytes = ti.bytes /\ i.size = ti.size:=by
 obtain ⟨i,hi,hs,hb,_⟩:=h.info
 exact ⟨i,by simp [typeInfo,program,Sem.run,hi,pure],hb,hs⟩
theorem TOK.run_zero (h:TOK P t ti):∃ z,(zeroValue t).run P w = .ok z w /\ ∀ m n,Den m n ti.zv z:=by
 obtain ⟨i,hi,hs,hb,z,hz,hd⟩:=h.info
 exact ⟨z,by simp [zeroValue,typeInfo,program,Sem.run,hi,pure,hz],hd⟩
theorem TOK.run_isAgg (h:TOK P t ti):(isAgg t).run P w = .ok ti.kd.agg w:=by
 obtain ⟨d,hr,hd,hk⟩:=h.run_underlying w
 simp only [isAgg,Sem.run_bind,hr,Result.andThen_ok]
 cases hkd:ti.kd <;> simp only [hkd,KdOK] at hk <;> simp only [Kd.agg]
 case other => cases d <;> simp_all [pure,Sem.run]
 all_goals first
  | (subst hk; simp [pure,Sem.run]; done)
  | (obtain ⟨_,rfl,_⟩:=hk; simp [pure,Sem.run]; done)
  | (obtain ⟨_,rfl⟩:=hk; simp [pure,Sem.run]; done)
  | (obtain ⟨_,_,_,rfl⟩:=hk; simp [pure,Sem.run]; done)
end runs
inductive QR where
 | no
 | ok (v:AV)
 | ck (c:Bool) (v:AV)
def abinInt (op:BinOp) (k:IntKind) (a b:Int):QR :=
 match op with
 | .add => .ok (.int k (k.wrap (a + b)))
 | .sub => .ok (.int k (k.wrap (a - b)))
 | .mul => .ok (.int k (k.wrap (a * b)))
 | .quo => .ck (b != 0) (.int k (k.wrap (a.tdiv b)))
 | .rem => .ck (b != 0) (.int k (a.tmod b))
 | .and => .ok (.int k (k.wrap ((BitVec.ofInt k.bits a &&& BitVec.ofInt k.bits b).toNat)))
 | .or => .ok (.int k (k.wrap ((BitVec.ofInt k.bits a ||| BitVec.ofInt k.bits b).toNat)))
 | .xor => .ok (.int k (k.wrap ((BitVec.ofInt k.bits a ^^^ BitVec.ofInt k.bits b).toNat)))
 | .eql => .ok (.bool (a == b))
 | .neq => .ok (.bool (a != b))
 | .lss => .ok (.bool (decide (a < b)))
 | .leq => .ok (.bool (decide (a <= b)))
 | .gtr => .ok (.bool (decide (a > b)))
 | .geq => .ok (.bool (decide (a ≥ b)))
 | _ => .no
def abinStr (op:BinOp) (x y:List UInt8):QR :=
 match op with
 | .add => .ck (decide (x.length + y.length <= 9223372036854775807)) (.str (x ++ y))
 | .eql => .ok (.bool (x == y))
 | .neq => .ok (.bool !(x == y))
 | .lss => .ok (.bool (Op.bytesLess x y))
 | .leq => .ok (.bool (Op.bytesLess x y || x == y))
 | .gtr => .ok (.bool !(Op.bytesLess x y || x == y))
 | .geq => .ok (.bool !(Op.bytesLess x y))
 | _ => .no
def slNil (len:Nat):Option Bool:=bif Nat.ble 1 len then some false else none
def aeq (x y:AV):Option Bool :=
 match x,y with
 | .nils,.sl _ _ _ len _ | .sl _ _ _ len _,.nils => slNil len
 | .bool a,.bool b => some (a == b)
 | .nilp,.nilp | .nilf,.nilf | .nils,.nils => some true
 | .nilp,.ptr .. | .ptr ..,.nilp | .nilf,.fn .. | .fn ..,.nilf => some false
 | .nili,.ifc .. | .ifc ..,.nili => some false
 | _,_ => none
def eqField (T:TypeId -> Option TI) (t:TypeId) (x:AV):Bool :=
 match T t,x with
 | some ti,.int _ _ => match ti.kd with | .int _ => true | _ => false
 | some ti,.str _ => match ti.kd with | .str => true | _ => false
 | some ti,.bool _ => match ti.kd with | .bool => true | _ => false
 | _,_ => false
def eqCell:AV -> AV -> Option Bool
 | .int k a,.int k' b => if k = k' then some (a == b) else none
 | .str a,.str b => some (a == b)
 | .bool a,.bool b => some (a == b)
 | _,_ => none
def eqAggF (T:TypeId -> Option TI):List (TypeId × Nat × Nat) -> Nat -> List AV -> List AV -> Option Bool
 | [],_,[],[] => some true
 | (t,off,_) :: fs,j,x :: xs,y :: ys =>
  if off = j /\ eqField T t x = true then
   match eqCell x y,eqAggF T fs (j + 1) xs ys with
   | some a,some b => some (a && b)
   | _,_ => none
  else none
 | _,_,_,_ => none
def eqArr (T:TypeId -> Option TI) (e:TypeId):List AV -> List AV -> Option Bool
 | [],[] => some true
 | x :: xs,y :: ys =>
  if eqField T e x = true then
   match eqCell x y,eqArr T e xs ys with
   | some a,some b => some (a && b)
   | _,_ => none
  else none
 | _,_ => none
def eqAgg (T:TypeId -> Option TI) (t:TypeId) (xs ys:List AV):Option Bool :=
 match T t with
 | none => none
 | some ti =>
  if ti.eqs then
   match ti.kd with
   | .struct fs => eqAggF T fs 0 xs ys
   | .array n e => match T e with
    | some te => if te.size = 1 /\ n = xs.length then eqArr T e xs ys else none
    | none => none
   | _ => none
  else none
def eqRes (op:BinOp):Option Bool -> QR
 | none => .no
 | some b => match op with
  | .eql => .ok (.bool b)
  | .neq => .ok (.bool !b)
  | _ => .no
def aeqTy (T:TypeId -> Option TI) (t:TypeId) (x:AV):Bool :=
 match T t with
 | none => false
 | some ti => match ti.kd,x with
  | .bool,.bool _ => true
  | .ptr _,.ptr .. | .ptr _,.nilp => true
  | .func,.fn .. | .func,.nilf => true
  | .slice _,.nils => true
  | .iface,.ifc .. => true
  | _,_ => false
def abin (T:TypeId -> Option TI) (op:BinOp) (t:TypeId) (x y:AV):QR :=
 match x,y with
 | .int k a,.int k' b =>
  match op with
  | .shl => .ck (decide (0 <= b)) (.int k (k.wrap (a * 2 ^ (min b.toNat k.bits))))
  | .shr => .ck (decide (0 <= b)) (.int k (a.fdiv (2 ^ (min b.toNat k.bits))))
  | _ => if k = k' then abinInt op k a b else .no
 | .str a,.str b => abinStr op a b
 | .agg xs,.agg ys => eqRes op (eqAgg T t xs ys)
 | x,y => if aeqTy T t x || aeqTy T t y then eqRes op (aeq x y) else .no
theorem toList_mk (l:List UInt8):(⟨⟨l⟩⟩:ByteArray).toList = l:=by rw [ByteArray.toList_eq]
theorem size_mk (l:List UInt8):(⟨⟨l⟩⟩:ByteArray).size = l.length:=rfl
theorem append_mk (x y:List UInt8):(⟨⟨x⟩⟩ ++ ⟨⟨y⟩⟩:ByteArray) = ⟨⟨x ++ y⟩⟩:=by
 apply ByteArray.ext
 simp [ByteArray.data_append]
def QR.sat (m:Map) (n:Nat) (P:Program) (w:World) (s:Sem Value):QR -> Prop
 | .no => True
 | .ok v => ∃ c,s.run P w = .ok c w /\ Den m n v c
 | .ck b v => b = true -> ∃ c,s.run P w = .ok c w /\ Den m n v c
theorem abinInt_ok (m:Map) (n:Nat) (P:Program) (w:World) (t:TypeId) (op:BinOp) (k:IntKind) (a b:Int) (h1:op ≠ .shl) (h2:op ≠ .shr) :
  (abinInt op k a b).sat m n P w (binOp op t (.int k a) (.int k b)):=by
 cases op <;> simp only [abinInt,QR.sat] <;> first
  | trivial
  | (exact absurd rfl h1)
  | (exact absurd rfl h2)
  | (refine ⟨_,by simp [binOp,Op.intArith,Op.intCmp,Op.intBits,pure,Sem.run]; rfl,by simp [Den]⟩)
  | (intro hb; refine ⟨_,by simp [binOp,Op.intDiv,pure,Sem.run,show b ≠ 0 by simpa using hb]; rfl,by simp [Den]⟩)
  | skip
theorem abinStr_ok (m : Map) (n : Nat) (P : Program) (w : World) (t : TypeId) (op : BinOp) (x y : List UInt8) :
    (abinStr op x y).sat m n P w (binOp op t (.string ⟨⟨x⟩⟩) (.string ⟨⟨y⟩⟩)) := by
  cases op <;> simp only [abinStr, QR.sat] <;> first
    | trivial
    | (refine ⟨_, by simp [binOp, Op.stringOp, pure, Sem.run, toList_mk]; rfl, by simp [Den]⟩)
    | (intro hb; refine ⟨.string ⟨⟨x ++ y⟩⟩, ?_, by simp [Den]⟩
       have hb' : ¬ ((((x.length + y.length : Nat) : Int)) > IntKind.i64.max) := by
         have hm : IntKind.i64.max = 9223372036854775807 := by decide
         simp only [decide_eq_true_eq] at hb
         rw [hm]
         omega
       simp only [binOp, Op.stringOp, size_mk, append_mk]
       rw [if_neg hb']; rfl)
theorem eqField_run {T:TypeId -> Option TI} {P:Program} (hT:TabOK P T) {t:TypeId} {m:Map} {n:Nat} {x y:AV} {u v:Value} {b:Bool} (h:eqField T t x = true)
  (hx:Den m n x u) (hy:Den m n y v) (he:eqCell x y = some b) (w:World) (d:Nat):(Op.equalIn (d + 1) t u v).run P w = .ok b w /\ ((T t).map (·.kd.agg)) = some false:=by
 unfold eqField at h
 cases hti:T t with
 | none => simp [hti] at h
 | some ti =>
  obtain ⟨dd,hr,hu,hk⟩:=(hT _ _ hti).run_underlying w
  rw [hti] at h
  cases x <;> simp at h <;> cases y <;> simp [eqCell] at he <;> simp only [Den] at hx hy <;> subst hx hy <;> split at h <;> (try (exact absurd h Bool.false_ne_true)) <;> (rename_i hkd; rw [hkd] at hk; simp only [KdOK] at hk; subst hk)
  ·exact ⟨by rw [run_equalIn_bool' w d t _ _ hu,he],by simp [hkd,Kd.agg]⟩
  ·obtain ⟨rfl,rfl⟩:=he
   exact ⟨by rw [run_equalIn_int w d t _ _ _ _ hu],by simp [hkd,Kd.agg]⟩
  ·exact ⟨by rw [run_equalIn_string w d t _ _ hu,toList_mk,toList_mk,he],by simp [hkd,Kd.agg]⟩
theorem run_part {P:Program} {t:TypeId} {ti:TI} (h:TOK P t ti) (ha:ti.kd.agg = false) (w:World) (cs:Array Value) (o:Nat) (v:Value) (hv:cs[o]? = some v) :
  (part t cs o).run P w = .ok v w:=by
 simp [part,h.run_isAgg w,ha,hv,pure,Sem.run]
theorem eqAggF_run {T:TypeId -> Option TI} {P:Program} (hT:TabOK P T) {m:Map} {n:Nat} (us vs:Array Value) (w:World) (d:Nat):∀ (fs:List Field) (j:Nat) (xs ys:List AV) (b:Bool),
  eqAggF T (fs.map fun f => (f.type, f.offset, ((P.info? f.type).map (·.size)).getD 0)) j xs ys = some b → (∀ f ∈ fs, f.name ≠ "_") →
  (∀ i x,xs[i]? = some x -> ∃ u,us[j + i]? = some u /\ Den m n x u) -> (∀ i y,ys[i]? = some y -> ∃ v,vs[j + i]? = some v /\ Den m n y v) ->
  (Op.eqFields (d + 1) us vs fs).run P w = .ok b w
 | [],j,xs,ys,b,h,_,_,_ => by
  cases xs <;> cases ys <;> simp [eqAggF] at h
  subst h; rfl
 | f :: fs,j,[],ys,b,h,_,_,_ => by cases ys <;> simp [eqAggF] at h
 | f :: fs,j,x :: xs,[],b,h,_,_,_ => by simp [eqAggF] at h
 | f :: fs,j,x :: xs,y :: ys,b,h,hn,hx,hy => by
  simp only [List.map_cons,eqAggF] at h
  split at h
  ·rename_i hc
   obtain ⟨ho,hf⟩:=hc
   split at h
   ·rename_i b0 b1 h0 h1
    simp only [Option.some.injEq] at h
    subst h
    obtain ⟨u,hu,hdu⟩:=hx 0 x (by simp)
    obtain ⟨v,hv,hdv⟩:=hy 0 y (by simp)
    obtain ⟨hr,hg⟩:=eqField_run hT hf hdu hdv h0 w d
    obtain ⟨ti,hti,hag⟩:=Option.map_eq_some_iff.1 hg
    have ih:=eqAggF_run hT us vs w d fs (j + 1) xs ys b1 h1 (fun f hf => hn f (List.mem_cons_of_mem _ hf))
     (fun i x hi => by have:=hx (i + 1) x (by simpa using hi); rwa [show j + (i + 1) = j + 1 + i by omega] at this)
     (fun i x hi => by have:=hy (i + 1) x (by simpa using hi); rwa [show j + (i + 1) = j + 1 + i by omega] at this)
    have hne : f.name ≠ "_" := hn f List.mem_cons_self
    simp only [Op.eqFields]
    rw [if_pos hne]
    simp only [Sem.run_bind,run_part (hT _ _ hti) hag w us f.offset u (by rw [ho]; simpa using hu),run_part (hT _ _ hti) hag w vs f.offset v (by rw [ho]; simpa using hv),Result.andThen_ok,hr]
    cases b0 with
    | true => simp [ih]
    | false => simp [pure,Sem.run]
   ·exact absurd h (by simp)
  ·exact absurd h (by simp)
theorem eqArr_run {T:TypeId -> Option TI} {P:Program} (hT:TabOK P T) {m:Map} {n:Nat} (us vs:Array Value) (w:World) (d:Nat) (e:TypeId):∀ (xs ys:List AV) (j:Nat) (b:Bool),eqArr T e xs ys = some b ->
  (∀ i x,xs[i]? = some x -> ∃ u,us[j + i]? = some u /\ Den m n x u) -> (∀ i y,ys[i]? = some y -> ∃ v,vs[j + i]? = some v /\ Den m n y v) ->
  (Op.eqItems (d + 1) e 1 us vs (List.range' j xs.length)).run P w = .ok b w
 | [],ys,j,b,h,_,_ => by
  cases ys <;> simp [eqArr] at h
  subst h; rfl
 | x :: xs,[],j,b,h,_,_ => by simp [eqArr] at h
 | x :: xs,y :: ys,j,b,h,hx,hy => by
  simp only [eqArr] at h
  split at h
  ·rename_i hf
   split at h
   ·rename_i b0 b1 h0 h1
    simp only [Option.some.injEq] at h
    subst h
    obtain ⟨u,hu,hdu⟩:=hx 0 x (by simp)
    obtain ⟨v,hv,hdv⟩:=hy 0 y (by simp)
    obtain ⟨hr,hg⟩:=eqField_run hT hf hdu hdv h0 w d
    obtain ⟨ti,hti,hag⟩:=Option.map_eq_some_iff.1 hg
    have ih:=eqArr_run hT us vs w d e xs ys (j + 1) b1 h1
     (fun i x hi => by have:=hx (i + 1) x (by simpa using hi); rwa [show j + (i + 1) = j + 1 + i by omega] at this)
     (fun i x hi => by have:=hy (i + 1) x (by simpa using hi); rwa [show j + (i + 1) = j + 1 + i by omega] at this)
    simp only [List.length_cons,List.range'_succ,Op.eqItems,Nat.mul_one]
    simp only [Sem.run_bind,run_part (hT _ _ hti) hag w us j u (by simpa using hu),run_part (hT _ _ hti) hag w vs j v (by simpa using hv),Result.andThen_ok,hr]
    cases b0 with
    | true => simp [ih]
    | false => simp [pure,Sem.run]
   ·exact absurd h (by simp)
  ·exact absurd h (by simp)
theorem eqRes_sat {m:Map} {n:Nat} {P:Program} {w:World} {op:BinOp} {t:TypeId} {ox oy:Operand} {u v:Value} (b:Bool)
  (hg:(eqGuard op t ox oy u v).run P w = .ok () w)
  (h1:(binOp .eql t u v).run P w = .ok (.bool b) w) (h2:(binOp .neq t u v).run P w = .ok (.bool !b) w) :
  (eqRes op (some b)).sat m n P w (do eqGuard op t ox oy u v; binOp op t u v):=by
 cases op <;> simp only [eqRes,QR.sat]
 ·exact ⟨_,by rw [Sem.run_bind,hg,Result.andThen_ok,h1],by simp [Den]⟩
 ·exact ⟨_,by rw [Sem.run_bind,hg,Result.andThen_ok,h2],by simp [Den]⟩
theorem eqGuard_other {P:Program} (w:World) (op:BinOp) (t:TypeId) (ox oy:Operand) (u v:Value) (h1:u ≠ .nilIface \/ v ≠ .nilIface) (h2:∀ a,u ≠ .agg a) :
  (eqGuard op t ox oy u v).run P w = .ok () w:=by
 unfold eqGuard
 split <;> simp only [Bool.not_true,Bool.not_false,Bool.false_eq_true,if_false,if_true]
 ·split
  ·rcases h1 with h | h <;> exact absurd rfl h
  ·exact absurd rfl (h2 _)
  ·rfl
 ·split
  ·rcases h1 with h | h <;> exact absurd rfl h
  ·exact absurd rfl (h2 _)
  ·rfl
 ·rfl
theorem eqRes_of {m:Map} {n:Nat} {P:Program} {w:World} {op:BinOp} {t:TypeId} {ox oy:Operand} {u v:Value} (b:Bool)
  (hg:(eqGuard op t ox oy u v).run P w = .ok () w)
  (h1:binOp .eql t u v = (do pure (.bool (<- Op.equal t u v)))) (h2:binOp .neq t u v = (do pure (.bool (!(<- Op.equal t u v)))))
  (key:∀ d,(Op.equalIn (d + 1) t u v).run P w = .ok b w) :
  (eqRes op (some b)).sat m n P w (do eqGuard op t ox oy u v; binOp op t u v):=by
 have hk:(Op.equal t u v).run P w = .ok b w:=key 9999
 refine eqRes_sat b hg ?_ ?_
 ·rw [h1,Sem.run_bind,hk]; rfl
 ·rw [h2,Sem.run_bind,hk]; rfl
theorem slNil_some {len:Nat} {b:Bool} (h:slNil len = some b):b = false /\ Nat.ble 1 len = true:=by
 unfold slNil at h
 cases hb:Nat.ble 1 len <;> rw [hb] at h <;> simp at h
 exact ⟨h,rfl⟩
theorem SlDen.some {l:Loc} {i len:Nat} {full:Cp} {v:Value} (h:SlDen l i len full v) (hl:Nat.ble 1 len = true):∃ a cap,v = .slice (some a) len cap:=by
 have h1:1 <= len:=Nat.le_of_ble_eq_true hl
 unfold SlDen at h
 split at h
 ·omega
 ·obtain ⟨a,cap,hv,_⟩:=h
  exact ⟨a,cap,hv⟩
theorem aeq_ok {T : TypeId → Option TI} {P : Program} (hT : TabOK P T) (m : Map) (n : Nat) (w : World) (op : BinOp) (t : TypeId) (ox oy : Operand) (p q : AV) (u v : Value)
    (hp : Den m n p u) (hq : Den m n q v) (hty : (aeqTy T t p || aeqTy T t q) = true) : (eqRes op (aeq p q)).sat m n P w (do eqGuard op t ox oy u v; binOp op t u v) := by
  cases hti : T t with
  | none => simp [aeqTy, hti] at hty
  | some ti =>
    obtain ⟨dd, hr, hu, hk⟩ := (hT _ _ hti).run_underlying w
    unfold aeqTy at hty
    rw [hti] at hty
    simp only [] at hty
    cases p <;> cases q <;> simp only [aeq, eqRes, QR.sat] <;> simp only [Den] at hp hq <;> cases hkd : ti.kd <;> simp [hkd] at hty <;> rw [hkd] at hk <;> simp only [KdOK] at hk
    all_goals first
      | (subst hk; subst hp; obtain ⟨_, h2⟩ := hq
         generalize hc : slNil _ = o
         cases o with
         | none => trivial
         | some b =>
           obtain ⟨rfl, hl⟩ := slNil_some hc
           obtain ⟨_, _, rfl⟩ := h2.some hl
           exact eqRes_of _ (eqGuard_other w _ _ _ _ _ _ (by simp) (by simp)) (by simp only [binOp]) (by simp only [binOp]) (fun d => by simp [Op.equalIn, hr, pure, Sem.run]))
      | (subst hk; subst hq; obtain ⟨_, h2⟩ := hp
         generalize hc : slNil _ = o
         cases o with
         | none => trivial
         | some b =>
           obtain ⟨rfl, hl⟩ := slNil_some hc
           obtain ⟨_, _, rfl⟩ := h2.some hl
           exact eqRes_of _ (eqGuard_other w _ _ _ _ _ _ (by simp) (by simp)) (by simp only [binOp]) (by simp only [binOp]) (fun d => by simp [Op.equalIn, hr, pure, Sem.run]))
      | (subst hk; subst hp; subst hq
         exact eqRes_of _ (eqGuard_other w _ _ _ _ _ _ (by simp) (by simp)) (by simp only [binOp]) (by simp only [binOp]) (fun d => by simp [Op.equalIn, hr, pure, Sem.run]))
      | (subst hk; subst hp; obtain ⟨_, _, rfl⟩ := hq
         exact eqRes_of _ (eqGuard_other w _ _ _ _ _ _ (by simp) (by simp)) (by simp only [binOp]) (by simp only [binOp]) (fun d => by simp [Op.equalIn, hr, pure, Sem.run]))
      | (subst hk; subst hq; obtain ⟨_, _, rfl⟩ := hp
         exact eqRes_of _ (eqGuard_other w _ _ _ _ _ _ (by simp) (by simp)) (by simp only [binOp]) (by simp only [binOp]) (fun d => by simp [Op.equalIn, hr, pure, Sem.run]))
      | (obtain ⟨_, _, _, rfl⟩ := hk; subst hp; subst hq
         exact eqRes_of _ (eqGuard_other w _ _ _ _ _ _ (by simp) (by simp)) (by simp only [binOp]) (by simp only [binOp]) (fun d => by simp [Op.equalIn, hr, pure, Sem.run]))
      | (obtain ⟨_, _, _, rfl⟩ := hk; subst hp; obtain ⟨_, _, rfl, _⟩ := hq
         exact eqRes_of _ (eqGuard_other w _ _ _ _ _ _ (by simp) (by simp)) (by simp only [binOp]) (by simp only [binOp]) (fun d => by simp [Op.equalIn, hr, pure, Sem.run]))
      | (obtain ⟨_, _, _, rfl⟩ := hk; subst hq; obtain ⟨_, _, rfl, _⟩ := hp
         exact eqRes_of _ (eqGuard_other w _ _ _ _ _ _ (by simp) (by simp)) (by simp only [binOp]) (by simp only [binOp]) (fun d => by simp [Op.equalIn, hr, pure, Sem.run]))
      | (obtain ⟨_, rfl⟩ := hk; subst hp; obtain ⟨_, rfl, _⟩ := hq
         exact eqRes_of _ (eqGuard_other w _ _ _ _ _ _ (by simp) (by simp)) (by simp only [binOp]) (by simp only [binOp]) (fun d => by simp [Op.equalIn, hr, pure, Sem.run]))
      | (obtain ⟨_, rfl⟩ := hk; subst hq; obtain ⟨_, rfl, _⟩ := hp
         exact eqRes_of _ (eqGuard_other w _ _ _ _ _ _ (by simp) (by simp)) (by simp only [binOp]) (by simp only [binOp]) (fun d => by simp [Op.equalIn, hr, pure, Sem.run]))
theorem abin_ok {T:TypeId -> Option TI} {P:Program} (hT:TabOK P T) (m:Map) (n:Nat) (w:World) (op:BinOp) (t:TypeId) (ox oy:Operand) (x y:AV) (u v:Value)
  (hx:Den m n x u) (hy:Den m n y v):(abin T op t x y).sat m n P w (do eqGuard op t ox oy u v; binOp op t u v):=by
 have hg:∀ s:QR,s.sat m n P w (binOp op t u v) -> (eqGuard op t ox oy u v).run P w = .ok () w -> s.sat m n P w (do eqGuard op t ox oy u v; binOp op t u v):=by
  intro s hs he
  cases s <;> simp only [QR.sat,Sem.run_bind,he,Result.andThen_ok] at hs ⊢ <;> exact hs
 unfold abin
 split
 ·rename_i k a k' b
  simp only [Den] at hx hy
  subst hx hy
  have he:=eqGuard_other (P:=P) w op t ox oy (.int k a) (.int k' b) (by simp) (by simp)
  refine hg _ ?_ he
  split
  ·intro hb
   have hb':¬ b < 0:=by simpa using hb
   exact ⟨_,by simp [binOp,Op.shift,hb',pure,Sem.run]; rfl,by simp [Den]⟩
  ·intro hb
   have hb':¬ b < 0:=by simpa using hb
   exact ⟨_,by simp [binOp,Op.shift,hb',pure,Sem.run]; rfl,by simp [Den]⟩
  ·rename_i h1 h2
   split
   ·rename_i hk
    subst hk
    exact abinInt_ok m n P w t op k a b (fun e => h1 e) (fun e => h2 e)
   ·trivial
 ·simp only [Den] at hx hy
  subst hx hy
  exact hg _ (abinStr_ok m n P w t op _ _) (eqGuard_other w _ _ _ _ _ _ (by simp) (by simp))
 ·rename_i xs ys
  simp only [Den] at hx hy
  obtain ⟨us,rfl,hus⟩:=hx
  obtain ⟨vs,rfl,hvs⟩:=hy
  cases hq:eqAgg T t xs ys with
  | none => trivial
  | some b =>
   unfold eqAgg at hq
   cases hti:T t with
   | none => simp [hti] at hq
   | some ti =>
    rw [hti] at hq
    simp only [] at hq
    split at hq
    ·rename_i he
     split at hq
     ·rename_i fs hkd
      obtain ⟨dd,hr,hu,hk⟩:=(hT _ _ hti).run_underlying w
      rw [hkd] at hk
      simp only [KdOK] at hk
      obtain ⟨a,rfl,rfl⟩:=hk
      obtain ⟨e1,e2,e3⟩:=(hT _ _ hti).eqs he
      have hfo:P.fieldsOf t = a:=by simp [Program.fieldsOf,hu]
      have hrun:(Op.equalIn 10000 t (.agg us) (.agg vs)).run P w = .ok b w:=by
       rw [show (10000:Nat) = 9999 + 1 from rfl,run_equalIn_struct w 9999 t us vs (by rw [hfo,hu]) e1,hfo]
       exact eqAggF_run hT us vs w 9998 a.toList 0 xs ys b hq (e3 a hu)
        (fun i x hi => by
         obtain ⟨v,hv,hd⟩:=hus.get hi
         exact ⟨v,by simpa using hv,hd⟩)
        (fun i x hi => by
         obtain ⟨v,hv,hd⟩:=hvs.get hi
         exact ⟨v,by simpa using hv,hd⟩)
      exact eqRes_sat b (run_eqGuard_agg w op t ox oy us vs e2) (by rw [run_eql_struct,hrun,Result.andThen_ok]) (by rw [run_neq_struct,hrun,Result.andThen_ok])
     ·rename_i n0 e0 hkd
      obtain ⟨dd,hr,hu,hk⟩:=(hT _ _ hti).run_underlying w
      rw [hkd] at hk
      simp only [KdOK] at hk
      subst hk
      obtain ⟨e1,e2,e3⟩:=(hT _ _ hti).eqs he
      split at hq
      ·rename_i te hte
       split at hq
       ·rename_i hsz
        obtain ⟨ii,hii,hsi,_⟩:=(hT _ _ hte).info
        have hc:P.cellsOf e0 = 1:=by simp [Program.cellsOf,hii,hsi,hsz.1]
        have hrun:(Op.equalIn 10000 t (.agg us) (.agg vs)).run P w = .ok b w:=by
         rw [show (10000:Nat) = 9999 + 1 from rfl,run_equalIn_array w 9999 us vs hu hii,hc,List.range_eq_range',hsz.2]
         exact eqArr_run hT us vs w 9998 e0 xs ys 0 b hq
          (fun i x hi => by
           obtain ⟨v,hv,hd⟩:=hus.get hi
           exact ⟨v,by simpa using hv,hd⟩)
          (fun i x hi => by
           obtain ⟨v,hv,hd⟩:=hvs.get hi
           exact ⟨v,by simpa using hv,hd⟩)
        exact eqRes_sat b (run_eqGuard_agg w op t ox oy us vs e2) (by rw [run_eql_struct,hrun,Result.andThen_ok]) (by rw [run_neq_struct,hrun,Result.andThen_ok])
       ·exact absurd hq (by simp)
      ·exact absurd hq (by simp)
     ·exact absurd hq (by simp)
    ·exact absurd hq (by simp)
 ·split
  ·rename_i hty
   exact aeq_ok hT m n w op t ox oy _ _ u v hx hy hty
  ·trivial
end Go.Dc
end
section
namespace Go.Dc
def QR.then (q:QR) (f:AV -> QR):QR :=
 match q with
 | .no => .no
 | .ok v => f v
 | .ck c v => match f v with
  | .no => .no
  | .ok u => .ck c u
  | .ck c' u => .ck (c && c') u
def QR.has (q:QR) (v:AV):Prop :=
 match q with
 | .no => False
 | .ok u => u = v
 | .ck c u => c = true /\ u = v
theorem QR.sat_of {m:Map} {n:Nat} {P:Program} {w:World} {s:Sem Value} {q:QR} (h:∀ v,q.has v -> ∃ c,s.run P w = .ok c w /\ Den m n v c):q.sat m n P w s:=by
 cases q with
 | no => trivial
 | ok v => exact h v rfl
 | ck c v => exact fun hc => h v ⟨hc,rfl⟩
theorem QR.then_has {q:QR} {f:AV -> QR} {v:AV} (h:(q.then f).has v):∃ u,q.has u /\ (f u).has v:=by
 cases q with
 | no => exact h.elim
 | ok u => exact ⟨u,rfl,h⟩
 | ck c u =>
  simp only [QR.then] at h
  cases hf:f u with
  | no => rw [hf] at h; exact h.elim
  | ok x => rw [hf] at h; exact ⟨u,⟨h.1,rfl⟩,by rw [hf]; exact h.2⟩
  | ck c' x =>
   rw [hf] at h
   have h1:=h.1
   simp only [Bool.and_eq_true] at h1
   exact ⟨u,⟨h1.1,rfl⟩,by rw [hf]; exact ⟨h1.2,h.2⟩⟩
def elemAt (R:Nat -> RoRow) (h:Rows) (ro:Bool) (b i:Nat):QR :=
 match ro with
 | true => .ck (decide (i < (R b).n)) ((R b).at_ i)
 | false => match h.live b with
  | some (.lst _ _ l) => match l[i]? with | some e => .ok e | none => .no
  | some (.gen _ _ n f) => .ck (decide (i < n)) (f i)
  | some (.byt _ l) => .ck (decide (i < l.length)) (.int .u8 (l.getD i 0).toNat)
  | none => .no
theorem elemAt_spec {R:Nat -> RoRow} {m:Map} {h:Rows} {w:World} (hW:WR R m h w) {ro:Bool} {b i:Nat} {e:AV} (he:(elemAt R h ro b i).has e) (hv:(m.loc ro b).vir = false) :
  e.cells.length = (m.loc ro b).esz /\ ∀ o a,e.cells[o]? = some a -> a.one = true /\ ∃ v,w.cell? ⟨(m.loc ro b).blk,(m.loc ro b).shift + (i * (m.loc ro b).esz + o),none⟩ = some v /\ Den m h.length a v:=by
 cases ro with
 | true =>
  obtain ⟨hc,rfl⟩:=he
  have hi:i < (R b).n:=by simpa using hc
  have hro:=hW.ro b
  simp only [Map.loc,if_true] at hv ⊢
  unfold RoOK at hro
  rw [hv] at hro
  simp only [Bool.false_eq_true,if_false] at hro
  obtain ⟨h1,h2,h3⟩:=hro
  obtain ⟨c,fz,hb,hall⟩:=h3 (by omega)
  obtain ⟨hl,hcs⟩:=hall i hi
  refine ⟨hl,fun o a ha => ?_⟩
  obtain ⟨h3,v,hv1,hd⟩:=hcs o a ha
  exact ⟨h3,v,by simp [World.cell?,hb,hv1],hd.mono (Nat.zero_le _) (fun _ h => absurd h (Nat.not_lt_zero _)) rfl⟩
 | false =>
  simp only [elemAt] at he
  simp only [Map.loc,Bool.false_eq_true,if_false] at hv ⊢
  cases hl:h.live b with
  | none => rw [hl] at he; exact he.elim
  | some r =>
   have hrow:=hW.row b r hl
   unfold RowOK at hrow
   rw [hv] at hrow
   simp only [Bool.false_eq_true,if_false] at hrow
   obtain ⟨h1,h2,c,fz,hb,h3,h4,hall⟩:=hrow
   have hg:r.get? i = some e:=by
    rw [hl] at he
    cases r with
    | lst t s l =>
     simp only [] at he
     cases hx:l[i]? with
     | none => rw [hx] at he; exact he.elim
     | some x => rw [hx] at he; cases he; exact hx
    | gen t s n f =>
     obtain ⟨hc,rfl⟩:=he
     have hi:i < n:=by simpa using hc
     have hbl:Nat.blt i n = true:=by simpa [Nat.blt_eq] using hi
     simp [Row.get?,hbl]
    | byt t l =>
     obtain ⟨hc,rfl⟩:=he
     have hi:i < l.length:=by simpa using hc
     simp [Row.get?,List.getElem?_eq_getElem hi]
   obtain ⟨h5,h6⟩:=hall i e hg
   refine ⟨h5,fun o a ha => ?_⟩
   obtain ⟨h7,v,hv1,hd⟩:=h6 o a ha
   exact ⟨h7,v,by simp [World.cell?,hb,hv1],hd⟩
def allInts (k:IntKind):List AV -> Option (List Int)
 | [] => some []
 | .int k' n :: l => if k = k' then (allInts k l).map (n :: ·) else none
 | _ :: _ => none
def cellOf (cells:List AV) (o:Nat):QR :=
 if 8 < cells.length then
  match cells with
  | .int k _ :: _ => match allInts k cells with
   | some l => .ck (decide (o < l.length)) (.int k (l.getD o 0))
   | none => match cells[o]? with | some a => .ok a | none => .no
  | _ => match cells[o]? with | some a => .ok a | none => .no
 else match cells[o]? with | some a => .ok a | none => .no
theorem allInts_spec {k:IntKind}:∀ {cells:List AV} {l:List Int},allInts k cells = some l -> cells = l.map (.int k ·)
 | [],l,h => by simp [allInts] at h; subst h; rfl
 | a :: cells,l,h => by
  cases a <;> simp only [allInts] at h <;> try (simp at h; done)
  split at h
  ·rename_i hk
   subst hk
   obtain ⟨l',hl,rfl⟩:=Option.map_eq_some_iff.1 h
   rw [allInts_spec hl]; rfl
  ·exact absurd h (by simp)
theorem cellOf_has {cells:List AV} {o:Nat} {a:AV} (h:(cellOf cells o).has a):cells[o]? = some a:=by
 have plain:∀ q:QR,q = (match cells[o]? with | some a => QR.ok a | none => .no) -> q.has a -> cells[o]? = some a:=by
  intro q hq hh
  cases hx:cells[o]? with
  | none => rw [hx] at hq; subst hq; exact hh.elim
  | some x => rw [hx] at hq; subst hq; cases hh; rfl
 unfold cellOf at h
 split at h
 ·split at h
  ·split at h
   ·rename_i k _ _ l hl
    obtain ⟨hc,rfl⟩:=h
    have hi:o < l.length:=by simpa using hc
    rw [allInts_spec hl]
    simp [List.getElem?_eq_getElem hi]
   ·exact plain _ rfl h
  ·exact plain _ rfl h
 ·exact plain _ rfl h
def aload (T:TypeId -> Option TI) (R:Nat -> RoRow) (h:Rows) (t:TypeId) (p:AV):QR :=
 match T t,p with
 | some ti,.ptr ro b i o => (elemAt R h ro b i).then fun e =>
  if ti.kd.agg then (if o + ti.size <= e.cells.length then .ok (.agg ((e.cells.drop o).take ti.size)) else .no)
  else cellOf e.cells o
 | _,_ => .no
theorem aload_ok {T:TypeId -> Option TI} {P:Program} (hT:TabOK P T) {R:Nat -> RoRow} {m:Map} {h:Rows} {w:World} (hW:WR R m h w) (t:TypeId) (p:AV) (u:Value) (hp:Den m h.length p u) :
  (aload T R h t p).sat m h.length P w (Instr.loadAt t u):=by
 refine QR.sat_of fun v hv => ?_
 unfold aload at hv
 split at hv
 case h_2 => exact hv.elim
 rename_i ti ro b i o hti
 obtain ⟨e,he,hv⟩:=QR.then_has hv
 simp only [Den] at hp
 obtain ⟨_,hvir,rfl⟩:=hp
 obtain ⟨hl,hcs⟩:=elemAt_spec hW he hvir
 simp only [Instr.loadAt,Instr.sureAddr,loadVar,Sem.run_bind,pure,Sem.run,Result.andThen_ok,(hT _ _ hti).run_isAgg w]
 split at hv
 ·rename_i hag
  rw [hag]
  simp only [if_true]
  split at hv
  ·rename_i hsz
   cases hv
   have hcell:∀ j,j < ti.size -> ∃ x,w.cell? ⟨(m.loc ro b).blk,(m.loc ro b).shift + (i * (m.loc ro b).esz + o) + j,none⟩ = some x /\ Den m h.length (e.cells.getD (o + j) .any) x:=by
    intro j hj
    have hlt:o + j < e.cells.length:=by omega
    obtain ⟨_,x,hx,hd⟩:=hcs (o + j) e.cells[o + j] (List.getElem?_eq_getElem hlt)
    refine ⟨x,?_,by simpa [List.getD,List.getElem?_eq_getElem hlt] using hd⟩
    rw [<- hx]; congr 2; omega
   obtain ⟨f,hf⟩:∃ f:Nat -> Value,∀ j,j < ti.size -> w.cell? ⟨(m.loc ro b).blk,(m.loc ro b).shift + (i * (m.loc ro b).esz + o) + j,none⟩ = some (f j) /\ Den m h.length (e.cells.getD (o + j) .any) (f j):=by
    refine ⟨fun j => (w.cell? ⟨(m.loc ro b).blk,(m.loc ro b).shift + (i * (m.loc ro b).esz + o) + j,none⟩).getD default,fun j hj => ?_⟩
    obtain ⟨x,hx,hd⟩:=hcell j hj
    exact ⟨by simp [hx],by simpa [hx] using hd⟩
   have hlen:((List.range ti.size).map f).length = ti.size:=by simp
   have hload:=run_loadCells_list (P:=P) (w:=w) ⟨(m.loc ro b).blk,(m.loc ro b).shift + (i * (m.loc ro b).esz + o),none⟩ ((List.range ti.size).map f) (by
    intro j x hx
    have hj:j < ti.size:=by have:=(List.getElem?_eq_some_iff.1 hx).1; simpa using this
    have hx':f j = x:=by simpa [List.getElem?_range hj] using hx
    subst hx'
    have:=(hf j hj).1
    unfold Addr.add
    split
    ·rename_i h0; subst h0; simpa using this
    ·exact this)
   rw [hlen] at hload
   simp only [Sem.run_bind,(hT _ _ hti).run_sizeOf w,Result.andThen_ok,hload]
   refine ⟨_,rfl,?_⟩
   simp only [Den]
   refine ⟨_,rfl,DenL.of (by simp; omega) ?_⟩
   intro j a ha
   have hj:j < ti.size:=by
    have:=(List.getElem?_eq_some_iff.1 ha).1
    simp at this; omega
   refine ⟨f j,by simp [hj],?_⟩
   have hd:=(hf j hj).2
   have hlt:o + j < e.cells.length:=by omega
   have:a = e.cells.getD (o + j) .any:=by
    rw [List.getElem?_take_of_lt hj,List.getElem?_drop] at ha
    simp [List.getD,ha]
   rw [this]; exact hd
  ·exact hv.elim
 ·rename_i hag
  have hag':ti.kd.agg = false:=by simpa using hag
  rw [hag']
  simp only [Bool.false_eq_true,if_false]
  obtain ⟨_,x,hx,hd⟩:=hcs o v (cellOf_has hv)
  exact ⟨x,by simp [hx],hd⟩
def afield (T:TypeId -> Option TI) (s:TypeId) (f:Nat):Option (TypeId × Nat × Nat) :=
 match T s with
 | some ti => match ti.kd with
  | .struct fs => fs[f]?
  | _ => none
 | none => none
theorem afield_spec {T:TypeId -> Option TI} {P:Program} (hT:TabOK P T) {s:TypeId} {f t o z:Nat} (h:afield T s f = some (t,o,z)) (w:World) :
  ∃ (a:Array Field) (g:Field),(underlying s).run P w = .ok (.struct a) w /\ P.underlying s = some (.struct a) /\ a[f]? = some g /\ g.type = t /\ g.offset = o /\ ((P.info? t).map (·.size)).getD 0 = z:=by
 unfold afield at h
 split at h
 ·rename_i ti hti
  split at h
  ·rename_i fs hkd
   obtain ⟨d,hr,hu,hk⟩:=(hT _ _ hti).run_underlying w
   rw [hkd] at hk
   simp only [KdOK] at hk
   obtain ⟨a,rfl,rfl⟩:=hk
   rw [List.getElem?_map] at h
   obtain ⟨g,hg,he⟩:=Option.map_eq_some_iff.1 h
   simp only [Prod.mk.injEq] at he
   obtain ⟨rfl,rfl,rfl⟩:=he
   exact ⟨a,g,hr,hu,by simpa using hg,rfl,rfl,rfl⟩
  ·exact absurd h (by simp)
 ·exact absurd h (by simp)
def afieldAddr (T:TypeId -> Option TI) (s:TypeId) (p:AV) (f:Nat):QR :=
 match afield T s f,p with
 | some (t,off,z),.ptr ro b i o => if z = 0 then .no else .ok (.ptr ro b i (o + off))
 | _,_ => .no
theorem afieldAddr_ok {T:TypeId -> Option TI} {P:Program} (hT:TabOK P T) {m:Map} {n:Nat} {w:World} (s:TypeId) (p:AV) (f:Nat) (u:Value) (hp:Den m n p u) :
  (afieldAddr T s p f).sat m n P w (Instr.fieldAt s u f):=by
 refine QR.sat_of fun v hv => ?_
 unfold afieldAddr at hv
 split at hv
 case h_2 => exact hv.elim
 rename_i t off z ro b i o hf
 split at hv
 ·exact hv.elim
 ·rename_i hz
  cases hv
  obtain ⟨a,g,hr,hu,hg,rfl,rfl,hs⟩:=afield_spec hT hf w
  have hinfo:∃ j,P.info? g.type = some j /\ j.size ≠ 0:=by
   cases hi:P.info? g.type with
   | none => rw [hi] at hs; simp at hs; exact absurd hs.symm hz
   | some j => rw [hi] at hs; simp at hs; exact ⟨j,rfl,by omega⟩
  obtain ⟨j,hj,hjz⟩:=hinfo
  simp only [Den] at hp
  obtain ⟨hb,hvir,rfl⟩:=hp
  have hsz:(sizeOf g.type).run P w = .ok j.size w:=by simp [sizeOf,typeInfo,program,Sem.run,hj,pure]
  refine ⟨.pointer (some ⟨(m.loc ro b).blk,(m.loc ro b).shift + (i * (m.loc ro b).esz + (o + g.offset)),none⟩),?_,by simp only [Den]; exact ⟨hb,hvir,trivial⟩⟩
  simp only [Instr.fieldAt,Sem.run_bind,hr,Result.andThen_ok,hg,Instr.sureAddr,fieldPlace,hsz,Sem.run_pure]
  rw [if_neg hjz]
  simp only [Sem.run_pure,Result.andThen_ok]
  congr 3
  unfold Addr.add
  split
  ·rename_i h0; rw [h0]; rfl
  ·simp only [Addr.mk.injEq,and_true,true_and]; omega
def apart (T:TypeId -> Option TI) (t:TypeId) (cs:List AV) (off:Nat):QR :=
 match T t with
 | some ti => if ti.kd.agg then (if off + ti.size <= cs.length then .ok (.agg ((cs.drop off).take ti.size)) else .no) else cellOf cs off
 | none => .no
theorem apart_ok {T:TypeId -> Option TI} {P:Program} (hT:TabOK P T) {m:Map} {n:Nat} {w:World} (t:TypeId) (cs:List AV) (us:Array Value) (off:Nat) (hd:DenL m n cs us.toList) :
  (apart T t cs off).sat m n P w (part t us off):=by
 refine QR.sat_of fun v hv => ?_
 unfold apart at hv
 cases hti:T t with
 | none => rw [hti] at hv; exact hv.elim
 | some ti =>
  rw [hti] at hv
  simp only [] at hv
  simp only [part,Sem.run_bind,(hT _ _ hti).run_isAgg w,Result.andThen_ok]
  split at hv
  ·rename_i hag
   rw [hag]
   simp only [if_true]
   split at hv
   ·rename_i hsz
    cases hv
    simp only [Sem.run_bind,(hT _ _ hti).run_sizeOf w,Result.andThen_ok,Sem.run_pure]
    refine ⟨_,rfl,?_⟩
    simp only [Den]
    have hlen:=hd.length
    refine ⟨_,rfl,DenL.of (by simp at hlen ⊢; omega) ?_⟩
    intro j a ha
    have hj:j < ti.size:=by
     have:=(List.getElem?_eq_some_iff.1 ha).1
     simp at this; omega
    rw [List.getElem?_take_of_lt hj,List.getElem?_drop] at ha
    obtain ⟨x,hx,hdx⟩:=hd.get ha
    refine ⟨x,?_,hdx⟩
    rw [Array.getElem?_toList] at hx
    simp only [Array.toList_extract,List.extract_eq_take_drop]
    rw [List.getElem?_take_of_lt (by omega),List.getElem?_drop]
    simpa using hx
   ·exact hv.elim
  ·rename_i hag
   have hag':ti.kd.agg = false:=by simpa using hag
   rw [hag']
   obtain ⟨x,hx,hdx⟩:=hd.get (cellOf_has hv)
   have hx':us[off]? = some x:=by simpa using hx
   exact ⟨x,by simp [hx'],hdx⟩
def afieldOf (T:TypeId -> Option TI) (s:TypeId) (x:AV) (f:Nat):QR :=
 match afield T s f,x with
 | some (t,off,_),.agg cs => apart T t cs off
 | _,_ => .no
theorem afieldOf_ok {T:TypeId -> Option TI} {P:Program} (hT:TabOK P T) {m:Map} {n:Nat} {w:World} (s:TypeId) (p:AV) (f:Nat) (u:Value) (hp:Den m n p u) :
  (afieldOf T s p f).sat m n P w (Instr.field s u f):=by
 unfold afieldOf
 split
 case h_2 => trivial
 rename_i t off z cs hf
 obtain ⟨a,g,hr,hu,hg,rfl,rfl,hs⟩:=afield_spec hT hf w
 simp only [Den] at hp
 obtain ⟨us,rfl,hd⟩:=hp
 have:=apart_ok hT (w:=w) g.type cs us g.offset hd
 have e:(Instr.field s (.agg us) f).run P w = (part g.type us g.offset).run P w:=by
  simp only [Instr.field,Sem.run_bind,hr,Result.andThen_ok,hg,asAgg,Sem.run_pure]
 cases hq:apart T g.type cs g.offset <;> rw [hq] at this <;> simp only [QR.sat,e] at this ⊢ <;> exact this
def eszOf (R:Nat -> RoRow) (h:Rows) (ro:Bool) (b:Nat):Option Nat :=
 match ro with
 | true => some (R b).esz
 | false => (h.live b).map Row.esz
theorem eszOf_spec {R:Nat -> RoRow} {m:Map} {h:Rows} {w:World} (hW:WR R m h w) {ro:Bool} {b z:Nat} (he:eszOf R h ro b = some z):(m.loc ro b).esz = z:=by
 cases ro with
 | true => simp only [eszOf,Option.some.injEq] at he; subst he; exact (hW.ro b).1
 | false =>
  obtain ⟨r,hr,rfl⟩:=Option.map_eq_some_iff.1 he
  exact (hW.row b r hr).1
def aindexAddr (T:TypeId -> Option TI) (R:Nat -> RoRow) (h:Rows) (t:TypeId) (x ix:AV):QR :=
 match T t,x,ix with
 | some ti,.sl ro b i len full,.int _ j => match ti.kd with
  | .slice e => match T e with
   | some te => if eszOf R h ro b = some te.size then .ck (decide (0 <= j) && decide (j < (len:Int))) (.ptr ro b (i + j.toNat) 0) else .no
   | none => .no
  | _ => .no
 | some ti,.ptr ro b i o,.int _ j => match ti.kd with
  | .array n e => match T e with
   | some te => .ck (decide (0 <= j) && decide (j < (n:Int))) (.ptr ro b i (o + j.toNat * te.size))
   | none => .no
  | _ => .no
 | _,_,_ => .no
theorem aindexAddr_ok {T:TypeId -> Option TI} {P:Program} (hT:TabOK P T) {R:Nat -> RoRow} {m:Map} {h:Rows} {w:World} (hW:WR R m h w) (t:TypeId) (x ix:AV) (u v:Value)
  (hx:Den m h.length x u) (hi:Den m h.length ix v):(aindexAddr T R h t x ix).sat m h.length P w (Instr.indexAt t u v):=by
 refine QR.sat_of fun a ha => ?_
 unfold aindexAddr at ha
 split at ha
 ·rename_i ti ro b i len full k j hti
  split at ha
  ·rename_i e hkd
   obtain ⟨d,hr,hu,hk⟩:=(hT _ _ hti).run_underlying w
   rw [hkd] at hk
   simp only [KdOK] at hk
   subst hk
   cases hte:T e with
   | none => rw [hte] at ha; exact ha.elim
   | some te =>
    rw [hte] at ha
    simp only [] at ha
    split at ha
    ·rename_i hz
     obtain ⟨hc,rfl⟩:=ha
     simp only [Bool.and_eq_true,decide_eq_true_eq] at hc
     simp only [Den] at hx hi
     subst hi
     obtain ⟨hb,hsl⟩:=hx
     unfold SlDen at hsl
     split at hsl
     ·obtain ⟨h0,_⟩:=hsl; omega
     ·rename_i hvir
      have hvir':(m.loc ro b).vir = false:=by simpa using hvir
      obtain ⟨ad,cap,rfl,h1,h2,h3,h4⟩:=hsl
      obtain ⟨rfl,h5⟩:=h4 (by omega)
      have hesz:=eszOf_spec hW hz
      refine ⟨.pointer (some ⟨(m.loc ro b).blk,(m.loc ro b).shift + ((i + j.toNat) * (m.loc ro b).esz + 0),none⟩),?_,by simp only [Den]; exact ⟨hb,hvir',trivial⟩⟩
      simp only [Instr.indexAt,asIntOf,Sem.run_bind,Sem.run_pure,Result.andThen_ok,hr]
      rw [if_pos (show (0:Int) <= j /\ j < (len:Int) from hc)]
      simp only [Sem.run_bind,(hT _ _ hte).run_sizeOf w,Result.andThen_ok,Sem.run_pure]
      congr 3
      rw [hesz]
      unfold Addr.add
      split
      ·rename_i h0; simp only [Addr.mk.injEq,and_true,true_and]; rw [Nat.add_mul,h0]; omega
      ·simp only [Addr.mk.injEq,and_true,true_and]; rw [Nat.add_mul]; omega
    ·exact ha.elim
  ·exact ha.elim
 ·rename_i ti ro b i o k j hti
  split at ha
  ·rename_i n e hkd
   obtain ⟨d,hr,hu,hk⟩:=(hT _ _ hti).run_underlying w
   rw [hkd] at hk
   simp only [KdOK] at hk
   subst hk
   cases hte:T e with
   | none => rw [hte] at ha; exact ha.elim
   | some te =>
    rw [hte] at ha
    obtain ⟨hc,rfl⟩:=ha
    simp only [Bool.and_eq_true,decide_eq_true_eq] at hc
    simp only [Den] at hx hi
    subst hi
    obtain ⟨hb,hvir,rfl⟩:=hx
    refine ⟨.pointer (some ⟨(m.loc ro b).blk,(m.loc ro b).shift + (i * (m.loc ro b).esz + (o + j.toNat * te.size)),none⟩),?_,by simp only [Den]; exact ⟨hb,hvir,trivial⟩⟩
    simp only [Instr.indexAt,asIntOf,Sem.run_bind,Sem.run_pure,Result.andThen_ok,hr,Instr.sureAddr]
    rw [if_pos (show (0:Int) <= j /\ j < (n:Int) from hc)]
    simp only [Sem.run_bind,(hT _ _ hte).run_sizeOf w,Result.andThen_ok,Sem.run_pure]
    congr 3
    unfold Addr.add
    split
    ·rename_i h0; simp only [Addr.mk.injEq,and_true,true_and]; omega
    ·simp only [Addr.mk.injEq,and_true,true_and]; omega
  ·exact ha.elim
 ·exact ha.elim
end Go.Dc
end
section
namespace Go.Dc
theorem Den.cells {m:Map} {n:Nat} {v:AV} {u:Value} (hv:v ≠ .any) (h:Den m n v u):DenL m n v.cells u.cells.toList:=by
 have single:∀ (v:AV) (u:Value),Den m n v u -> v.cells = [v] -> u.cells = #[u] -> DenL m n v.cells u.cells.toList:=by
  intro v u h e1 e2
  rw [e1,e2]
  simp only [DenL]
  exact ⟨u,[],rfl,h,rfl⟩
 cases v
 case any => exact absurd rfl hv
 case agg cs =>
  simp only [Den] at h
  obtain ⟨vs,rfl,hd⟩:=h
  exact hd
 all_goals
  refine single _ _ h rfl ?_
  have h':=h
  simp only [Den] at h'
 case sl ro b i len full =>
  unfold SlDen at h'
  obtain ⟨_,h'⟩:=h'
  split at h'
  ·obtain ⟨_,_,rfl,_⟩:=h'; rfl
  ·obtain ⟨_,_,rfl,_⟩:=h'; rfl
 all_goals first
  | (subst h'; rfl)
  | (obtain ⟨_,_,rfl⟩:=h'; rfl)
  | (obtain ⟨_,rfl,_⟩:=h'; rfl)
  | (obtain ⟨_,_,rfl,_⟩:=h'; rfl)
def aunary (op:UnOp) (x:AV):QR :=
 match op,x with
 | .neg,.int k n => .ok (.int k (k.wrap (0 - n)))
 | .not,.bool b => .ok (.bool !b)
 | _,_ => .no
theorem aunary_ok {P : Program} {m : Map} {n : Nat} {w : World} (op : UnOp) (x : AV) (u : Value) (hx : Den m n x u) : (aunary op x).sat m n P w (Op.unary op u) := by
  unfold aunary
  split <;> first
    | trivial
    | (simp only [Den] at hx
       subst hx
       exact ⟨_, by simp [Op.unary, Op.intArith, pure, Sem.run]; rfl, by simp [Den]⟩)
def byteOfAV:AV -> Option UInt8
 | .int .u8 n => some (UInt8.ofNat n.toNat)
 | _ => none
def bytesOf:List AV -> Option (List UInt8)
 | [] => some []
 | a :: as => match byteOfAV a,bytesOf as with
  | some c,some l => some (c :: l)
  | _,_ => none
def bytesAt (h:Rows) (b i len:Nat):Option (Bool × List UInt8) :=
 match h.live b with
 | some (.byt _ l) => some (decide (i + len <= l.length),(l.drop i).take len)
 | some (.lst _ _ els) => (bytesOf ((els.drop i).take len)).map fun l => (decide (i + len <= els.length),l)
 | _ => none
def aconv (T:TypeId -> Option TI) (h:Rows) (s d:TypeId) (x:AV):QR :=
 match T s,T d with
 | some ts,some td =>
  match td.kd,x with
  | .int k,.int _ n => .ok (.int k (k.wrap n))
  | .str,.int _ n => .ok (.str (Utf8.encode n).data.toList)
  | .str,.str l => .ok (.str l)
  | .str,.nils => match ts.kd with
   | .slice e => match T e with
    | some te => match te.kd with | .int .u8 => .ok (.str []) | _ => .no
    | none => .no
   | _ => .no
  | .str,.sl false b i len _ => match ts.kd with
   | .slice e => match T e with
    | some te => match te.kd,te.size,eszOf (fun _ => ⟨0,0,0,fun _ => .any⟩) h false b,bytesAt h b i len with
     | .int .u8,1,some 1,some (c,l) => .ck c (.str l)
     | _,_,_,_ => .no
    | none => .no
   | _ => .no
  | _,_ => .no
 | _,_ => .no
theorem bytesOf_spec:∀ {as:List AV} {l:List UInt8},bytesOf as = some l -> l.length = as.length /\ ∀ (j:Nat) (c:UInt8),l[j]? = some c -> ∃ n,as[j]? = some (.int .u8 n) /\ c = UInt8.ofNat n.toNat
 | [],l,h => by simp [bytesOf] at h; subst h; simp
 | a :: as,l,h => by
  simp only [bytesOf] at h
  split at h
  ·rename_i c l' h1 h2
   simp only [Option.some.injEq] at h
   subst h
   obtain ⟨hl,hg⟩:=bytesOf_spec h2
   refine ⟨by simp [hl],fun j c' hj => ?_⟩
   cases j with
   | zero =>
    simp at hj; subst hj
    unfold byteOfAV at h1
    split at h1
    ·rename_i n; cases h1; exact ⟨n,by simp,rfl⟩
    ·exact absurd h1 (by simp)
   | succ j => simpa using hg j c' (by simpa using hj)
  ·exact absurd h (by simp)
theorem bytesAt_spec {R:Nat -> RoRow} {m:Map} {h:Rows} {w:World} (hW:WR R m h w) {b i len:Nat} {l:List UInt8} (he:bytesAt h b i len = some (true,l)) (hv:(m.mu b).vir = false) (hz:(m.mu b).esz = 1) :
  l.length = len /\ ∀ j c,l[j]? = some c -> ∃ n,w.cell? ⟨(m.mu b).blk,(m.mu b).shift + i + j,none⟩ = some (.int .u8 n) /\ c = UInt8.ofNat n.toNat:=by
 unfold bytesAt at he
 cases hl:h.live b with
 | none => rw [hl] at he; simp at he
 | some r =>
  rw [hl] at he
  have hrow:=hW.row b r hl
  unfold RowOK at hrow
  rw [hv] at hrow
  simp only [Bool.false_eq_true,if_false] at hrow
  obtain ⟨h1,h2,c,fz,hb,h3,h4,hall⟩:=hrow
  have key:∀ j n,r.get? (i + j) = some (.int .u8 n) -> w.cell? ⟨(m.mu b).blk,(m.mu b).shift + i + j,none⟩ = some (.int .u8 n):=by
   intro j n hg
   obtain ⟨_,h6⟩:=hall _ _ hg
   obtain ⟨_,v,hv1,hd⟩:=h6 0 (.int .u8 n) rfl
   simp only [Den] at hd
   subst hd
   rw [hz] at hv1
   simp only [World.cell?,hb,Option.isSome_none,Bool.false_eq_true,if_false]
   rw [<- hv1]; congr 1; omega
  cases r with
  | gen t s n f => simp at he
  | byt t bl =>
   simp only [Option.some.injEq,Prod.mk.injEq,decide_eq_true_eq] at he
   obtain ⟨hle,rfl⟩:=he
   refine ⟨by simp; omega,fun j c' hj => ?_⟩
   have hjl:j < len:=by
    have:=(List.getElem?_eq_some_iff.1 hj).1
    simp at this; omega
   rw [List.getElem?_take_of_lt hjl,List.getElem?_drop] at hj
   refine ⟨(c'.toNat:Int),key j _ (by simp [Row.get?,hj]),?_⟩
   simp
  | lst t s els =>
   obtain ⟨l',hl',hp⟩:=Option.map_eq_some_iff.1 he
   simp only [Prod.mk.injEq,decide_eq_true_eq] at hp
   obtain ⟨hle,rfl⟩:=hp
   obtain ⟨hlen,hg⟩:=bytesOf_spec hl'
   refine ⟨by rw [hlen]; simp; omega,fun j c' hj => ?_⟩
   obtain ⟨n,hn,rfl⟩:=hg j c' hj
   have hjl:j < len:=by
    have:=(List.getElem?_eq_some_iff.1 hn).1
    simp at this; omega
   rw [List.getElem?_take_of_lt hjl,List.getElem?_drop] at hn
   exact ⟨n,key j n (by simp [Row.get?,hn]),rfl⟩
theorem run_bytes {P:Program} {w:World} (a:Addr) (len cap:Nat) (l:List UInt8) (hl:l.length = len)
  (h:∀ j c,l[j]? = some c -> ∃ n,w.cell? (a.add j) = some (.int .u8 n) /\ c = UInt8.ofNat n.toNat) :
  (Conv.bytesToString (.slice (some a) len cap)).run P w = .ok (.string ⟨⟨l⟩⟩) w:=by
 obtain ⟨f,hf⟩:∃ f:Nat -> Int,∀ j c,l[j]? = some c -> w.cell? (a.add j) = some (.int .u8 (f j)) /\ c = UInt8.ofNat (f j).toNat:=by
  refine ⟨fun j => match w.cell? (a.add j) with | some (.int .u8 n) => n | _ => 0,fun j c hc => ?_⟩
  obtain ⟨n,hn,hcn⟩:=h j c hc
  simp only [hn]
  exact ⟨trivial,hcn⟩
 have hload:=run_loadCells_list (P:=P) (w:=w) a (((List.range l.length).map f).map (Value.int .u8)) (by
  intro j x hx
  have hj:j < l.length:=by have:=(List.getElem?_eq_some_iff.1 hx).1; simpa using this
  have hx':Value.int .u8 (f j) = x:=by simpa [List.getElem?_range hj] using hx
  subst hx'
  exact (hf j l[j] (List.getElem?_eq_getElem hj)).1)
 subst hl
 have hload':(loadCells a l.length).run P w = .ok (((List.range l.length).map f).map (Value.int .u8)).toArray w:=by
  rw [List.length_map,List.length_map,List.length_range] at hload; exact hload
 rw [run_bytesToString (P:=P) w a l.length cap ((List.range l.length).map f) hload',foldl_push_bytes]
 congr 2
 apply ByteArray.ext
 simp only [ByteArray.data_empty,Array.empty_append]
 apply congrArg
 apply List.ext_getElem?
 intro j
 by_cases hj:j < l.length
 ·have:=(hf j l[j] (List.getElem?_eq_getElem hj)).2
  simp [hj,<- this]
 ·simp [hj,List.getElem?_eq_none (Nat.le_of_not_lt hj)]
theorem aconv_ok {T:TypeId -> Option TI} {P:Program} (hT:TabOK P T) {R:Nat -> RoRow} {m:Map} {h:Rows} {w:World} (hW:WR R m h w) (s d:TypeId) (x:AV) (u:Value)
  (hx:Den m h.length x u):(aconv T h s d x).sat m h.length P w (convert s d u):=by
 refine QR.sat_of fun a ha => ?_
 unfold aconv at ha
 split at ha
 case h_2 => exact ha.elim
 rename_i ts td hts htd
 obtain ⟨ds,hrs,hus,hks⟩:=(hT _ _ hts).run_underlying w
 obtain ⟨dd,hrd,hud,hkd⟩:=(hT _ _ htd).run_underlying w
 split at ha
 ·rename_i k k' n hk
  cases ha
  rw [hk] at hkd; simp only [KdOK] at hkd; subst hkd
  simp only [Den] at hx; subst hx
  exact ⟨_,by simp only [convert,Sem.run_bind,hrs,hrd,Result.andThen_ok]; simp [Conv.intToInt,pure,Sem.run]; rfl,by simp [Den]⟩
 ·rename_i k n hk
  cases ha
  rw [hk] at hkd; simp only [KdOK] at hkd; subst hkd
  simp only [Den] at hx; subst hx
  exact ⟨_,by simp only [convert,Sem.run_bind,hrs,hrd,Result.andThen_ok]; simp [Conv.intToString,pure,Sem.run]; rfl,by simp [Den]⟩
 ·rename_i l hk
  cases ha
  rw [hk] at hkd; simp only [KdOK] at hkd; subst hkd
  simp only [Den] at hx; subst hx
  exact ⟨_,by simp only [convert,Sem.run_bind,hrs,hrd,Result.andThen_ok]; simp [pure,Sem.run]; rfl,by simp [Den]⟩
 ·rename_i hk
  rw [hk] at hkd; simp only [KdOK] at hkd; subst hkd
  simp only [Den] at hx; subst hx
  split at ha
  ·rename_i e hke
   rw [hke] at hks; simp only [KdOK] at hks; subst hks
   cases hte:T e with
   | none => rw [hte] at ha; exact ha.elim
   | some te =>
    rw [hte] at ha
    obtain ⟨de,hre,hue,hkk⟩:=(hT _ _ hte).run_underlying w
    simp only [] at ha
    split at ha
    ·rename_i hkte
     cases ha
     rw [hkte] at hkk; simp only [KdOK] at hkk; subst hkk
     exact ⟨.string ⟨⟨[]⟩⟩,by simp only [convert,Sem.run_bind,hrs,hrd,Result.andThen_ok,hre]; simp [Conv.bytesToString,pure,Sem.run]; rfl,by simp [Den]⟩
    ·exact ha.elim
  ·exact ha.elim
 ·rename_i b i len full hk
  rw [hk] at hkd; simp only [KdOK] at hkd; subst hkd
  split at ha
  ·rename_i e hke
   rw [hke] at hks; simp only [KdOK] at hks; subst hks
   cases hte:T e with
   | none => rw [hte] at ha; exact ha.elim
   | some te =>
    rw [hte] at ha
    obtain ⟨de,hre,hue,hkk⟩:=(hT _ _ hte).run_underlying w
    simp only [] at ha
    split at ha
    ·rename_i c l hkte hsz hez hba
     obtain ⟨hc,rfl⟩:=ha
     subst hc
     rw [hkte] at hkk; simp only [KdOK] at hkk; subst hkk
     simp only [Den] at hx
     obtain ⟨hb,hsl⟩:=hx
     have hesz:(m.mu b).esz = 1:=by
      obtain ⟨r,hr,hrz⟩:=Option.map_eq_some_iff.1 hez
      rw [(hW.row b r hr).1,hrz]
     unfold SlDen at hsl
     simp only [Map.loc,Bool.false_eq_true,if_false] at hsl
     have hlen0:∀ l:List UInt8,l.length = 0 -> l = []:=fun l h => List.length_eq_zero_iff.1 h
     split at hsl
     ·rename_i hvir
      obtain ⟨rfl,ao,rfl,_⟩:=hsl
      have:l = []:=by
       unfold bytesAt at hba
       cases hl:h.live b with
       | none => rw [hl] at hba; simp at hba
       | some r =>
        rw [hl] at hba
        cases r with
        | gen => simp at hba
        | byt t bl => simp at hba; first | exact hba.2.symm | exact hba.2 | exact hba.2.2
        | lst t s els =>
         simp [bytesOf] at hba; first | exact hba.2.symm | exact hba.2
      subst this
      cases ao with
      | none => exact ⟨.string ⟨⟨[]⟩⟩,by simp only [convert,Sem.run_bind,hrs,hrd,Result.andThen_ok,hre]; simp [Conv.bytesToString,pure,Sem.run]; rfl,by simp [Den]⟩
      | some ad =>
       refine ⟨.string ⟨⟨[]⟩⟩,?_,by simp [Den]⟩
       simp only [convert,Sem.run_bind,hrs,hrd,Result.andThen_ok,hre]
       exact run_bytes ad 0 0 [] rfl (fun j c hj => by simp at hj)
     ·rename_i hvir
      obtain ⟨ad,cap,rfl,h1,h2,h3,h4⟩:=hsl
      obtain ⟨hl,hg⟩:=bytesAt_spec hW hba (by simpa using hvir) hesz
      refine ⟨.string ⟨⟨l⟩⟩,?_,by simp [Den]⟩
      have hr:=run_bytes (P:=P) (w:=w) ad len cap l hl (by
       intro j c hj
       have hj':j < len:=by rw [<- hl]; exact (List.getElem?_eq_some_iff.1 hj).1
       obtain ⟨rfl,_⟩:=h4 (by omega)
       obtain ⟨n,hn,hcn⟩:=hg j c hj
       refine ⟨n,?_,hcn⟩
       rw [<- hn,hesz]
       congr 1
       unfold Addr.add
       split
       ·rename_i h0; subst h0; simp
       ·simp)
      simp only [convert,Sem.run_bind,hrs,hrd,Result.andThen_ok,hre]
      exact hr
    ·exact ha.elim
  ·exact ha.elim
 ·exact ha.elim
end Go.Dc
end
section
namespace Go.Dc
def loOf:Option AV -> Option (Option Int)
 | none => some none
 | some (.int _ n) => some (some n)
 | _ => none
def slCond (lo hi:Option Int) (len:Nat):Bool :=
 match lo,hi with
 | none,none => true
 | none,some h => decide (0 <= h) && decide (h <= (len:Int))
 | some l,none => decide (0 <= l) && decide (l <= (len:Int))
 | some l,some h => decide (0 <= h) && (decide (h <= (len:Int)) && (decide (0 <= l) && decide (l <= h)))
def slLo:Option Int -> Nat | none => 0 | some l => l.toNat
def slHi (len:Nat):Option Int -> Nat | none => len | some h => h.toNat
theorem slCond_spec {lo hi:Option Int} {len:Nat} (h:slCond lo hi len = true):slLo lo <= slHi len hi /\ slHi len hi <= len /\ (∀ l,lo = some l -> 0 <= l /\ (l.toNat:Int) = l /\ l <= (slHi len hi:Int)) /\ (∀ x,hi = some x -> 0 <= x /\ x <= len /\ (x.toNat:Int) = x):=by
 cases lo <;> cases hi <;> simp [slCond,slLo,slHi] at h ⊢ <;> omega
def cpEnd (f:Cp) (len:Nat):Nat:=match f with
 | .no => len
 | .tight => len
 | .room n => len + n
def slCondE (lo hi:Option Int) (len c:Nat):Bool:=match hi with
 | none => slCond lo none len
 | some h => slCond lo (some h) c
def slCp (f:Cp) (len:Nat) (hi:Option Int):Cp:=match hi with
 | none => f
 | some u => match f with
  | .no => .room (len - u.toNat)
  | .tight => bif u.toNat == len then .tight else .room (len - u.toNat)
  | .room n => .room (len + n - u.toNat)
theorem cpEnd_le {f:Cp} {len cap:Nat} (h:CpOK f len cap) (hl:len <= cap):len <= cpEnd f len /\ cpEnd f len <= cap:=by
 cases f <;> simp only [CpOK,cpEnd] at h ⊢ <;> omega
theorem slCondE_spec {lo hi:Option Int} {len c:Nat} (h:slCondE lo hi len c = true) (hl:len <= c):slLo lo <= slHi len hi /\ slHi len hi <= c /\ (hi = none -> slHi len hi = len) /\ (∀ l,lo = some l -> 0 <= l /\ (l.toNat:Int) = l /\ l <= (slHi len hi:Int)) /\ (∀ x,hi = some x -> 0 <= x /\ x <= c /\ (x.toNat:Int) = x):=by
 cases lo <;> cases hi <;> simp [slCondE,slCond,slLo,slHi] at h ⊢ <;> omega
theorem slCp_ok {f:Cp} {len cap c:Nat} {lo hi:Option Int} (h:CpOK f len cap) (hl:len <= cap) (h1:slLo lo <= slHi len hi) (h2:slHi len hi <= cap):CpOK (slCp f len hi) (slHi len hi - slLo lo) (cap - slLo lo):=by
 cases hi with
 | none =>
  simp only [slHi] at h1
  cases f <;> simp only [slCp,slHi,CpOK] at h ⊢ <;> omega
 | some u =>
  simp only [slHi] at h1 h2
  cases f <;> simp only [slCp,slHi,CpOK] at h ⊢
  ·omega
  ·cases hb:(u.toNat == len) with
   | true => simp only [beq_iff_eq] at hb; simp only [cond_true]; omega
   | false => simp only [cond_false]; omega
  ·omega
theorem run_sliceBoundsE {P:Program} {w:World} {m:Map} {n:Nat} (isS:Bool) (len cap c:Nat) (hcap:len <= c) (hcc:c <= cap) (lo hi:Option AV) (vlo vhi:Option Value) (l' h':Option Int)
  (hlo:loOf lo = some l') (hhi:loOf hi = some h') (dlo:∀ a,lo = some a -> ∃ v,vlo = some v /\ Den m n a v) (dlo0:lo = none -> vlo = none)
  (dhi:∀ a,hi = some a -> ∃ v,vhi = some v /\ Den m n a v) (dhi0:hi = none -> vhi = none) (hc:slCondE l' h' len c = true) :
  (Instr.sliceBounds isS len cap vlo vhi none).run P w = .ok (slLo l',slHi len h',cap) w:=by
 obtain ⟨h1,h2,_,h3,h4⟩:=slCondE_spec hc hcap
 have elo:vlo = l'.map (fun x => Value.int (match lo with | some (.int k _) => k | _ => .i64) x):=by
  cases lo with
  | none => simp [loOf] at hlo; subst hlo; simp [dlo0 rfl]
  | some a =>
   obtain ⟨v,rfl,hd⟩:=dlo a rfl
   cases a <;> simp [loOf] at hlo
   subst hlo
   simp only [Den] at hd; subst hd; rfl
 have ehi:vhi = h'.map (fun x => Value.int (match hi with | some (.int k _) => k | _ => .i64) x):=by
  cases hi with
  | none => simp [loOf] at hhi; subst hhi; simp [dhi0 rfl]
  | some a =>
   obtain ⟨v,rfl,hd⟩:=dhi a rfl
   cases a <;> simp [loOf] at hhi
   subst hhi
   simp only [Den] at hd; subst hd; rfl
 subst elo ehi
 cases l' with
 | none =>
  cases h' with
  | none => simp [Instr.sliceBounds,slLo,slHi,pure,Sem.run]
  | some x =>
   obtain ⟨a,b,c⟩:=h4 x rfl
   have hb:0 <= x /\ x <= (cap:Int):=⟨a,by omega⟩
   simp [Instr.sliceBounds,Instr.sliceBound,asIntOf,slLo,slHi,hb,pure,Sem.run]
 | some y =>
  obtain ⟨a',b',c'⟩:=h3 y rfl
  cases h' with
  | none =>
   have hb:0 <= y /\ y <= (len:Int):=⟨a',by simpa [slHi] using c'⟩
   simp [Instr.sliceBounds,Instr.sliceBound,asIntOf,slLo,slHi,hb,pure,Sem.run]
  | some x =>
   obtain ⟨a,b,c⟩:=h4 x rfl
   have hb:0 <= x /\ x <= (cap:Int):=⟨a,by omega⟩
   simp only [slHi] at c'
   have hb2:0 <= y /\ y <= (x.toNat:Int):=⟨a',c'⟩
   simp [Instr.sliceBounds,Instr.sliceBound,asIntOf,slLo,slHi,hb,pure,Sem.run]
   intro hh
   have:=hh a'
   omega
theorem run_sliceBounds {P:Program} {w:World} {m:Map} {n:Nat} (isS:Bool) (len cap:Nat) (hcap:len <= cap) (lo hi:Option AV) (vlo vhi:Option Value) (l' h':Option Int)
  (hlo:loOf lo = some l') (hhi:loOf hi = some h') (dlo:∀ a,lo = some a -> ∃ v,vlo = some v /\ Den m n a v) (dlo0:lo = none -> vlo = none)
  (dhi:∀ a,hi = some a -> ∃ v,vhi = some v /\ Den m n a v) (dhi0:hi = none -> vhi = none) (hc:slCond l' h' len = true) :
  (Instr.sliceBounds isS len cap vlo vhi none).run P w = .ok (slLo l',slHi len h',cap) w :=
 run_sliceBoundsE isS len cap len (Nat.le_refl _) hcap lo hi vlo vhi l' h' hlo hhi dlo dlo0 dhi dhi0 (by cases h' <;> exact hc)
def slCond3 (l h m c:Int):Bool:=decide (0 <= l) && (decide (l <= h) && (decide (h <= m) && decide (m <= c)))
theorem run_sliceBounds3 {P:Program} {w:World} (len cap c:Nat) (hcc:c <= cap) (kl kh km:IntKind) (l h m:Int) (hc:slCond3 l h m c = true) :
  (Instr.sliceBounds true len cap (some (.int kl l)) (some (.int kh h)) (some (.int km m))).run P w = .ok (l.toNat,h.toNat,m.toNat) w:=by
 simp only [slCond3,Bool.and_eq_true,decide_eq_true_eq] at hc
 obtain ⟨h1,h2,h3,h4⟩:=hc
 have a1:0 <= m /\ m <= (cap:Int):=by omega
 have a2:0 <= h /\ h <= (m.toNat:Int):=by omega
 have a3:0 <= l /\ l <= (h.toNat:Int):=by omega
 simp only [Instr.sliceBounds,Instr.sliceBound,asIntOf,Sem.run_bind,Sem.run_pure,Result.andThen_ok,if_pos a1,if_pos a2,if_pos a3]
def zeroAV:Option AV -> Bool
 | none => true
 | some (.int _ 0) => true
 | _ => false
def aslice (T:TypeId -> Option TI) (R:Nat -> RoRow) (h:Rows) (t:TypeId) (x:AV) (lo hi mx:Option AV):QR :=
 match T t with
 | none => .no
 | some ti =>
  match ti.kd,x,mx with
  | .str,.str l,none => match loOf lo,loOf hi with
   | some a,some b => .ck (slCond a b l.length) (.str ((l.drop (slLo a)).take (slHi l.length b - slLo a)))
   | _,_ => .no
  | .slice e,.sl ro b i len full,none => match T e with
   | some te => if eszOf R h ro b = some te.size then match loOf lo,loOf hi with
     | some l,some u => .ck (slCondE l u len (cpEnd full len)) (.sl ro b (i + slLo l) (slHi len u - slLo l) (slCp full len u))
     | _,_ => .no
    else .no
   | none => .no
  | .slice e,.nils,none => match T e,loOf lo,loOf hi with
   | some te,some l,some u => .ck (slCond l u 0) .nils
   | _,_,_ => .no
  | .slice e,.sl ro b i len full,some m => match T e with
   | some te => match zeroAV (some m) && (zeroAV lo && (zeroAV hi && hi.isSome)) with
    | true => .ok (.sl ro b i 0 .tight)
    | false => if eszOf R h ro b = some te.size then match lo,hi,m with
     | some (.int _ l),some (.int _ h),.int _ m => .ck (slCond3 l h m (cpEnd full len)) (.sl ro b (i + l.toNat) (h.toNat - l.toNat) (.room (m.toNat - h.toNat)))
     | _,_,_ => .no
     else .no
   | none => .no
  | .slice e,.nils,some m => match T e with
   | some te => if zeroAV lo && (zeroAV hi && (zeroAV (some m) && hi.isSome)) then .ok .nils else .no
   | none => .no
  | _,_,_ => .no
theorem zeroAV_den {m:Map} {n:Nat} {lo:Option AV} {v:Option Value} (h:zeroAV lo = true) (d:∀ a,lo = some a -> ∃ x,v = some x /\ Den m n a x) (d0:lo = none -> v = none) :
  v = none /\ lo = none \/ ∃ k,v = some (.int k 0) /\ lo ≠ none:=by
 cases lo with
 | none => exact .inl ⟨d0 rfl,rfl⟩
 | some a =>
  obtain ⟨x,rfl,hd⟩:=d a rfl
  unfold zeroAV at h
  split at h
  ·rename_i he; exact absurd he (by simp)
  ·rename_i k he
   cases he
   simp only [Den] at hd; subst hd
   exact .inr ⟨k,rfl,by simp⟩
  ·exact absurd h (by simp)
theorem aslice_ok {T:TypeId -> Option TI} {P:Program} (hT:TabOK P T) {R:Nat -> RoRow} {m:Map} {h:Rows} {w:World} (hW:WR R m h w) (t:TypeId) (x:AV) (lo hi mx:Option AV) (u:Value) (vlo vhi vmx:Option Value)
  (hx:Den m h.length x u)
  (dlo:∀ a,lo = some a -> ∃ v,vlo = some v /\ Den m h.length a v) (dlo0:lo = none -> vlo = none)
  (dhi:∀ a,hi = some a -> ∃ v,vhi = some v /\ Den m h.length a v) (dhi0:hi = none -> vhi = none)
  (dmx:∀ a,mx = some a -> ∃ v,vmx = some v /\ Den m h.length a v) (dmx0:mx = none -> vmx = none) :
  (aslice T R h t x lo hi mx).sat m h.length P w (Instr.sliceAt t u vlo vhi vmx):=by
 refine QR.sat_of fun a ha => ?_
 unfold aslice at ha
 cases hti:T t with
 | none => rw [hti] at ha; exact ha.elim
 | some ti =>
  rw [hti] at ha
  obtain ⟨d,hr,hu,hk⟩:=(hT _ _ hti).run_underlying w
  have hat:∀ (hd:∀ n e,d ≠ .array n e),(Instr.sliceAt t u vlo vhi vmx).run P w = (Instr.slice t u vlo vhi vmx).run P w:=by
   intro hd
   simp only [Instr.sliceAt,Sem.run_bind,hr,Result.andThen_ok]
   all_goals (cases d <;> first | rfl | exact absurd rfl (hd _ _))
  simp only [] at ha
  split at ha
  ·-- a text
   rename_i l hkd
   rw [hkd] at hk; simp only [KdOK] at hk; subst hk
   split at ha
   ·rename_i p q hp hq
    obtain ⟨hc,rfl⟩:=ha
    simp only [Den] at hx; subst hx
    have hb:=run_sliceBounds (P:=P) (w:=w) (m:=m) (n:=h.length) false l.length l.length (Nat.le_refl _) lo hi vlo vhi p q hp hq dlo dlo0 dhi dhi0 hc
    obtain rfl:=dmx0 rfl
    refine ⟨.string ⟨⟨(l.drop (slLo p)).take (slHi l.length q - slLo p)⟩⟩,?_,by simp [Den]⟩
    rw [hat (by simp)]
    simp only [Instr.slice,Sem.run_bind,hr,Result.andThen_ok,size_mk]
    simp only [Option.isSome_none,Bool.false_eq_true,if_false,Sem.run_bind,Sem.run_pure,Result.andThen_ok,hb]
    exact congrArg (fun s => Result.ok (Value.string s) w) (ByteArray.extract_mk l (slLo p) (slHi l.length q))
   ·exact ha.elim
  ·-- a slice
   rename_i e ro b i len full hkd
   rw [hkd] at hk; simp only [KdOK] at hk; subst hk
   cases hte:T e with
   | none => rw [hte] at ha; exact ha.elim
   | some te =>
    rw [hte] at ha
    simp only [] at ha
    split at ha
    ·rename_i hz
     split at ha
     ·rename_i p q hp hq
      obtain ⟨hc,rfl⟩:=ha
      obtain rfl:=dmx0 rfl
      have hesz:=eszOf_spec hW hz
      simp only [Den] at hx
      obtain ⟨hb,hsl⟩:=hx
      unfold SlDen at hsl
      split at hsl
      ·rename_i hvir
       obtain ⟨rfl,ao,rfl,hcp⟩:=hsl
       have hcpe:=cpEnd_le hcp (Nat.le_refl 0)
       obtain ⟨c1,c2,c2',c3,c4⟩:=slCondE_spec hc hcpe.1
       have hbd:=run_sliceBoundsE (P:=P) (w:=w) (m:=m) (n:=h.length) true 0 0 _ hcpe.1 hcpe.2 lo hi vlo vhi p q hp hq dlo dlo0 dhi dhi0 hc
       refine ⟨.slice ao 0 0,?_,?_⟩
       ·rw [hat (by simp)]
        simp only [Instr.slice,Sem.run_bind,hr,Result.andThen_ok,hbd,(hT _ _ hte).run_sizeOf w,Sem.run_pure]
        have e1:slHi 0 q = 0:=by omega
        have e2:slLo p = 0:=by omega
        simp [e1,e2]
       ·simp only [Den]
        refine ⟨hb,?_⟩
        unfold SlDen
        rw [if_pos hvir]
        have hcp2:=slCp_ok (c:=0) (lo:=p) (hi:=q) hcp (Nat.le_refl 0) c1 (by omega)
        have e1:slHi 0 q = 0:=by omega
        have e2:slLo p = 0:=by omega
        rw [e1,e2] at hcp2
        exact ⟨by omega,ao,rfl,hcp2⟩
      ·rename_i hvir
       obtain ⟨ad,cap,rfl,h1,h2,h3,h4⟩:=hsl
       have hcpe:=cpEnd_le h3 h1
       obtain ⟨c1,c2,c2',c3,c4⟩:=slCondE_spec hc hcpe.1
       have hbd:=run_sliceBoundsE (P:=P) (w:=w) (m:=m) (n:=h.length) true len cap _ hcpe.1 hcpe.2 lo hi vlo vhi p q hp hq dlo dlo0 dhi dhi0 hc
       refine ⟨.slice (some (if cap = slLo p then ad else ad.add (slLo p * te.size))) (slHi len q - slLo p) (cap - slLo p),?_,?_⟩
       ·rw [hat (by simp)]
        simp only [Instr.slice,Sem.run_bind,hr,Result.andThen_ok,hbd,(hT _ _ hte).run_sizeOf w,Sem.run_pure]
        congr 2
        split <;> rfl
       ·simp only [Den]
        refine ⟨hb,?_⟩
        unfold SlDen
        rw [if_neg hvir]
        refine ⟨_,_,rfl,by omega,by omega,?_,?_⟩
        ·exact slCp_ok (c:=0) h3 h1 c1 (by omega)
        ·intro hpos
         obtain ⟨rfl,h5⟩:=h4 (by omega)
         refine ⟨?_,by omega⟩
         rw [if_neg (by omega)]
         unfold Addr.add
         rw [hesz]
         split
         ·rename_i h0; simp only [Addr.mk.injEq,and_true,true_and]; rw [Nat.add_mul]; omega
         ·simp only [Addr.mk.injEq,and_true,true_and]; rw [Nat.add_mul]; omega
     ·exact ha.elim
    ·exact ha.elim
  ·-- nil
   rename_i e hkd
   rw [hkd] at hk; simp only [KdOK] at hk; subst hk
   split at ha
   ·rename_i te p q hte hp hq
    obtain ⟨hc,rfl⟩:=ha
    obtain rfl:=dmx0 rfl
    simp only [Den] at hx; subst hx
    obtain ⟨c1,c2,c3,c4⟩:=slCond_spec hc
    have hbd:=run_sliceBounds (P:=P) (w:=w) (m:=m) (n:=h.length) true 0 0 (Nat.le_refl _) lo hi vlo vhi p q hp hq dlo dlo0 dhi dhi0 hc
    refine ⟨.slice none 0 0,?_,by simp [Den]⟩
    rw [hat (by simp)]
    simp only [Instr.slice,Sem.run_bind,hr,Result.andThen_ok,hbd,(hT _ _ hte).run_sizeOf w,Sem.run_pure]
    have e1:slHi 0 q = 0:=by omega
    have e2:slLo p = 0:=by omega
    simp [e1,e2]
   ·exact ha.elim
  ·rename_i e ro b i len full mm hkd
   rw [hkd] at hk; simp only [KdOK] at hk; subst hk
   cases hte:T e with
   | none => rw [hte] at ha; exact ha.elim
   | some te =>
    rw [hte] at ha
    simp only [] at ha
    split at ha
    ·rename_i hz
     simp only [Bool.and_eq_true] at hz
     obtain ⟨z3,z1,z2,z4⟩:=hz
     cases ha
     simp only [Den] at hx
     obtain ⟨hb,hsl⟩:=hx
     rcases zeroAV_den z2 dhi dhi0 with ⟨_,h0⟩ | ⟨k2,rfl,_⟩
     ·rw [h0] at z4; simp at z4
     rcases zeroAV_den z3 dmx dmx0 with ⟨_,h0⟩ | ⟨k3,rfl,_⟩
     ·exact absurd h0 (by simp)
     have hlo:=zeroAV_den z1 dlo dlo0
     unfold SlDen at hsl
     split at hsl
     ·rename_i hvir
      obtain ⟨rfl,ao,rfl,_⟩:=hsl
      refine ⟨.slice ao 0 0,?_,by simp only [Den]; exact ⟨hb,by unfold SlDen; rw [if_pos hvir]; exact ⟨rfl,ao,rfl,rfl⟩⟩⟩
      rw [hat (by simp)]
      rcases hlo with ⟨rfl,_⟩ | ⟨k1,rfl,_⟩ <;> simp [Instr.slice,Instr.sliceBounds,Instr.sliceBound,asIntOf,hr,(hT _ _ hte).run_sizeOf w,pure,Sem.run]
     ·rename_i hvir
      obtain ⟨ad,cap,rfl,h1,h2,h3,h4⟩:=hsl
      refine ⟨.slice (some ad) 0 0,?_,by simp only [Den]; exact ⟨hb,by unfold SlDen; rw [if_neg hvir]; exact ⟨ad,0,rfl,Nat.le_refl _,by unfold maxLen; omega,rfl,fun h => absurd h (Nat.lt_irrefl _)⟩⟩⟩
      rw [hat (by simp)]
      rcases hlo with ⟨rfl,_⟩ | ⟨k1,rfl,_⟩ <;> simp [Instr.slice,Instr.sliceBounds,Instr.sliceBound,asIntOf,hr,(hT _ _ hte).run_sizeOf w,pure,Sem.run]
    ·split at ha
     ·rename_i hz
      split at ha
      ·rename_i kl l kh h' km m' hzz
       obtain ⟨hc,rfl⟩:=ha
       obtain ⟨vl,hvl,hdl⟩:=dlo _ rfl
       obtain ⟨vh,hvh,hdh⟩:=dhi _ rfl
       obtain ⟨vm,hvm,hdm⟩:=dmx _ rfl
       simp only [Den] at hdl hdh hdm
       subst hdl hdh hdm
       subst hvl hvh hvm
       have hesz:=eszOf_spec hW hz
       have hc':=hc
       simp only [slCond3,Bool.and_eq_true,decide_eq_true_eq] at hc'
       obtain ⟨c1,c2,c3,c4⟩:=hc'
       simp only [Den] at hx
       obtain ⟨hb,hsl⟩:=hx
       unfold SlDen at hsl
       split at hsl
       ·rename_i hvir
        obtain ⟨rfl,ao,rfl,hcp⟩:=hsl
        have hcpe:=cpEnd_le hcp (Nat.le_refl 0)
        have hbd:=run_sliceBounds3 (P:=P) (w:=w) 0 0 _ hcpe.2 kl kh km l h' m' hc
        refine ⟨.slice ao 0 0,?_,?_⟩
        ·rw [hat (by simp)]
         simp only [Instr.slice,Sem.run_bind,hr,Result.andThen_ok,hbd,(hT _ _ hte).run_sizeOf w,Sem.run_pure]
         have e1:h'.toNat = 0:=by omega
         have e2:l.toNat = 0:=by omega
         have e3:m'.toNat = 0:=by omega
         simp [e1,e2,e3]
        ·simp only [Den]
         refine ⟨hb,?_⟩
         unfold SlDen
         rw [if_pos hvir]
         refine ⟨by omega,ao,rfl,?_⟩
         simp only [CpOK]; omega
       ·rename_i hvir
        obtain ⟨ad,cap,rfl,h1,h2,h3,h4⟩:=hsl
        have hcpe:=cpEnd_le h3 h1
        have hbd:=run_sliceBounds3 (P:=P) (w:=w) len cap _ hcpe.2 kl kh km l h' m' hc
        refine ⟨.slice (some (if m'.toNat = l.toNat then ad else ad.add (l.toNat * te.size))) (h'.toNat - l.toNat) (m'.toNat - l.toNat),?_,?_⟩
        ·rw [hat (by simp)]
         simp only [Instr.slice,Sem.run_bind,hr,Result.andThen_ok,hbd,(hT _ _ hte).run_sizeOf w,Sem.run_pure]
         congr 2
         split <;> rfl
        ·simp only [Den]
         refine ⟨hb,?_⟩
         unfold SlDen
         rw [if_neg hvir]
         refine ⟨_,_,rfl,by omega,by omega,?_,?_⟩
         ·simp only [CpOK]; omega
         ·intro hpos
          obtain ⟨rfl,h5⟩:=h4 (by omega)
          refine ⟨?_,by omega⟩
          rw [if_neg (by omega)]
          unfold Addr.add
          rw [hesz]
          split
          ·rename_i h0; simp only [Addr.mk.injEq,and_true,true_and]; rw [Nat.add_mul]; omega
          ·simp only [Addr.mk.injEq,and_true,true_and]; rw [Nat.add_mul]; omega
      ·exact ha.elim
     ·exact ha.elim
  ·rename_i e mm hkd
   rw [hkd] at hk; simp only [KdOK] at hk; subst hk
   cases hte:T e with
   | none => rw [hte] at ha; exact ha.elim
   | some te =>
    rw [hte] at ha
    simp only [] at ha
    split at ha
    ·rename_i hz
     simp only [Bool.and_eq_true] at hz
     obtain ⟨z1,z2,z3,z4⟩:=hz
     cases ha
     simp only [Den] at hx
     subst hx
     rcases zeroAV_den z2 dhi dhi0 with ⟨_,h0⟩ | ⟨k2,rfl,_⟩
     ·rw [h0] at z4; simp at z4
     rcases zeroAV_den z3 dmx dmx0 with ⟨_,h0⟩ | ⟨k3,rfl,_⟩
     ·exact absurd h0 (by simp)
     have hlo:=zeroAV_den z1 dlo dlo0
     refine ⟨.slice none 0 0,?_,by simp [Den]⟩
     rw [hat (by simp)]
     rcases hlo with ⟨rfl,_⟩ | ⟨k1,rfl,_⟩ <;> simp [Instr.slice,Instr.sliceBounds,Instr.sliceBound,asIntOf,hr,(hT _ _ hte).run_sizeOf w,pure,Sem.run]
    ·exact ha.elim
  ·exact ha.elim
def aindex (T:TypeId -> Option TI) (t:TypeId) (x ix:AV):QR :=
 match T t,x,ix with
 | some ti,.str l,.int _ j => match ti.kd with
  | .str => .ck (decide (0 <= j) && decide (j < (l.length:Int))) (.int .u8 (l.getD j.toNat 0).toNat)
  | _ => .no
 | some ti,.agg cs,.int _ j => match ti.kd with
  | .array n e => match T e with
   | some te => match apart T e cs (j.toNat * te.size) with
    | .no => .no
    | .ok v => .ck (decide (0 <= j) && decide (j < (n:Int))) v
    | .ck c v => .ck (decide (0 <= j) && (decide (j < (n:Int)) && c)) v
   | none => .no
  | _ => .no
 | _,_,_ => .no
theorem aindex_ok {T:TypeId -> Option TI} {P:Program} (hT:TabOK P T) {m:Map} {n:Nat} {w:World} (t:TypeId) (x ix:AV) (u v:Value)
  (hx:Den m n x u) (hi:Den m n ix v):(aindex T t x ix).sat m n P w (Instr.index t u v):=by
 refine QR.sat_of fun a ha => ?_
 unfold aindex at ha
 split at ha
 ·rename_i ti l k j hti
  split at ha
  ·rename_i hkd
   obtain ⟨d,hr,hu,hk⟩:=(hT _ _ hti).run_underlying w
   rw [hkd] at hk; simp only [KdOK] at hk; subst hk
   obtain ⟨hc,rfl⟩:=ha
   simp only [Bool.and_eq_true,decide_eq_true_eq] at hc
   simp only [Den] at hx hi
   subst hx hi
   have hlt:j.toNat < l.length:=by omega
   refine ⟨_,?_,by simp [Den]; rfl⟩
   simp only [Instr.index,asIntOf,Sem.run_bind,Sem.run_pure,Result.andThen_ok,hr]
   rw [if_pos hc.1]
   have e:(⟨⟨l⟩⟩:ByteArray)[j.toNat]? = some l[j.toNat]:=by
    have:j.toNat < (⟨⟨l⟩⟩:ByteArray).size:=hlt
    rw [getElem?_pos (⟨⟨l⟩⟩:ByteArray) j.toNat this]; rfl
   rw [e]
   simp [List.getD,List.getElem?_eq_getElem hlt,Sem.run]
  ·exact ha.elim
 ·rename_i ti cs k j hti
  split at ha
  ·rename_i nn e hkd
   obtain ⟨d,hr,hu,hk⟩:=(hT _ _ hti).run_underlying w
   rw [hkd] at hk; simp only [KdOK] at hk; subst hk
   cases hte:T e with
   | none => rw [hte] at ha; exact ha.elim
   | some te =>
    rw [hte] at ha
    simp only [] at ha
    simp only [Den] at hx hi
    obtain ⟨us,rfl,hd⟩:=hx
    subst hi
    have hap:=apart_ok hT (w:=w) e cs us (j.toNat * te.size) hd
    have key:(0 <= j /\ j < (nn:Int)) -> (apart T e cs (j.toNat * te.size)).has a -> ∃ c,(Instr.index t (.agg us) (.int k j)).run P w = .ok c w /\ Den m n a c:=by
     intro hc hh
     have e1:(Instr.index t (.agg us) (.int k j)).run P w = (part e us (j.toNat * te.size)).run P w:=by
      simp only [Instr.index,asIntOf,Sem.run_bind,Sem.run_pure,Result.andThen_ok,hr]
      rw [if_pos hc]
      simp only [Sem.run_bind,(hT _ _ hte).run_sizeOf w,Result.andThen_ok]
     rw [e1]
     cases hq:apart T e cs (j.toNat * te.size) <;> rw [hq] at hap hh
     ·exact hh.elim
     ·cases hh; exact hap
     ·obtain ⟨h1,rfl⟩:=hh; exact hap h1
    cases hq:apart T e cs (j.toNat * te.size) <;> rw [hq] at ha <;> simp only [] at ha
    ·exact ha.elim
    ·obtain ⟨hc,rfl⟩:=ha
     simp only [Bool.and_eq_true,decide_eq_true_eq] at hc
     exact key hc (by rw [hq]; rfl)
    ·obtain ⟨hc,rfl⟩:=ha
     simp only [Bool.and_eq_true,decide_eq_true_eq] at hc
     exact key ⟨hc.1,hc.2.1⟩ (by rw [hq]; exact ⟨hc.2.2,rfl⟩)
  ·exact ha.elim
 ·exact ha.elim
def alen (T:TypeId -> Option TI) (t:TypeId) (x:AV):QR :=
 match T t with
 | none => .no
 | some ti => match ti.kd,x with
  | .str,.str l => .ok (.int .i64 l.length)
  | .array n _,.any => .no
  | .array n _,_ => .ok (.int .i64 n)
  | .slice _,.sl _ _ _ len _ => .ok (.int .i64 len)
  | .slice _,.nils => .ok (.int .i64 0)
  | _,_ => .no
theorem alen_ok {T:TypeId -> Option TI} {P:Program} (hT:TabOK P T) {m:Map} {n:Nat} {w:World} (t r:TypeId) (ts:List TypeId) (x:AV) (u:Value) (us:List Value)
  (hx:Den m n x u):(alen T t x).sat m n P w (Builtin.len_ (t :: ts).toArray r (u :: us).toArray):=by
 refine QR.sat_of fun a ha => ?_
 unfold alen at ha
 cases hti:T t with
 | none => rw [hti] at ha; exact ha.elim
 | some ti =>
  rw [hti] at ha
  obtain ⟨d,hr,hu,hk⟩:=(hT _ _ hti).run_underlying w
  simp only [] at ha
  split at ha
  ·rename_i l hkd
   rw [hkd] at hk; simp only [KdOK] at hk; subst hk
   cases ha
   simp only [Den] at hx; subst hx
   exact ⟨_,by simp [Builtin.len_,hr,goInt,size_mk,pure,Sem.run]; rfl,by simp [Den]⟩
  ·exact ha.elim
  ·rename_i nn e hkd _
   rw [hkd] at hk; simp only [KdOK] at hk; subst hk
   cases ha
   exact ⟨_,by simp [Builtin.len_,hr,goInt,pure,Sem.run]; rfl,by simp [Den]⟩
  ·rename_i e ro b i len full hkd
   rw [hkd] at hk; simp only [KdOK] at hk; subst hk
   cases ha
   simp only [Den] at hx
   obtain ⟨_,hsl⟩:=hx
   unfold SlDen at hsl
   split at hsl
   ·obtain ⟨rfl,ao,rfl,_⟩:=hsl
    exact ⟨_,by simp [Builtin.len_,hr,goInt,pure,Sem.run]; rfl,by simp [Den]⟩
   ·obtain ⟨_,_,rfl,_⟩:=hsl
    exact ⟨_,by simp [Builtin.len_,hr,goInt,pure,Sem.run]; rfl,by simp [Den]⟩
  ·rename_i e hkd
   rw [hkd] at hk; simp only [KdOK] at hk; subst hk
   cases ha
   simp only [Den] at hx; subst hx
   exact ⟨_,by simp [Builtin.len_,hr,goInt,pure,Sem.run]; rfl,by simp [Den]⟩
  ·exact ha.elim
def aminmax (mx:Bool):List AV -> QR
 | [.int k a,.int k' b] => if k = k' then .ok (.int k (if mx then (if b > a then b else a) else (if b < a then b else a))) else .no
 | _ => .no
theorem DenL.two {m:Map} {n:Nat} {a b:AV} {l:List Value} (h:DenL m n [a,b] l):∃ u v,l = [u,v] /\ Den m n a u /\ Den m n b v:=by
 simp only [DenL] at h
 obtain ⟨u,us,rfl,h1,v,vs,rfl,h2,rfl⟩:=h
 exact ⟨u,v,rfl,h1,h2⟩
theorem amin_ok {P:Program} {m:Map} {n:Nat} {w:World} (ts:Array TypeId) (r:TypeId) (xs:List AV) (us:Array Value) (h:DenL m n xs us.toList) :
  (aminmax false xs).sat m n P w (Builtin.min_ ts r us):=by
 refine QR.sat_of fun a ha => ?_
 unfold aminmax at ha
 split at ha
 ·rename_i k x k' y
  split at ha
  ·rename_i hk
   subst hk
   cases ha
   obtain ⟨u,v,e,h1,h2⟩:=h.two
   simp only [Den] at h1 h2
   subst h1 h2
   refine ⟨_,?_,by simp only [Den]; rfl⟩
   simp only [Builtin.min_,e]
   simp [Builtin.min2,pure,Sem.run]
  ·exact ha.elim
 ·exact ha.elim
theorem amax_ok {P:Program} {m:Map} {n:Nat} {w:World} (ts:Array TypeId) (r:TypeId) (xs:List AV) (us:Array Value) (h:DenL m n xs us.toList) :
  (aminmax true xs).sat m n P w (Builtin.max_ ts r us):=by
 refine QR.sat_of fun a ha => ?_
 unfold aminmax at ha
 split at ha
 ·rename_i k x k' y
  split at ha
  ·rename_i hk
   subst hk
   cases ha
   obtain ⟨u,v,e,h1,h2⟩:=h.two
   simp only [Den] at h1 h2
   subst h1 h2
   refine ⟨_,?_,by simp only [Den]; rfl⟩
   simp only [Builtin.max_,e]
   simp [Builtin.max2,pure,Sem.run]
  ·exact ha.elim
 ·exact ha.elim
def putAt (cells:List AV) (off:Nat) (vs:List AV):List AV:=cells.take off ++ (vs ++ cells.drop (off + vs.length))
def AV.known:AV -> Bool
 | .any => false
 | _ => true
def afill (place:Nat -> Option (Nat × Nat)) (cells:List AV):List (Nat × AV) -> Option (List AV)
 | [] => some cells
 | (i,v) :: rest =>
  match place i with
  | none => none
  | some (off,size) =>
   if v.known = true /\ v.cells.length = size /\ off + v.cells.length <= cells.length then afill place (putAt cells off v.cells) rest else none
theorem putAt_get {cells:List AV} {off:Nat} {vs:List AV} (h:off + vs.length <= cells.length) (k:Nat) :
  (putAt cells off vs)[k]? = if off <= k /\ k < off + vs.length then vs[k - off]? else cells[k]?:=by
 unfold putAt
 by_cases h1:k < off
 ·rw [List.getElem?_append_left (by simp; omega),List.getElem?_take_of_lt h1,if_neg (by omega)]
 ·rw [List.getElem?_append_right (by simp; omega)]
  have e:(cells.take off).length = off:=by simp; omega
  rw [e]
  by_cases h2:k < off + vs.length
  ·rw [List.getElem?_append_left (by omega),if_pos (by omega)]
  ·rw [List.getElem?_append_right (by omega),List.getElem?_drop,if_neg (by omega)]
   congr 1; omega
theorem putAt_length {cells:List AV} {off:Nat} {vs:List AV} (h:off + vs.length <= cells.length):(putAt cells off vs).length = cells.length:=by
 unfold putAt; simp; omega
theorem foldl_set (off:Nat):∀ (vs:List Value) (j:Nat) (cs:Array Value),off + j + vs.length <= cs.size ->
  ((vs.zipIdx j).foldl (fun cs (c,i) => cs.setIfInBounds (off + i) c) cs).size = cs.size /\
  ∀ k,((vs.zipIdx j).foldl (fun cs (c,i) => cs.setIfInBounds (off + i) c) cs)[k]? = if off + j <= k /\ k < off + j + vs.length then vs[k - (off + j)]? else cs[k]?
 | [],j,cs,h => by
  refine ⟨rfl,fun k => ?_⟩
  simp only [List.zipIdx_nil,List.foldl_nil,List.length_nil]
  rw [if_neg (by omega)]
 | v :: vs,j,cs,h => by
  simp only [List.length_cons] at h
  have ih:=foldl_set off vs (j + 1) (cs.setIfInBounds (off + j) v) (by simp; omega)
  simp only [List.zipIdx_cons,List.foldl_cons]
  refine ⟨by rw [ih.1]; simp,fun k => ?_⟩
  rw [ih.2 k]
  by_cases h1:k = off + j
  ·subst h1
   rw [if_neg (by omega),if_pos (by simp)]
   have hlt:off + j < cs.size:=by omega
   simp [hlt]
  ·by_cases h2:off + (j + 1) <= k /\ k < off + (j + 1) + vs.length
   ·rw [if_pos h2,if_pos (by simp only [List.length_cons]; omega)]
    rw [show k - (off + j) = (k - (off + (j + 1))) + 1 by omega]
    simp
   ·rw [if_neg h2,if_neg (by simp only [List.length_cons]; omega)]
    rw [Array.getElem?_setIfInBounds_ne (by omega)]
theorem fill_ok {m:Map} {n:Nat} (place:Nat -> Option (Nat × Nat)):∀ (parts:List (Nat × AV)) (ps:List (Nat × Value)) (cells res:List AV) (cs:Array Value),
  DenL m n cells cs.toList -> ps.map (·.1) = parts.map (·.1) -> DenL m n (parts.map (·.2)) (ps.map (·.2)) -> afill place cells parts = some res ->
  ∃ r,Instr.fill place cs ps = some r /\ DenL m n res r.toList
 | [],ps,cells,res,cs,hc,h1,h2,hf => by
  have:ps = []:=by simpa using h1
  subst this
  simp only [afill,Option.some.injEq] at hf
  subst hf
  exact ⟨cs,rfl,hc⟩
 | (i,v) :: parts,[],cells,res,cs,hc,h1,h2,hf => by simp at h1
 | (i,v) :: parts,(i',u) :: ps,cells,res,cs,hc,h1,h2,hf => by
  simp only [List.map_cons,List.cons.injEq] at h1
  obtain ⟨rfl,h1⟩:=h1
  simp only [List.map_cons,DenL] at h2
  obtain ⟨u',us,he,hd,h2⟩:=h2
  simp only [List.cons.injEq] at he
  obtain ⟨rfl,rfl⟩:=he
  simp only [afill] at hf
  cases hp:place i' with
  | none => rw [hp] at hf; exact absurd hf (by simp)
  | some pr =>
   obtain ⟨off,size⟩:=pr
   rw [hp] at hf
   simp only [] at hf
   split at hf
   ·rename_i hcond
    obtain ⟨k1,k2,k3⟩:=hcond
    have hdc:=hd.cells (fun e => by rw [e] at k1; simp [AV.known] at k1)
    have hlen:=hdc.length
    have hclen:=hc.length
    simp only [Array.length_toList] at hlen hclen
    have hset:=foldl_set off u.cells.toList 0 cs (by simp; omega)
    simp only [Nat.add_zero,Array.length_toList] at hset
    have hz:u.cells.zipIdx.foldl (fun cs (c,j) => cs.setIfInBounds (off + j) c) cs = (u.cells.toList.zipIdx 0).foldl (fun cs (c,i) => cs.setIfInBounds (off + i) c) cs:=by
     rw [<- Array.foldl_toList]; simp
    simp only [Instr.fill,hp]
    rw [if_neg (by simp; omega),hz]
    refine fill_ok place parts ps _ res _ ?_ h1 h2 hf
    refine DenL.of (by rw [putAt_length k3]; simp [hset.1,hclen]) ?_
    intro k a ha
    rw [putAt_get k3] at ha
    have:=hset.2 k
    rw [<- Array.getElem?_toList] at this
    rw [this]
    split at ha
    ·rename_i hk
     rw [if_pos (by omega)]
     exact hdc.get ha
    ·rename_i hk
     rw [if_neg (by omega)]
     simpa using hc.get ha
   ·exact absurd hf (by simp)
def places (kd:Kd) (te:Nat):Nat -> Option (Nat × Nat) :=
 match kd with
 | .struct fs => fun i => (fs[i]?).map fun f => (f.2.1,f.2.2)
 | .array _ _ => fun i => some (i * te,te)
 | _ => fun _ => none
def abuild (T:TypeId -> Option TI) (t:TypeId) (parts:List (Nat × AV)):QR :=
 match T t with
 | none => .no
 | some ti => match ti.kd with
  | .struct fs => if fs.all (fun f => (T f.1).isSome) then match afill (places ti.kd 0) ti.zv.cells parts with | some cs => .ok (.agg cs) | none => .no else .no
  | .array _ e => match T e with
   | some te => match afill (places ti.kd te.size) ti.zv.cells parts with | some cs => .ok (.agg cs) | none => .no
   | none => .no
  | _ => .no
end Go.Dc
end
section
namespace Go.Dc
theorem mapM_places {P:Program}:∀ (fs:List Field),(∀ f ∈ fs,∃ i,P.info? f.type = some i) ->
  fs.mapM (fun f => (P.info? f.type).map fun i => (f.offset,i.size)) = some (fs.map fun f => (f.offset,((P.info? f.type).map (·.size)).getD 0))
 | [],_ => rfl
 | f :: fs,h => by
  obtain ⟨i,hi⟩:=h f List.mem_cons_self
  have ih:=mapM_places fs (fun g hg => h g (List.mem_cons_of_mem _ hg))
  simp [List.mapM_cons,hi,ih]
theorem abuild_ok {T:TypeId -> Option TI} {P:Program} (hT:TabOK P T) {m:Map} {n:Nat} {w:World} (t:TypeId) (parts:List (Nat × AV)) (ps:Array (Nat × Value))
  (h1:ps.toList.map (·.1) = parts.map (·.1)) (h2:DenL m n (parts.map (·.2)) (ps.toList.map (·.2))):(abuild T t parts).sat m n P w (Instr.build t ps):=by
 refine QR.sat_of fun a ha => ?_
 unfold abuild at ha
 cases hti:T t with
 | none => rw [hti] at ha; exact ha.elim
 | some ti =>
  rw [hti] at ha
  obtain ⟨d,hr,hu,hk⟩:=(hT _ _ hti).run_underlying w
  obtain ⟨i,hi,hsz,hby,z,hz,hzd⟩:=(hT _ _ hti).info
  have hzc:DenL m n ti.zv.cells z.cells.toList:=Den.cells (hT _ _ hti).zk (hzd m n)
  simp only [] at ha
  split at ha
  ·rename_i fs hkd
   rw [hkd] at hk; simp only [KdOK] at hk
   obtain ⟨fa,rfl,rfl⟩:=hk
   split at ha
   ·rename_i hall
    cases hf:afill (places ti.kd 0) ti.zv.cells parts with
    | none => rw [hf] at ha; exact ha.elim
    | some cs =>
     rw [hf] at ha
     cases ha
     obtain ⟨r,hfr,hd⟩:=fill_ok (places ti.kd 0) parts ps.toList _ cs _ hzc h1 h2 hf
     refine ⟨.agg r,run_build w t ps r ?_,by simp only [Den]; exact ⟨r,rfl,hd⟩⟩
     have hex:∀ f ∈ fa.toList,∃ i,P.info? f.type = some i:=by
      intro f hfm
      simp only [List.all_eq_true,List.mem_map] at hall
      have:=hall _ ⟨f,hfm,rfl⟩
      simp only [] at this
      cases hft:T f.type with
      | none => rw [hft] at this; simp at this
      | some tf =>
       obtain ⟨j,hj,_⟩:=(hT _ _ hft).info
       exact ⟨j,hj⟩
     simp only [Program.built,hi,hu,hz,mapM_places _ hex]
     rw [<- hfr]
     congr 1
     funext k
     simp [places,hkd]
     cases fa[k]? <;> simp
   ·exact ha.elim
  ·rename_i nn e hkd
   rw [hkd] at hk; simp only [KdOK] at hk; subst hk
   cases hte:T e with
   | none => rw [hte] at ha; exact ha.elim
   | some te =>
    rw [hte] at ha
    simp only [] at ha
    cases hf:afill (places ti.kd te.size) ti.zv.cells parts with
    | none => rw [hf] at ha; exact ha.elim
    | some cs =>
     rw [hf] at ha
     cases ha
     obtain ⟨r,hfr,hd⟩:=fill_ok (places ti.kd te.size) parts ps.toList _ cs _ hzc h1 h2 hf
     refine ⟨.agg r,run_build w t ps r ?_,by simp only [Den]; exact ⟨r,rfl,hd⟩⟩
     obtain ⟨j,hj,hjs,_⟩:=(hT _ _ hte).info
     simp only [Program.built,hi,hu,hz,hj]
     rw [<- hfr]
     congr 1
     funext k
     simp [places,hkd,hjs]
  ·exact ha.elim
def evQ (T:TypeId -> Option TI) (R:Nat -> RoRow) (h:Rows) (ev:Operand -> AV) (o:Oper):QR :=
 match o.op with
 | .move x | .assign x => .ok (ev x)
 | .nilCheck x => match ev x with
  | .ptr ro b i j => .ok (.ptr ro b i j)
  | .fn f p q => .ok (.fn f p q)
  | .ifc t x => .ok (.ifc t x)
  | _ => .no
 | .binOp op t x y _ => abin T op t (ev x) (ev y)
 | .unOp op _ x => aunary op (ev x)
 | .convert s d x => aconv T h s d (ev x)
 | .makeInterface t x => match T t with
  | some ti => match ti.kd with | .iface | .other => .no | _ => .ok (.ifc t (ev x))
  | none => .no
 | .makeFunc (.func f) first cap => .ok (.fn f (first.toList.map ev) (cap.toList.map ev))
 | .fieldAddr s x f => afieldAddr T s (ev x) f
 | .field t x f => afieldOf T t (ev x) f
 | .indexAddr t x i => aindexAddr T R h t (ev x) (ev i)
 | .index t x i => aindex T t (ev x) (ev i)
 | .load t a => aload T R h t (ev a)
 | .extract x i => match ev x with
  | .tup l => match l[i]? with | some v => .ok v | none => .no
  | _ => .no
 | .build t parts => abuild T t (parts.toList.map fun p => (p.1,ev p.2))
 | .slice t x lo hi mx => aslice T R h t (ev x) (lo.map ev) (hi.map ev) (mx.map ev)
 | .call { callee:=.builtin .len,args,argTypes } => match argTypes.toList,args.toList with
  | t :: _,x :: _ => alen T t (ev x)
  | _,_ => .no
 | .call { callee:=.builtin .min,args,.. } => aminmax false (args.toList.map ev)
 | .call { callee:=.builtin .max,args,.. } => aminmax true (args.toList.map ev)
 | _ => .no
def QR.run (m:Map) (n:Nat) (P:Program) (w:World) (s:Sem Next) (q:QR):Prop :=
 ∀ v,q.has v -> ∃ c,s.run P w = .ok (.value c) w /\ Den m n v c
theorem QR.sat.run {m:Map} {n:Nat} {P:Program} {w:World} {s:Sem Value} {q:QR} (h:q.sat m n P w s):q.run m n P w (do pure (.value (<- s))):=by
 intro v hv
 have:∃ c,s.run P w = .ok c w /\ Den m n v c:=by
  cases q with
  | no => exact hv.elim
  | ok u => cases hv; exact h
  | ck c u => obtain ⟨h1,rfl⟩:=hv; exact h h1
 obtain ⟨c,hc,hd⟩:=this
 exact ⟨c,by simp [hc,pure,Sem.run],hd⟩
theorem DenL.map_op {m:Map} {n:Nat} {ev:Operand -> AV} {ρ:Operand -> Value} (hev:∀ x,Den m n (ev x) (ρ x)):∀ (l:List Operand),DenL m n (l.map ev) (l.map ρ)
 | [] => by simp [DenL]
 | x :: l => by
  simp only [List.map_cons,DenL]
  exact ⟨_,_,rfl,hev x,DenL.map_op hev l⟩
theorem evQ_ok {T:TypeId -> Option TI} {P:Program} (hT:TabOK P T) {R:Nat -> RoRow} {m:Map} {h:Rows} {w:World} (hW:WR R m h w) (ev:Operand -> AV) (ρ:Operand -> Value)
  (hev:∀ x,Den m h.length (ev x) (ρ x)) (o:Oper):(evQ T R h ev o).run m h.length P w (execOp ρ o):=by
 obtain ⟨dst,op,type,pos,after,guard⟩:=o
 cases op
 case move x => intro v hv; cases hv; exact ⟨ρ x,rfl,hev x⟩
 case assign x => intro v hv; cases hv; exact ⟨ρ x,rfl,hev x⟩
 case nilCheck x =>
  intro v hv
  simp only [evQ] at hv
  have hx:=hev x
  split at hv
  ·rename_i he
   cases hv
   rw [he] at hx
   have hx':=hx
   simp only [Den] at hx
   obtain ⟨_,_,e⟩:=hx
   exact ⟨ρ x,by simp [execOp,e,pure,Sem.run],hx'⟩
  ·rename_i he
   cases hv
   rw [he] at hx
   have hx':=hx
   simp only [Den] at hx
   obtain ⟨_,_,e,_⟩:=hx
   exact ⟨ρ x,by simp [execOp,e,pure,Sem.run],hx'⟩
  ·rename_i he
   cases hv
   rw [he] at hx
   have hx':=hx
   simp only [Den] at hx
   obtain ⟨_,e,_⟩:=hx
   exact ⟨ρ x,by simp [execOp,e,pure,Sem.run],hx'⟩
  ·exact hv.elim
 case binOp op t x y yt => exact (abin_ok hT m h.length w op t x y _ _ _ _ (hev x) (hev y)).run
 case unOp op t x => exact (aunary_ok op _ _ (hev x)).run
 case convert s d x => exact (aconv_ok hT hW s d _ _ (hev x)).run
 case makeInterface t x =>
  intro v hv
  simp only [evQ] at hv
  cases hti:T t with
  | none => rw [hti] at hv; exact hv.elim
  | some ti =>
   rw [hti] at hv
   obtain ⟨d,hr,hu,hk⟩:=(hT _ _ hti).run_underlying w
   simp only [] at hv
   split at hv
   ·exact hv.elim
   ·exact hv.elim
   ·rename_i h1 h2
    cases hv
    refine ⟨.iface t (ρ x),?_,by simp only [Den]; exact ⟨_,rfl,hev x⟩⟩
    simp only [execOp,Sem.run_bind,Instr.makeInterface,hr,Result.andThen_ok]
    cases hkd:ti.kd <;> simp only [hkd,KdOK] at hk
    case iface => exact absurd hkd h1
    case other => exact absurd hkd h2
    all_goals first
     | (subst hk; simp [pure,Sem.run]; done)
     | (obtain ⟨_,rfl,_⟩:=hk; simp [pure,Sem.run]; done)
     | (obtain ⟨_,_,_,rfl⟩:=hk; simp [pure,Sem.run]; done)
 case makeFunc fn first cap =>
  cases fn <;> simp only [evQ] <;> first | (intro v hv; exact hv.elim) | skip
  rename_i f
  intro v hv
  cases hv
  refine ⟨.func (.func f) (first.map ρ) (cap.map ρ),by simp [execOp,Instr.makeFunc,pure,Sem.run],?_⟩
  simp only [Den]
  exact ⟨_,_,rfl,by simpa using DenL.map_op hev first.toList,by simpa using DenL.map_op hev cap.toList⟩
 case fieldAddr s x f => exact (afieldAddr_ok hT s _ f _ (hev x)).run
 case field t x f => exact (afieldOf_ok hT t _ f _ (hev x)).run
 case indexAddr t x i => exact (aindexAddr_ok hT hW t _ _ _ _ (hev x) (hev i)).run
 case index t x i => exact (aindex_ok hT t _ _ _ _ (hev x) (hev i)).run
 case load t a => exact (aload_ok hT hW t _ _ (hev a)).run
 case extract x i =>
  intro v hv
  simp only [evQ] at hv
  split at hv
  ·rename_i l he
   have hx:=hev x
   rw [he] at hx
   simp only [Den] at hx
   obtain ⟨vs,e,hd⟩:=hx
   cases hg:l[i]? with
   | none => rw [hg] at hv; exact hv.elim
   | some a =>
    rw [hg] at hv
    cases hv
    obtain ⟨u,hu,hdu⟩:=hd.get hg
    have hu':vs[i]? = some u:=by simpa using hu
    exact ⟨u,by simp [execOp,Instr.extract,e,hu',pure,Sem.run],hdu⟩
  ·exact hv.elim
 case build t parts =>
  refine (abuild_ok hT t _ (parts.map fun (i,x) => (i,ρ x)) ?_ ?_).run
  ·simp
  ·have:=DenL.map_op hev (parts.toList.map (·.2))
   simpa [Function.comp_def] using this
 case slice t x lo hi mx =>
  have aux:∀ (p:Option Operand),(∀ a,p.map ev = some a -> ∃ v,p.map ρ = some v /\ Den m h.length a v) /\ (p.map ev = none -> p.map ρ = none):=by
   intro p
   cases p with
   | none => simp
   | some y => simp; exact hev y
  exact (aslice_ok hT hW t _ _ _ _ _ _ _ _ (hev x) (aux lo).1 (aux lo).2 (aux hi).1 (aux hi).2 (aux mx).1 (aux mx).2).run
 case call c =>
  obtain ⟨callee,args,argTypes⟩:=c
  cases callee
  case value f => intro v hv; exact hv.elim
  case invoke r mm => intro v hv; exact hv.elim
  case builtin b =>
   cases b <;> try (intro v hv; exact hv.elim)
   case len =>
    intro v hv
    simp only [evQ] at hv
    split at hv
    ·rename_i t ts x xs ht hx
     have hl:=(alen_ok hT (m:=m) (n:=h.length) (w:=w) t type ts _ _ (xs.map ρ) (hev x)).run v hv
     obtain ⟨c,hc,hd⟩:=hl
     refine ⟨c,?_,hd⟩
     have e1:argTypes = (t :: ts).toArray:=by rw [<- ht]
     have e2:args.map ρ = (ρ x :: xs.map ρ).toArray:=by
      rw [show args = (x :: xs).toArray by rw [<- hx]]; simp
     simp only [execOp,resolve,Sem.run_bind,Sem.run_pure,Result.andThen_ok,invoke,builtin]
     rw [e1,e2]
     simpa using hc
    ·exact hv.elim
   case min =>
    intro v hv
    have hl:=(amin_ok (P:=P) (m:=m) (n:=h.length) (w:=w) argTypes type (args.toList.map ev) (args.map ρ) (by simpa using DenL.map_op hev args.toList)).run v hv
    obtain ⟨c,hc,hd⟩:=hl
    refine ⟨c,?_,hd⟩
    simp only [execOp,resolve,Sem.run_bind,Sem.run_pure,Result.andThen_ok,invoke,builtin]
    simpa using hc
   case max =>
    intro v hv
    have hl:=(amax_ok (P:=P) (m:=m) (n:=h.length) (w:=w) argTypes type (args.toList.map ev) (args.map ρ) (by simpa using DenL.map_op hev args.toList)).run v hv
    obtain ⟨c,hc,hd⟩:=hl
    refine ⟨c,?_,hd⟩
    simp only [execOp,resolve,Sem.run_bind,Sem.run_pure,Result.andThen_ok,invoke,builtin]
    simpa using hc
 all_goals (intro v hv; exact hv.elim)
end Go.Dc
end
section
namespace Go.Dc
def Map.setMu (m:Map) (b:Nat) (l:Loc):Map:={ mu:=fun c => bif Nat.beq c b then l else m.mu c,ro:=m.ro }
theorem Map.setMu_same (m:Map) (b:Nat) (l:Loc):(m.setMu b l).mu b = l:=by simp [Map.setMu]
theorem Map.setMu_ne (m:Map) (b c:Nat) (l:Loc) (h:c ≠ b):(m.setMu b l).mu c = m.mu c:=by
 have:Nat.beq c b = false:=by rw [Bool.eq_false_iff]; exact fun e => h (Nat.eq_of_beq_eq_true e)
 simp [Map.setMu,this]
theorem live_lt {h:Rows} {b:Nat} {r:Row} (hl:h.live b = some r):b < h.length:=by
 unfold Rows.live at hl
 cases hx:h[b]? with
 | none => rw [hx] at hl; simp at hl
 | some x => exact (List.getElem?_eq_some_iff.1 hx).1
theorem live_push {h:Rows} {r:Row} {b:Nat} {r':Row} (hl:Rows.live (h ++ [some r]) b = some r'):(b < h.length /\ h.live b = some r') \/ (b = h.length /\ r' = r):=by
 have hb:=live_lt hl
 simp at hb
 unfold Rows.live at hl ⊢
 by_cases h1:b < h.length
 ·rw [List.getElem?_append_left h1] at hl
  exact .inl ⟨h1,hl⟩
 ·have:b = h.length:=by omega
  subst this
  rw [List.getElem?_append_right (Nat.le_refl _)] at hl
  simp at hl
  exact .inr ⟨rfl,hl.symm⟩
theorem live_set {h:Rows} {b c:Nat} {x:Option Row} (hb:b < h.length):Rows.live (h.set b x) c = if c = b then x else h.live c:=by
 unfold Rows.live
 by_cases e:c = b
 ·subst e; simp [hb]
 ·rw [if_neg e,List.getElem?_set_ne (by omega)]
def ElsOK (m:Map) (n:Nat) (r:Row) (esz:Nat) (c:Nat -> Option Value):Prop :=
 ∀ i e,r.get? i = some e -> e.cells.length = esz /\ ∀ o a,e.cells[o]? = some a -> a.one = true /\ ∃ v,c (i * esz + o) = some v /\ Den m n a v
theorem ElsOK.mono {m m':Map} {n n':Nat} {r:Row} {esz:Nat} {c:Nat -> Option Value} (h:ElsOK m n r esz c) (hn:n <= n') (hm:∀ b,b < n -> m'.mu b = m.mu b) (hr:m'.ro = m.ro):ElsOK m' n' r esz c :=
 fun i e he => ⟨(h i e he).1,fun o a ha => by
  obtain ⟨h1,v,hv,hd⟩:=(h i e he).2 o a ha
  exact ⟨h1,v,hv,hd.mono hn hm hr⟩⟩
theorem RowOK.els {m:Map} {n:Nat} {l:Loc} {r:Row} {w:World} (h:RowOK m n l r w) (hv:l.vir = false) :
  ∃ c fz,w.heap[l.blk]? = some (.cells c r.ty fz) /\ l.shift + l.ext * l.esz <= c.size /\ FzOff fz l.shift (l.shift + l.ext * l.esz) c.size l.esz /\
   ElsOK m n r l.esz (fun k => c[l.shift + k]?):=by
 unfold RowOK at h
 rw [hv] at h
 simp only [Bool.false_eq_true,if_false] at h
 obtain ⟨h1,h2,c,fz,hb,h3,h4,h5⟩:=h
 exact ⟨c,fz,hb,h3,h4,h5⟩
theorem RowOK.mk' {m:Map} {n:Nat} {l:Loc} {r:Row} {w:World} (hv:l.vir = false) (h1:l.esz = r.esz) (h2:r.len <= l.ext) {c:Array Value} {fz:Nat × Nat} (hb:w.heap[l.blk]? = some (.cells c r.ty fz))
  (h3:l.shift + l.ext * l.esz <= c.size) (h4:FzOff fz l.shift (l.shift + l.ext * l.esz) c.size l.esz) (h5:ElsOK m n r l.esz (fun k => c[l.shift + k]?)):RowOK m n l r w:=by
 unfold RowOK
 rw [hv]
 simp only [Bool.false_eq_true,if_false]
 exact ⟨h1,h2,c,fz,hb,h3,h4,h5⟩
theorem RowOK.mono {m m':Map} {n n':Nat} {l:Loc} {r:Row} {w w':World} (h:RowOK m n l r w) (hn:n <= n') (hm:∀ b,b < n -> m'.mu b = m.mu b) (hr:m'.ro = m.ro)
  (hb:l.vir = false -> w'.heap[l.blk]? = w.heap[l.blk]?):RowOK m' n' l r w':=by
 cases hv:l.vir with
 | true =>
  unfold RowOK at h ⊢
  rw [hv] at h ⊢
  exact h
 | false =>
  obtain ⟨c,fz,h1,h2,h3,h4⟩:=h.els hv
  exact RowOK.mk' hv h.1 h.2.1 (by rw [hb hv]; exact h1) h2 h3 (h4.mono hn hm hr)
theorem RoOK.mono {m m':Map} {l:Loc} {r:RoRow} {w w':World} (h:RoOK m l r w) (hr:m'.ro = m.ro) (hb:l.vir = false -> 0 < r.n -> w'.heap[l.blk]? = w.heap[l.blk]?):RoOK m' l r w':=by
 unfold RoOK at h ⊢
 refine ⟨h.1,h.2.1,?_⟩
 have h3:=h.2.2
 split
 ·rename_i hv; rw [if_pos hv] at h3; exact h3
 ·rename_i hv
  rw [if_neg hv] at h3
  intro hn
  obtain ⟨c,fz,h4,h5⟩:=h3 hn
  refine ⟨c,fz,by rw [hb (by simpa using hv) hn]; exact h4,fun i hi => ⟨(h5 i hi).1,fun o a ha => ?_⟩⟩
  obtain ⟨h6,v,h7,h8⟩:=(h5 i hi).2 o a ha
  exact ⟨h6,v,h7,h8.mono (Nat.le_refl _) (fun _ hb => absurd hb (Nat.not_lt_zero _)) hr⟩
theorem WR.blk_lt {R:Nat -> RoRow} {m:Map} {h:Rows} {w:World} (hW:WR R m h w) {b:Nat} {r:Row} (hl:h.live b = some r) (hv:(m.mu b).vir = false):(m.mu b).blk < w.heap.size:=by
 obtain ⟨c,fz,h1,_⟩:=(hW.row b r hl).els hv
 exact (Array.getElem?_eq_some_iff.1 h1).1
theorem WR.ro_lt {R:Nat -> RoRow} {m:Map} {h:Rows} {w:World} (hW:WR R m h w) {i:Nat} (hv:(m.ro i).vir = false) (hn:0 < (R i).n):(m.ro i).blk < w.heap.size:=by
 have h0:=(hW.ro i).2.2
 rw [if_neg (by simpa using hv)] at h0
 obtain ⟨c,fz,h1,_⟩:=h0 hn
 exact (Array.getElem?_eq_some_iff.1 h1).1
theorem WR.same {R:Nat -> RoRow} {m:Map} {h:Rows} {w w':World} (hW:WR R m h w) (hh:w'.heap = w.heap):WR R m h w' where
 row:=fun b r hl => (hW.row b r hl).mono (Nat.le_refl _) (fun _ _ => rfl) rfl (fun _ => by rw [hh])
 apart:=hW.apart
 ro:=fun i => (hW.ro i).mono rfl (fun _ _ => by rw [hh])
 roApart:=hW.roApart
theorem WR.drop {R:Nat -> RoRow} {m:Map} {h:Rows} {w:World} (hW:WR R m h w) (b:Nat) (hb:b < h.length):WR R m (h.set b none) w:=by
 have hlive:∀ c r,Rows.live (h.set b none) c = some r -> h.live c = some r:=by
  intro c r hc
  rw [live_set hb] at hc
  split at hc
  ·exact absurd hc (by simp)
  ·exact hc
 exact {
  row:=fun c r hc => by
   have:=hW.row c r (hlive c r hc)
   simpa using this
  apart:=fun c d r r' hc hd => hW.apart c d r r' (hlive c r hc) (hlive d r' hd)
  ro:=hW.ro
  roApart:=fun i c r hc => hW.roApart i c r (hlive c r hc) }
theorem Step.drop {m:Map} {h:Rows} {w:World} (b:Nat) (hb:b < h.length):Step m h w m (h.set b none) w where
 os:=rfl
 tape:=rfl
 output:=rfl
 size:=Nat.le_refl _
 block:=fun _ _ _ => rfl
 len:=by simp
 mu:=fun _ _ => rfl
 ro:=rfl
 new:=fun c r hc hv => by
  rw [live_set hb] at hc
  split at hc
  ·exact absurd hc (by simp)
  ·exact .inr ⟨c,r,hc,hv,rfl⟩
theorem WR.push {R:Nat -> RoRow} {m:Map} {h:Rows} {w w':World} (hW:WR R m h w) (r:Row) (c:Array Value) (fz:Nat × Nat) (ext:Nat)
  (hos:w'.os = w.os) (htape:w'.tape = w.tape) (hout:w'.output = w.output) (hh:w'.heap = w.heap.push (.cells c r.ty fz))
  (h2:r.len <= ext) (h3:ext * r.esz <= c.size) (h4:FzOff fz 0 (ext * r.esz) c.size r.esz) (h5:ElsOK m h.length r r.esz (fun k => c[k]?)) :
  WR R (m.setMu h.length ⟨w.heap.size,0,r.esz,ext,false⟩) (h ++ [some r]) w' /\ Step m h w (m.setMu h.length ⟨w.heap.size,0,r.esz,ext,false⟩) (h ++ [some r]) w':=by
 have hold:∀ k,k < w.heap.size -> w'.heap[k]? = w.heap[k]?:=by
  intro k hk
  rw [hh,Array.getElem?_push,if_neg (by omega)]
 have hmu:∀ b,b < h.length -> (m.setMu h.length ⟨w.heap.size,0,r.esz,ext,false⟩).mu b = m.mu b:=fun b hb => Map.setMu_ne m _ _ _ (by omega)
 have hmn:=Map.setMu_same m h.length ⟨w.heap.size,0,r.esz,ext,false⟩
 refine ⟨{ row:=?_,apart:=?_,ro:=?_,roApart:=?_ },{ os:=hos,tape:=htape,output:=hout,size:=by rw [hh]; simp,block:=fun k hk _ => hold k hk,len:=by simp,mu:=hmu,ro:=rfl,new:=?_ }⟩
 ·intro b r' hb
  rcases live_push hb with ⟨hlt,hl⟩ | ⟨rfl,rfl⟩
  ·rw [hmu b hlt]
   exact (hW.row b r' hl).mono (by simp) (fun c hc => hmu c hc) rfl (fun hv => hold _ (hW.blk_lt hl hv))
  ·rw [hmn]
   refine RowOK.mk' rfl rfl h2 (c:=c) (fz:=fz) ?_ (by simpa using h3) (by simpa using h4) ?_
   ·rw [hh]; simp
   ·simpa using h5.mono (by simp) (fun c hc => hmu c hc) rfl
 ·intro b b' r1 r2 hb hb' hv hv' he
  rcases live_push hb with ⟨hlt,hl⟩ | ⟨rfl,rfl⟩
  ·rcases live_push hb' with ⟨hlt',hl'⟩ | ⟨rfl,rfl⟩
   ·rw [hmu b hlt] at hv he
    rw [hmu b' hlt'] at hv' he
    exact hW.apart b b' r1 r2 hl hl' hv hv' he
   ·rw [hmu b hlt] at hv he
    rw [hmn] at he
    have:=hW.blk_lt hl hv
    simp only [] at he
    omega
  ·rcases live_push hb' with ⟨hlt',hl'⟩ | ⟨rfl,rfl⟩
   ·rw [hmu b' hlt'] at hv' he
    rw [hmn] at he
    have:=hW.blk_lt hl' hv'
    simp only [] at he
    omega
   ·rfl
 ·intro i
  exact (hW.ro i).mono rfl (fun hv hn => hold _ (hW.ro_lt hv hn))
 ·intro i b r' hb hv hv' hn
  rcases live_push hb with ⟨hlt,hl⟩ | ⟨rfl,rfl⟩
  ·rw [hmu b hlt] at hv ⊢
   exact hW.roApart i b r' hl hv hv' hn
  ·rw [hmn]
   have:=hW.ro_lt hv' hn
   show (m.ro i).blk ≠ w.heap.size
   omega
 ·intro b r' hb hv
  rcases live_push hb with ⟨hlt,hl⟩ | ⟨rfl,rfl⟩
  ·rw [hmu b hlt] at hv ⊢
   exact .inr ⟨b,r',hl,hv,rfl⟩
  ·rw [hmn]; exact .inl (Nat.le_refl _)
theorem WR.update {R:Nat -> RoRow} {m:Map} {h:Rows} {w w':World} (hW:WR R m h w) {b:Nat} {r:Row} (hl:h.live b = some r) (hv:(m.mu b).vir = false) (r':Row) (c:Array Value) (fz:Nat × Nat)
  (hos:w'.os = w.os) (htape:w'.tape = w.tape) (hout:w'.output = w.output) (hsz:w'.heap.size = w.heap.size) (hother:∀ k,k ≠ (m.mu b).blk -> w'.heap[k]? = w.heap[k]?)
  (hblk:w'.heap[(m.mu b).blk]? = some (.cells c r'.ty fz)) (he:r'.esz = (m.mu b).esz) (h2:r'.len <= (m.mu b).ext) (h3:(m.mu b).shift + (m.mu b).ext * (m.mu b).esz <= c.size)
  (h4:FzOff fz (m.mu b).shift ((m.mu b).shift + (m.mu b).ext * (m.mu b).esz) c.size (m.mu b).esz) (h5:ElsOK m h.length r' (m.mu b).esz (fun k => c[(m.mu b).shift + k]?)) :
  WR R m (h.set b (some r')) w' /\ Step m h w m (h.set b (some r')) w':=by
 have hb:=live_lt hl
 have hlive:∀ c r1,Rows.live (h.set b (some r')) c = some r1 -> (c = b /\ r1 = r') \/ (c ≠ b /\ h.live c = some r1):=by
  intro c r1 hc
  rw [live_set hb] at hc
  split at hc
  ·rename_i e; simp at hc; exact .inl ⟨e,hc.symm⟩
  ·rename_i e; exact .inr ⟨e,hc⟩
 refine ⟨{ row:=?_,apart:=?_,ro:=?_,roApart:=?_ },{ os:=hos,tape:=htape,output:=hout,size:=by omega,block:=?_,len:=by simp,mu:=fun _ _ => rfl,ro:=rfl,new:=?_ }⟩
 ·intro d r1 hd
  rw [List.length_set]
  rcases hlive d r1 hd with ⟨rfl,rfl⟩ | ⟨hne,hl'⟩
  ·exact RowOK.mk' hv he.symm h2 hblk h3 h4 h5
  ·refine (hW.row d r1 hl').mono (Nat.le_refl _) (fun _ _ => rfl) rfl (fun hv' => hother _ ?_)
   exact fun e => hne (hW.apart d b r1 r hl' hl hv' hv e)
 ·intro d d' r1 r2 hd hd' hv1 hv2 hbe
  rcases hlive d r1 hd with ⟨rfl,rfl⟩ | ⟨hne,hl'⟩ <;> rcases hlive d' r2 hd' with ⟨rfl,rfl⟩ | ⟨hne',hl''⟩
  ·rfl
  ·exact hW.apart _ _ _ _ hl hl'' hv1 hv2 hbe
  ·exact hW.apart _ _ _ _ hl' hl hv1 hv2 hbe
  ·exact hW.apart _ _ _ _ hl' hl'' hv1 hv2 hbe
 ·intro i
  exact (hW.ro i).mono rfl (fun hv' hn => hother _ (hW.roApart i b r hl hv hv' hn))
 ·intro i d r1 hd hv1 hv2 hn
  rcases hlive d r1 hd with ⟨rfl,rfl⟩ | ⟨hne,hl'⟩
  ·exact hW.roApart i _ _ hl hv1 hv2 hn
  ·exact hW.roApart i _ _ hl' hv1 hv2 hn
 ·intro k hk hn
  exact hother k (fun e => hn b r hl hv e.symm)
 ·intro d r1 hd hv1
  rcases hlive d r1 hd with ⟨rfl,rfl⟩ | ⟨hne,hl'⟩
  ·exact .inr ⟨_,r,hl,hv,rfl⟩
  ·exact .inr ⟨d,r1,hl',hv1,rfl⟩
theorem WR.move {R:Nat -> RoRow} {m:Map} {h:Rows} {w w':World} (hW:WR R m h w) {b:Nat} {r:Row} (hl:h.live b = some r) (hv:(m.mu b).vir = false) (r':Row) (c:Array Value) (fz:Nat × Nat) (shift ext:Nat)
  (hos:w'.os = w.os) (htape:w'.tape = w.tape) (hout:w'.output = w.output) (hsz:w'.heap.size = w.heap.size) (hother:∀ k,k ≠ (m.mu b).blk -> w'.heap[k]? = w.heap[k]?)
  (hblk:w'.heap[(m.mu b).blk]? = some (.cells c r'.ty fz)) (h2:r'.len <= ext) (h3:shift + ext * r'.esz <= c.size)
  (h4:FzOff fz shift (shift + ext * r'.esz) c.size r'.esz) (h5:ElsOK m h.length r' r'.esz (fun k => c[shift + k]?)) :
  WR R (m.setMu h.length ⟨(m.mu b).blk,shift,r'.esz,ext,false⟩) (h.set b none ++ [some r']) w' /\ Step m h w (m.setMu h.length ⟨(m.mu b).blk,shift,r'.esz,ext,false⟩) (h.set b none ++ [some r']) w':=by
 have hb:=live_lt hl
 have hlen:(h.set b none).length = h.length:=by simp
 have hmu:∀ d,d < h.length -> (m.setMu h.length ⟨(m.mu b).blk,shift,r'.esz,ext,false⟩).mu d = m.mu d:=fun d hd => Map.setMu_ne m _ _ _ (by omega)
 have hmn:=Map.setMu_same m h.length ⟨(m.mu b).blk,shift,r'.esz,ext,false⟩
 have hlive:∀ d r1,Rows.live (h.set b none ++ [some r']) d = some r1 -> (d = h.length /\ r1 = r') \/ (d < h.length /\ d ≠ b /\ h.live d = some r1):=by
  intro d r1 hd
  rcases live_push hd with ⟨hlt,hl'⟩ | ⟨rfl,rfl⟩
  ·rw [live_set hb] at hl'
   split at hl'
   ·exact absurd hl' (by simp)
   ·rename_i e; rw [hlen] at hlt; exact .inr ⟨hlt,e,hl'⟩
  ·rw [hlen]; exact .inl ⟨rfl,rfl⟩
 refine ⟨{ row:=?_,apart:=?_,ro:=?_,roApart:=?_ },{ os:=hos,tape:=htape,output:=hout,size:=by omega,block:=?_,len:=by simp,mu:=hmu,ro:=rfl,new:=?_ }⟩
 ·intro d r1 hd
  rcases hlive d r1 hd with ⟨rfl,rfl⟩ | ⟨hlt,hne,hl'⟩
  ·rw [hmn]
   refine RowOK.mk' rfl rfl h2 hblk h3 h4 ?_
   exact h5.mono (by simp) (fun c hc => hmu c hc) rfl
  ·rw [hmu d hlt]
   refine (hW.row d r1 hl').mono (by simp) (fun c hc => hmu c hc) rfl (fun hv' => hother _ ?_)
   exact fun e => hne (hW.apart d b r1 r hl' hl hv' hv e)
 ·intro d d' r1 r2 hd hd' hv1 hv2 hbe
  rcases hlive d r1 hd with ⟨rfl,rfl⟩ | ⟨hlt,hne,hl'⟩ <;> rcases hlive d' r2 hd' with ⟨rfl,rfl⟩ | ⟨hlt',hne',hl''⟩
  ·rfl
  ·rw [hmu _ hlt'] at hv2 hbe
   rw [hmn] at hbe
   exact absurd (hW.apart b d' r r2 hl hl'' hv hv2 hbe).symm hne'
  ·rw [hmu _ hlt] at hv1 hbe
   rw [hmn] at hbe
   exact absurd (hW.apart d b r1 r hl' hl hv1 hv hbe) hne
  ·rw [hmu _ hlt] at hv1 hbe
   rw [hmu _ hlt'] at hv2 hbe
   exact hW.apart _ _ _ _ hl' hl'' hv1 hv2 hbe
 ·intro i
  exact (hW.ro i).mono rfl (fun hv' hn => hother _ (hW.roApart i b r hl hv hv' hn))
 ·intro i d r1 hd hv1 hv2 hn
  rcases hlive d r1 hd with ⟨rfl,rfl⟩ | ⟨hlt,hne,hl'⟩
  ·rw [hmn]; exact hW.roApart i b r hl hv hv2 hn
  ·rw [hmu d hlt] at hv1 ⊢
   exact hW.roApart i _ _ hl' hv1 hv2 hn
 ·intro k hk hn
  exact hother k (fun e => hn b r hl hv e.symm)
 ·intro d r1 hd hv1
  rcases hlive d r1 hd with ⟨rfl,rfl⟩ | ⟨hlt,hne,hl'⟩
  ·rw [hmn]; exact .inr ⟨b,r,hl,hv,rfl⟩
  ·rw [hmu d hlt] at hv1 ⊢
   exact .inr ⟨d,r1,hl',hv1,rfl⟩
end Go.Dc
end
section
namespace Go.Dc
inductive Src where
 | lst (l:List AV)
 | gen (n:Nat) (f:Nat -> AV)
 | byt (l:List UInt8)
def Src.len:Src -> Nat
 | .lst l => l.length
 | .gen n _ => n
 | .byt l => l.length
def Src.at_:Src -> Nat -> AV
 | .lst l,j => l.getD j .any
 | .gen _ f,j => f j
 | .byt l,j => .int .u8 (l.getD j 0).toNat
def srcOf (R:Nat -> RoRow) (h:Rows):AV -> Option (Bool × Src)
 | .nils => some (true,.lst [])
 | .str l => some (true,.byt l)
 | .sl true b i len _ => some (decide (i + len <= (R b).n),.gen len fun j => (R b).at_ (i + j))
 | .sl false b i len _ => match h.live b with
  | some (.lst _ _ l) => some (decide (i + len <= l.length),.lst ((l.drop i).take len))
  | some (.gen _ _ n f) => some (decide (i + len <= n),.gen len fun j => f (i + j))
  | some (.byt _ l) => some (decide (i + len <= l.length),.byt ((l.drop i).take len))
  | none => none
 | _ => none
def SrcOK (m:Map) (n:Nat) (esz:Nat) (s:Src) (vs:Nat -> Option Value):Prop :=
 ∀ j,j < s.len -> (s.at_ j).cells.length = esz /\ ∀ o a,(s.at_ j).cells[o]? = some a -> a.one = true /\ ∃ v,vs (j * esz + o) = some v /\ Den m n a v
theorem Row.get_gen {t s n:Nat} {f:Nat -> AV} {i:Nat} (h:i < n):(Row.gen t s n f).get? i = some (f i):=by
 have:Nat.blt i n = true:=by simpa [Nat.blt_eq] using h
 simp [Row.get?,this]
theorem getD_drop_take {α:Type} (l:List α) (i len j:Nat) (d:α) (hj:j < len) (h:i + len <= l.length):((l.drop i).take len).getD j d = l.getD (i + j) d:=by
 simp [List.getD,List.getElem?_take_of_lt hj,List.getElem?_drop]
theorem src_cells {R:Nat -> RoRow} {m:Map} {h:Rows} {w:World} (hW:WR R m h w) {ro:Bool} {b i len:Nat} {full:Cp} {s:Src} (hs:srcOf R h (.sl ro b i len full) = some (true,s)) (hv:(m.loc ro b).vir = false) :
  s.len = len /\ ∀ j,j < len -> (s.at_ j).cells.length = (m.loc ro b).esz /\ ∀ o a,(s.at_ j).cells[o]? = some a -> a.one = true /\
   ∃ v,w.cell? ⟨(m.loc ro b).blk,(m.loc ro b).shift + ((i + j) * (m.loc ro b).esz + o),none⟩ = some v /\ Den m h.length a v:=by
 have key:∀ e,∀ j,(elemAt R h ro b (i + j)).has e -> e.cells.length = (m.loc ro b).esz /\ ∀ o a,e.cells[o]? = some a -> a.one = true /\
   ∃ v,w.cell? ⟨(m.loc ro b).blk,(m.loc ro b).shift + ((i + j) * (m.loc ro b).esz + o),none⟩ = some v /\ Den m h.length a v:=fun e j he => elemAt_spec hW he hv
 cases ro with
 | true =>
  simp only [srcOf,Option.some.injEq,Prod.mk.injEq,decide_eq_true_eq] at hs
  obtain ⟨hle,rfl⟩:=hs
  exact ⟨rfl,fun j hj => key _ j ⟨by simp; omega,rfl⟩⟩
 | false =>
  unfold srcOf at hs
  simp only [] at hs
  cases hl:h.live b with
  | none => rw [hl] at hs; simp at hs
  | some r =>
   rw [hl] at hs
   cases r with
   | lst t z l =>
    simp only [Option.some.injEq,Prod.mk.injEq,decide_eq_true_eq] at hs
    obtain ⟨hle,rfl⟩:=hs
    refine ⟨by simp [Src.len]; omega,fun j hj => ?_⟩
    have:(Src.lst ((l.drop i).take len)).at_ j = l.getD (i + j) .any:=getD_drop_take l i len j _ hj hle
    rw [this]
    refine key _ j ?_
    simp only [elemAt,hl]
    have hlt:i + j < l.length:=by omega
    rw [List.getElem?_eq_getElem hlt]
    simp [QR.has,List.getD,List.getElem?_eq_getElem hlt]
   | gen t z n f =>
    simp only [Option.some.injEq,Prod.mk.injEq,decide_eq_true_eq] at hs
    obtain ⟨hle,rfl⟩:=hs
    refine ⟨rfl,fun j hj => key _ j ?_⟩
    simp only [elemAt,hl,Src.at_]
    exact ⟨by simp; omega,rfl⟩
   | byt t l =>
    simp only [Option.some.injEq,Prod.mk.injEq,decide_eq_true_eq] at hs
    obtain ⟨hle,rfl⟩:=hs
    refine ⟨by simp [Src.len]; omega,fun j hj => ?_⟩
    have:(Src.byt ((l.drop i).take len)).at_ j = .int .u8 (l.getD (i + j) 0).toNat:=by
     simp only [Src.at_]; rw [getD_drop_take l i len j _ hj hle]
    rw [this]
    refine key _ j ?_
    simp only [elemAt,hl]
    exact ⟨by simp; omega,rfl⟩
def eszOfAV (R:Nat -> RoRow) (h:Rows):AV -> Option Nat
 | .sl ro b _ _ _ => eszOf R h ro b
 | _ => none
theorem src_vals_n {P : Program} {R : Nat → RoRow} {m : Map} {h : Rows} {w : World} (hW : WR R m h w) {x : AV} {u : Value} {s : Src} {esz : Nat} (hx : Den m h.length x u) (hs : srcOf R h x = some (true, s))
    (hz : (∃ z, eszOfAV R h x = some z ∧ z = esz) ∨ x = .nils ∨ (esz = 1 ∧ ∃ l, x = .str l)) :
    ∃ news : List Value, news.length = s.len * esz ∧ (Builtin.lenOf u).run P w = .ok s.len w ∧ (∀ (n : Nat) (w2 : World), n ≤ s.len → w2.heap = w.heap → (Builtin.firstCells esz n u).run P w2 = .ok (news.take (n * esz)).toArray w2) ∧
      SrcOK m h.length esz s (fun k => news[k]?) ∧ ∀ v ∈ news, v.oneCell' = true := by
  have fin : ∀ (len : Nat) (f : Nat → Value), s.len = len → (∀ k, k < len * esz → ∃ j o a, k = j * esz + o ∧ j < len ∧ (s.at_ j).cells[o]? = some a ∧ a.one = true ∧ Den m h.length a (f k)) →
      (∀ j, j < len → (s.at_ j).cells.length = esz) → (∀ v ∈ (List.range (len * esz)).map f, v.oneCell' = true) ∧ SrcOK m h.length esz s (fun k => ((List.range (len * esz)).map f)[k]?) := by
    intro len f hlen hf hcl
    constructor
    · intro v hv
      simp only [List.mem_map, List.mem_range] at hv
      obtain ⟨k, hk, rfl⟩ := hv
      obtain ⟨j, o, a, _, _, _, h1, h2⟩ := hf k hk
      exact h2.oneCell h1
    · intro j hj
      rw [hlen] at hj
      refine ⟨hcl j hj, fun o a ha => ?_⟩
      have ho : o < esz := by
        have := (List.getElem?_eq_some_iff.1 ha).1
        rw [hcl j hj] at this; exact this
      have hk : j * esz + o < len * esz := by
        have : (j + 1) * esz ≤ len * esz := Nat.mul_le_mul_right _ hj
        rw [Nat.add_mul] at this; omega
      obtain ⟨j', o', a', hkk, hj', ha', h1, h2⟩ := hf _ hk
      have ho' : o' < esz := by
        have := (List.getElem?_eq_some_iff.1 ha').1
        rw [hcl j' hj'] at this; exact this
      have hjj : j' = j := by
        have e1 : (j * esz + o) / esz = j := by rw [Nat.mul_comm, Nat.mul_add_div (by omega)]; rw [Nat.div_eq_of_lt ho]; rfl
        have e2 : (j' * esz + o') / esz = j' := by rw [Nat.mul_comm, Nat.mul_add_div (by omega)]; rw [Nat.div_eq_of_lt ho']; rfl
        rw [hkk] at e1; omega
      subst hjj
      have hoo : o' = o := by omega
      subst hoo
      rw [ha] at ha'
      cases ha'
      exact ⟨h1, _, by simp [hk], h2⟩
  cases x
  case nils =>
    simp only [srcOf, Option.some.injEq, Prod.mk.injEq] at hs
    obtain ⟨_, rfl⟩ := hs
    simp only [Den] at hx; subst hx
    exact ⟨[], by simp [Src.len], by simp [Builtin.lenOf, Src.len, pure, Sem.run], fun n w2 _ _ => by simp [Builtin.firstCells, pure, Sem.run], fun j hj => absurd hj (by simp [Src.len]), by simp⟩
  case str l =>
    simp only [srcOf, Option.some.injEq, Prod.mk.injEq] at hs
    obtain ⟨_, rfl⟩ := hs
    simp only [Den] at hx; subst hx
    have hesz : esz = 1 := by
      rcases hz with ⟨z, h1, _⟩ | h1 | ⟨h1, _⟩
      · simp [eszOfAV] at h1
      · exact absurd h1 (by simp)
      · exact h1
    subst hesz
    refine ⟨l.map fun c => .int .u8 c.toNat, by simp [Src.len], by simp [Builtin.lenOf, Src.len, size_mk, pure, Sem.run], fun n w2 _ _ => ?_, ?_, ?_⟩
    · simp only [Builtin.firstCells]
      have e : (⟨⟨l⟩⟩ : ByteArray).extract 0 n = ⟨⟨l.take n⟩⟩ := by
        have := ByteArray.extract_mk l 0 n
        simpa using this
      rw [e]
      simp [pure, Sem.run, List.map_take]
    · intro j hj
      simp only [Src.len] at hj
      refine ⟨rfl, fun o a ha => ?_⟩
      simp only [Src.at_, AV.cells] at ha
      cases o with
      | succ o => simp at ha
      | zero =>
        simp at ha; subst ha
        exact ⟨rfl, .int .u8 (l.getD j 0).toNat, by simp [List.getD, List.getElem?_eq_getElem hj], by simp [Den]⟩
    · intro v hv
      simp only [List.mem_map] at hv
      obtain ⟨c, _, rfl⟩ := hv
      rfl
  case sl ro b i len full =>
    have hesz : (m.loc ro b).esz = esz := by
      rcases hz with ⟨z, h1, rfl⟩ | h1 | ⟨_, _, h1⟩
      · exact eszOf_spec hW h1
      · exact absurd h1 (by simp)
      · exact absurd h1 (by simp)
    simp only [Den] at hx
    obtain ⟨_, hsl⟩ := hx
    unfold SlDen at hsl
    split at hsl
    · -- nil
      obtain ⟨rfl, ao, rfl, _⟩ := hsl
      have hl0 : s.len = 0 := by
        cases ro with
        | true => simp only [srcOf, Option.some.injEq, Prod.mk.injEq] at hs; rw [← hs.2]; rfl
        | false =>
          unfold srcOf at hs
          simp only [] at hs
          cases hl : h.live b with
          | none => rw [hl] at hs; simp at hs
          | some r => rw [hl] at hs; cases r <;> simp only [Option.some.injEq, Prod.mk.injEq] at hs <;> rw [← hs.2] <;> simp [Src.len]
      exact ⟨[], by simp [hl0], by simp [Builtin.lenOf, hl0, pure, Sem.run], fun n w2 hn _ => by (have hn0 : n = 0 := by omega); (subst hn0); (cases ao <;> simp [Builtin.firstCells, loadCells, loadCellsFrom, pure, Sem.run]), fun j hj => absurd hj (by omega), by simp⟩
    · rename_i hvir
      obtain ⟨ad, cap, rfl, h1, h2, h3, h4⟩ := hsl
      obtain ⟨hlen, hcs⟩ := src_cells hW hs (by simpa using hvir)
      rw [hesz] at hcs
      by_cases h0 : len = 0
      · subst h0
        exact ⟨[], by simp [hlen], by simp [Builtin.lenOf, hlen, pure, Sem.run], fun n w2 hn _ => by (have hn0 : n = 0 := by omega); (subst hn0); (simp [Builtin.firstCells, loadCells, loadCellsFrom, pure, Sem.run]), fun j hj => absurd hj (by omega), by simp⟩
      · obtain ⟨rfl, hext⟩ := h4 (by omega)
        rw [hesz]
        -- the values
        obtain ⟨f, hf⟩ : ∃ f : Nat → Value, ∀ j o a, j < len → (s.at_ j).cells[o]? = some a → w.cell? ⟨(m.loc ro b).blk, (m.loc ro b).shift + i * esz + (j * esz + o), none⟩ = some (f (j * esz + o)) ∧ a.one = true ∧ Den m h.length a (f (j * esz + o)) := by
          refine ⟨fun k => (w.cell? ⟨(m.loc ro b).blk, (m.loc ro b).shift + i * esz + k, none⟩).getD default, fun j o a hj ha => ?_⟩
          obtain ⟨_, hh⟩ := hcs j hj
          obtain ⟨ho, v, hv, hd⟩ := hh o a ha
          have e : (m.loc ro b).shift + ((i + j) * esz + o) = (m.loc ro b).shift + i * esz + (j * esz + o) := by rw [Nat.add_mul]; omega
          rw [e] at hv
          exact ⟨by simp [hv], ho, by simpa [hv] using hd⟩
        have hdiv : ∀ k, k < len * esz → ∃ j o, k = j * esz + o ∧ j < len ∧ o < esz := by
          intro k hk
          have hpos : 0 < esz := by rcases Nat.eq_zero_or_pos esz with h | h; · rw [h] at hk; omega
                                    · exact h
          exact ⟨k / esz, k % esz, by rw [Nat.mul_comm]; exact (Nat.div_add_mod k esz).symm, Nat.div_lt_of_lt_mul (by rw [Nat.mul_comm]; exact hk), Nat.mod_lt _ hpos⟩
        have hfull : ∀ k, k < len * esz → ∃ j o a, k = j * esz + o ∧ j < len ∧ (s.at_ j).cells[o]? = some a ∧ a.one = true ∧ Den m h.length a (f k) := by
          intro k hk
          obtain ⟨j, o, rfl, hj, ho⟩ := hdiv k hk
          have hlt : o < (s.at_ j).cells.length := by rw [(hcs j hj).1]; exact ho
          obtain ⟨_, g1, g2⟩ := hf j o _ hj (List.getElem?_eq_getElem hlt)
          exact ⟨j, o, _, rfl, hj, List.getElem?_eq_getElem hlt, g1, g2⟩
        obtain ⟨q1, q2⟩ := fin len f hlen hfull (fun j hj => (hcs j hj).1)
        refine ⟨(List.range (len * esz)).map f, by simp [hlen], by simp [Builtin.lenOf, hlen, pure, Sem.run], fun n w2 hn hw2 => ?_, q2, q1⟩
        rw [hlen] at hn
        have hne : n * esz ≤ len * esz := Nat.mul_le_mul_right _ hn
        refine run_firstCells_some (P := P) w2 esz n _ len cap _ (by rw [List.length_take, List.length_map, List.length_range]; exact Nat.min_eq_left hne) ?_
        intro k v hkv
        have hk0 : k < n * esz := by have := (List.getElem?_eq_some_iff.1 hkv).1; rw [List.length_take] at this; exact Nat.lt_of_lt_of_le this (Nat.min_le_left _ _)
        have hk : k < len * esz := by omega
        have hv : f k = v := by simpa [hk, List.getElem?_take_of_lt hk0] using hkv
        subst hv
        obtain ⟨j, o, rfl, hj, ho⟩ := hdiv k hk
        have hlt : o < (s.at_ j).cells.length := by rw [(hcs j hj).1]; exact ho
        have := (hf j o _ hj (List.getElem?_eq_getElem hlt)).1
        have hcw : ∀ a : Addr, w2.cell? a = w.cell? a := fun a => by simp [World.cell?, hw2]
        rw [hcw, ← this]
        unfold Addr.add
        split
        · rename_i hk0; rw [hk0]; rfl
        · rfl
  all_goals simp [srcOf] at hs
theorem src_vals {P:Program} {R:Nat -> RoRow} {m:Map} {h:Rows} {w:World} (hW:WR R m h w) {x:AV} {u:Value} {s:Src} {esz:Nat} (hx:Den m h.length x u) (hs:srcOf R h x = some (true,s))
  (hz:(∃ z,eszOfAV R h x = some z /\ z = esz) \/ x = .nils \/ (esz = 1 /\ ∃ l,x = .str l)) :
  ∃ news:List Value,news.length = s.len * esz /\ (Builtin.lenOf u).run P w = .ok s.len w /\ (∀ w2:World,w2.heap = w.heap -> (Builtin.firstCells esz s.len u).run P w2 = .ok news.toArray w2) /\
   SrcOK m h.length esz s (fun k => news[k]?) /\ ∀ v ∈ news,v.oneCell' = true:=by
 obtain ⟨news,h1,h2,h3,h4,h5⟩:=src_vals_n (P:=P) hW hx hs hz
 refine ⟨news,h1,h2,fun w2 hw2 => ?_,h4,h5⟩
 have:=h3 s.len w2 (Nat.le_refl _) hw2
 rwa [<- h1,List.take_length] at this
end Go.Dc
end
section
namespace Go.Dc
def isByte:AV -> Bool
 | .int .u8 n => decide (0 <= n) && decide (n <= 255)
 | _ => false
def joinCond (a b:Src):Bool :=
 match a,b with
 | .byt _,.lst y => y.all isByte
 | _,_ => true
def joinRow (ty esz:Nat) (a b:Src):Row :=
 match a,b,Nat.beq esz 1 with
 | .lst x,.lst y,_ => .lst ty esz (x ++ y)
 | .byt x,.byt y,true => .byt ty (x ++ y)
 | .lst [],.byt y,true => .byt ty y
 | .byt x,.lst y,true => .byt ty (x ++ y.map fun v => (byteOfAV v).getD 0)
 | a,b,_ => .gen ty esz (a.len + b.len) fun j => bif Nat.blt j a.len then a.at_ j else b.at_ (j - a.len)
theorem isByte_spec {v:AV} (h:isByte v = true):∃ n,v = .int .u8 n /\ ((((byteOfAV v).getD 0).toNat:Int)) = n:=by
 unfold isByte at h
 split at h
 ·rename_i n
  simp only [Bool.and_eq_true,decide_eq_true_eq] at h
  refine ⟨n,rfl,?_⟩
  simp only [byteOfAV,Option.getD_some,UInt8.toNat_ofNat']
  have:n.toNat < 2 ^ 8:=by omega
  rw [Nat.mod_eq_of_lt this]; omega
 ·exact absurd h (by simp)
theorem joinRow_ty (ty esz:Nat) (a b:Src):(joinRow ty esz a b).ty = ty:=by
 unfold joinRow; split <;> rfl
theorem joinRow_esz (ty esz:Nat) (a b:Src):(joinRow ty esz a b).esz = esz:=by
 unfold joinRow
 split <;> first
  | rfl
  | (rename_i h; exact (Nat.eq_of_beq_eq_true h).symm)
theorem joinRow_len (ty esz:Nat) (a b:Src):(joinRow ty esz a b).len = a.len + b.len:=by
 unfold joinRow
 split <;> simp [Row.len,Src.len]
theorem joinRow_get (ty esz:Nat) (a b:Src) (hc:joinCond a b = true) {j:Nat} {e:AV} (h:(joinRow ty esz a b).get? j = some e) :
  (j < a.len /\ e = a.at_ j) \/ (a.len <= j /\ j - a.len < b.len /\ e = b.at_ (j - a.len)):=by
 have hgen:∀ (a b:Src),(Row.gen ty esz (a.len + b.len) fun j => bif Nat.blt j a.len then a.at_ j else b.at_ (j - a.len)).get? j = some e ->
   (j < a.len /\ e = a.at_ j) \/ (a.len <= j /\ j - a.len < b.len /\ e = b.at_ (j - a.len)):=by
  intro a b h
  simp only [Row.get?] at h
  cases hb:Nat.blt j (a.len + b.len) with
  | false => rw [hb] at h; simp at h
  | true =>
   rw [hb] at h
   simp only [cond_true,Option.some.injEq] at h
   have hlt:j < a.len + b.len:=by simpa [Nat.blt_eq] using hb
   cases ha:Nat.blt j a.len with
   | true => rw [ha] at h; exact .inl ⟨by simpa [Nat.blt_eq] using ha,h.symm⟩
   | false =>
    rw [ha] at h
    have:¬ j < a.len:=by intro hh; rw [<- Nat.blt_eq] at hh; rw [hh] at ha; exact absurd ha (by simp)
    exact .inr ⟨by omega,by omega,h.symm⟩
 have happ:∀ {α:Type} (x y:List α) (d:α) (f:α -> AV),((x ++ y)[j]?).map f = some e -> (j < x.length /\ e = f (x.getD j d)) \/ (x.length <= j /\ j - x.length < y.length /\ e = f (y.getD (j - x.length) d)):=by
  intro α x y d f h
  by_cases hj:j < x.length
  ·rw [List.getElem?_append_left hj] at h
   rw [List.getElem?_eq_getElem hj] at h
   exact .inl ⟨hj,by simpa [List.getD,List.getElem?_eq_getElem hj] using h.symm⟩
  ·rw [List.getElem?_append_right (by omega)] at h
   have hlt:j - x.length < y.length:=by
    cases hx:y[j - x.length]? with
    | none => rw [hx] at h; simp at h
    | some v => exact (List.getElem?_eq_some_iff.1 hx).1
   rw [List.getElem?_eq_getElem hlt] at h
   exact .inr ⟨by omega,hlt,by simpa [List.getD,List.getElem?_eq_getElem hlt] using h.symm⟩
 unfold joinRow at h
 split at h
 ·rename_i _ x y
  exact happ x y .any id (by simpa [Row.get?] using h)
 ·rename_i x y _
  exact happ x y 0 (fun c => AV.int .u8 c.toNat) h
 ·rename_i y _
  have:=happ [] y 0 (fun c => AV.int .u8 c.toNat) h
  simpa [Src.len,Src.at_] using this
 ·rename_i x y _
  simp only [joinCond,List.all_eq_true] at hc
  rcases happ x (y.map fun v => (byteOfAV v).getD 0) 0 (fun c => AV.int .u8 c.toNat) h with h1 | ⟨h1,h2,h3⟩
  ·exact .inl h1
  ·refine .inr ⟨h1,by simpa [Src.len] using h2,?_⟩
   rw [h3]
   simp only [List.length_map] at h2
   have hm:=hc y[j - x.length] (List.getElem_mem h2)
   obtain ⟨n,hn,hnn⟩:=isByte_spec hm
   simp only [Src.at_,Src.len,List.getD,List.getElem?_map,List.getElem?_eq_getElem h2,Option.map_some,Option.getD_some]
   rw [hnn,hn]
 ·exact hgen _ _ h
theorem SrcOK.mono {m:Map} {n esz:Nat} {s:Src} {c c':Nat -> Option Value} (h:SrcOK m n esz s c) (hc:∀ k v,k < s.len * esz -> c k = some v -> c' k = some v):SrcOK m n esz s c':=by
 intro j hj
 refine ⟨(h j hj).1,fun o a ha => ?_⟩
 obtain ⟨g1,v,g2,g3⟩:=(h j hj).2 o a ha
 have ho:o < esz:=by
  have:=(List.getElem?_eq_some_iff.1 ha).1
  rw [(h j hj).1] at this; exact this
 have hk:j * esz + o < s.len * esz:=by
  have:(j + 1) * esz <= s.len * esz:=Nat.mul_le_mul_right _ hj
  rw [Nat.add_mul] at this; omega
 exact ⟨g1,v,hc _ v hk g2,g3⟩
theorem joinRow_els {m:Map} {n:Nat} (ty esz:Nat) {a b:Src} (hc:joinCond a b = true) {c:Nat -> Option Value} (ha:SrcOK m n esz a c) (hb:SrcOK m n esz b (fun k => c (a.len * esz + k))) :
  ElsOK m n (joinRow ty esz a b) esz c:=by
 intro j e he
 rcases joinRow_get ty esz a b hc he with ⟨h1,rfl⟩ | ⟨h1,h2,rfl⟩
 ·exact ha j h1
 ·refine ⟨(hb _ h2).1,fun o x hx => ?_⟩
  obtain ⟨g1,v,g2,g3⟩:=(hb _ h2).2 o x hx
  refine ⟨g1,v,?_,g3⟩
  have hmul:j * esz = a.len * esz + (j - a.len) * esz:=by rw [<- Nat.add_mul]; congr 1; omega
  rw [<- g2]
  show c (j * esz + o) = c (a.len * esz + ((j - a.len) * esz + o))
  congr 1; omega
inductive WQ where
 | no
 | ok (c:Bool) (v:AV) (h:Rows)
def nextVal:Next -> Option Value
 | .value v => some v
 | .skip => some undef
 | _ => none
def WQ.run (R:Nat -> RoRow) (m:Map) (h:Rows) (P:Program) (w:World) (s:Sem Next):WQ -> Prop
 | .no => True
 | .ok c v h' => c = true -> ∃ nx cv w' m',s.run P w = .ok nx w' /\ nextVal nx = some cv /\ Den m' h'.length v cv /\ WR R m' h' w' /\ Step m h w m' h' w'
theorem run_append_in {P:Program} {w:World} {t t2 ty e:TypeId} {i:TypeInfo} {d2:TypeDesc} (ht:P.underlying t = some (.slice e)) (h2:P.underlying t2 = some d2) (h2i:(∃ e2,d2 = .slice e2) \/ d2 = .string) (hi:P.info? e = some i)
  (ts:List TypeId) (us:List Value) (base:Option Addr) (sLen sCap n:Nat) (x:Value) (news:List Value) (hlen:(Builtin.lenOf x).run P w = .ok n w) (hnews:(Builtin.firstCells i.size n x).run P w = .ok news.toArray w)
  (hle:sLen + n <= sCap) :
  (Builtin.append_ (t :: t2 :: ts).toArray ty (.slice base sLen sCap :: x :: us).toArray).run P w =
   (match base with | some a => (storeCells (a.add (sLen * i.size)) news).run P w | none => .ok () w).andThen fun _ w' => .ok (.slice base (sLen + n) sCap) w':=by
 rcases h2i with ⟨e2,rfl⟩ | rfl <;> cases base <;> simp [Builtin.append_,run_underlying ht,run_underlying h2,sizeOf,typeInfo,hi,hlen,hle,hnews]
theorem run_append_up {P:Program} {w:World} {t t2 ty e:TypeId} {i:TypeInfo} {d2:TypeDesc} {z:Value} (ht:P.underlying t = some (.slice e)) (h2:P.underlying t2 = some d2) (h2i:(∃ e2,d2 = .slice e2) \/ d2 = .string) (hi:P.info? e = some i) (hz0:i.zero = some z)
  (hb1:0 < i.bytes)
  (ts:List TypeId) (us:List Value) (base:Option Addr) (sLen sCap n:Nat) (x:Value) (olds news:List Value) (hlen:(Builtin.lenOf x).run P w = .ok n w)
  (hnews:∀ w2:World,w2.heap = w.heap -> (Builtin.firstCells i.size n x).run P w2 = .ok news.toArray w2)
  (holds:∀ w2:World,w2.heap = w.heap -> (Builtin.firstCells i.size sLen (.slice base sLen sCap)).run P w2 = .ok olds.toArray w2)
  (hgt:sCap < sLen + n) (hfit:(sLen + n) * i.bytes <= 140737488355328) :
  (Builtin.append_ (t :: t2 :: ts).toArray ty (.slice base sLen sCap :: x :: us).toArray).run P w =
   .ok (.slice (some ⟨w.heap.size,0,none⟩) (sLen + n) (grownCap w (sLen + n) sCap e))
    (w.drew.alloc (.cells (olds.toArray ++ news.toArray ++ Builtin.zeroCells z.cells (grownCap w (sLen + n) sCap e - (sLen + n))) e)):=by
 have hbig:sLen + n <= 140737488355328:=by
  have:(sLen + n) * 1 <= (sLen + n) * i.bytes:=Nat.mul_le_mul_left _ hb1
  omega
 have hlt:¬ (sLen + n <= sCap):=by omega
 have h63':¬ (9223372036854775807 < ((sLen:Int) + (n:Int))):=by omega
 have h48':¬ (281474976710656 < Builtin.nextslicecap (sLen + n) sCap * i.bytes):=by
  have:=growslice_fits hgt hfit
  omega
 have hn2:=hnews w.drew rfl
 have ho2:=holds w.drew rfl
 have fin:∀ a b c:Array Value,a ++ (b ++ c) = a ++ b ++ c:=fun a b c => (Array.append_assoc ..).symm
 rcases h2i with ⟨e2,rfl⟩ | rfl <;> simp [Builtin.append_,run_underlying ht,run_underlying h2,sizeOf,typeInfo,zeroValue,hi,hz0,hlen,hlt,h63',h48',Question.forced,hn2,ho2,newRow,grownCap] <;> (congr 2; apply Array.ext'; simp [List.append_assoc])
structure Over (w w':World) (g:Nat) (o:Nat) (vs:List Value):Prop where
 os:w'.os = w.os
 tape:w'.tape = w.tape
 output:w'.output = w.output
 size:w'.heap.size = w.heap.size
 other:∀ k,k ≠ g -> w'.heap[k]? = w.heap[k]?
 blk:∀ c t fz,w.heap[g]? = some (.cells c t fz) -> ∃ c',w'.heap[g]? = some (.cells c' t fz) /\ c'.size = c.size /\ ∀ k,c'[k]? = if o <= k /\ k < o + vs.length then vs[k - o]? else c[k]?
theorem heap_setCell (w:World) (g o:Nat) (v:Value) (c:Array Value) (t:TypeId) (fz:Nat × Nat) (h:w.heap[g]? = some (.cells c t fz)) :
  (w.setCell ⟨g,o,none⟩ v).heap[g]? = some (.cells (c.setIfInBounds o v) t fz):=by
 simp [World.setCell,Array.getElem?_modify,h]
theorem run_storeCells_over {P:Program} (g:Nat) (t:TypeId) (fz:Nat × Nat) (a:Addr):∀ (vs:List Value) (i o:Nat) (cur:Array Value) (w:World),w.heap[g]? = some (.cells cur t fz) -> a.add i = ⟨g,o,none⟩ -> (∀ j,a.add (i + j) = ⟨g,o + j,none⟩) ->
  o + vs.length <= cur.size -> (∀ k,o <= k -> k < o + vs.length -> (fz.1 <= k && k < fz.2) = false) -> (∀ v ∈ vs,v.oneCell' = true) ->
  ∃ w',(storeCells a vs i).run P w = .ok () w' /\ Over w w' g o vs
 | [],i,o,cur,w,hb,ha,haj,hsz,hfz,h1 => ⟨w,by simp [storeCells,pure,Sem.run],rfl,rfl,rfl,rfl,fun _ _ => rfl,fun c t fz h => ⟨c,h,rfl,fun k => by simp; omega⟩⟩
 | v :: vs,i,o,cur,w,hb,ha,haj,hsz,hfz,h1 => by
  simp only [List.length_cons] at hsz hfz
  have hcell:w.cell? ⟨g,o,none⟩ = some (cur[o]'(by omega)):=by simp [World.cell?,hb]
  have hfr:w.frozen? ⟨g,o,none⟩ = false:=by
   simp only [World.frozen?,hb]
   exact hfz o (Nat.le_refl _) (by omega)
  have hst:(store (a.add i) v).run P w = .ok () (w.setCell ⟨g,o,none⟩ v):=by
   rw [ha,run_store P w _ v _ (h1 v List.mem_cons_self)]
   simp [hcell,hfr]
  have hb':=heap_setCell w g o v cur t fz hb
  obtain ⟨w',hr,ho⟩:=run_storeCells_over (P:=P) g t fz a vs (i + 1) (o + 1) (cur.setIfInBounds o v) (w.setCell ⟨g,o,none⟩ v) hb' (haj 1) (fun j => by
    have:=haj (1 + j); rw [show i + 1 + j = i + (1 + j) by omega,this]; congr 1; omega) (by simp; omega) (fun k h1 h2 => hfz k (by omega) (by omega)) (fun u hu => h1 u (List.mem_cons_of_mem _ hu))
  refine ⟨w',by simp only [storeCells,Sem.run_bind,hst,Result.andThen_ok,hr],ho.os,ho.tape,ho.output,by rw [ho.size]; simp,fun k hk => ?_,fun c t' fz' h => ?_⟩
  ·rw [ho.other k hk]
   exact Go.RowKit.Below.heap_setCell w _ _ k hk
  ·rw [hb] at h
   cases h
   obtain ⟨c',hc1,hc2,hc3⟩:=ho.blk _ _ _ hb'
   refine ⟨c',hc1,by rw [hc2]; simp,fun k => ?_⟩
   rw [hc3 k]
   by_cases e:k = o
   ·subst e
    rw [if_neg (by omega),if_pos (by simp)]
    have:k < cur.size:=by omega
    simp [this]
   ·by_cases e2:o + 1 <= k /\ k < o + 1 + vs.length
    ·rw [if_pos e2,if_pos (by simp only [List.length_cons]; omega)]
     rw [show k - o = (k - (o + 1)) + 1 by omega]
     simp
    ·rw [if_neg e2,if_neg (by simp only [List.length_cons]; omega)]
     rw [Array.getElem?_setIfInBounds_ne (by omega)]
def consumes (s:AV) (b:Src):Option (Option Nat) :=
 match s with
 | .nils => some none
 | .sl false blk _ len .tight => match len with
  | 0 => some none
  | _ + 1 => match b with
   | .lst (_ :: _) => some none
   | _ => some (some blk)
 | .sl true _ _ 0 .tight => some none
 | .sl true _ _ (_ + 1) .tight => match b with
  | .lst (_ :: _) => some none
  | _ => none
 | .sl false blk _ _ .no => some (some blk)
 | .sl false blk _ _ (.room _) => some (some blk)
 | _ => none
def appCp (s:AV) (m:Nat):Cp:=match s with
 | .sl _ _ _ _ (.room n) => .room (n - m)
 | _ => .no
theorem appCp_ok {s:AV} {a b sCap cap:Nat} (hr:∀ ro bb i l n,s = .sl ro bb i l (.room n) -> a + n <= sCap) (h1:sCap <= cap) (h2:a + b <= cap):CpOK (appCp s b) (a + b) cap:=by
 unfold appCp
 split
 ·rename_i ro bb i l n
  have:=hr _ _ _ _ _ rfl
  simp only [CpOK]
  omega
 ·trivial
def dropRow (h:Rows):Option Nat -> Rows
 | none => h
 | some b => h.set b none
def srcFits (R:Nat -> RoRow) (h:Rows) (te:TI) (x:AV):Bool :=
 match x with
 | .nils => true
 | .str _ => match te.kd with | .int .u8 => Nat.beq te.size 1 | _ => false
 | x => match eszOfAV R h x with | some z => Nat.beq z te.size | none => false
def appOK (R:Nat -> RoRow) (h:Rows) (e:TypeId) (te t2i:TI) (s x:AV):Bool :=
 (match t2i.kd with | .slice _ | .str => true | _ => false) && (srcFits R h te s && (srcFits R h te x && (Nat.blt 0 te.bytes && (Nat.beq te.zv.cells.length te.size &&
  (match s with | .str _ => false | .sl false b _ _ _ => (match h.live b with | some r => Nat.beq r.ty e | none => false) | _ => true)))))
def aappend (T:TypeId -> Option TI) (R:Nat -> RoRow) (h:Rows) (t t2:TypeId) (s x:AV):WQ :=
 match T t,T t2 with
 | some ti,some t2i =>
  match ti.kd with
  | .slice e => match T e with
   | some te =>
    if appOK R h e te t2i s x then
     match x,srcOf R h s,srcOf R h x with
     | .nils,_,_ => .ok true s h
     | _,some (c1,a),some (c2,b) => match consumes s b with
      | some d => .ok (c1 && (c2 && (joinCond a b && decide ((a.len + b.len) * te.bytes <= 140737488355328)))) (.sl false h.length 0 (a.len + b.len) (appCp s b.len)) (dropRow h d ++ [some (joinRow e te.size a b)])
      | none => .no
     | _,_,_ => .no
    else .no
   | none => .no
  | _ => .no
 | _,_ => .no
end Go.Dc
end
section
namespace Go.Dc
theorem WR.pushVir {R:Nat -> RoRow} {m:Map} {h:Rows} {w:World} (hW:WR R m h w) (r:Row) (h0:r.len = 0) :
  WR R (m.setMu h.length ⟨0,0,r.esz,0,true⟩) (h ++ [some r]) w /\ Step m h w (m.setMu h.length ⟨0,0,r.esz,0,true⟩) (h ++ [some r]) w:=by
 have hmu:∀ b,b < h.length -> (m.setMu h.length ⟨0,0,r.esz,0,true⟩).mu b = m.mu b:=fun b hb => Map.setMu_ne m _ _ _ (by omega)
 have hmn:=Map.setMu_same m h.length ⟨0,0,r.esz,0,true⟩
 refine ⟨{ row:=?_,apart:=?_,ro:=?_,roApart:=?_ },{ os:=rfl,tape:=rfl,output:=rfl,size:=Nat.le_refl _,block:=fun _ _ _ => rfl,len:=by simp,mu:=hmu,ro:=rfl,new:=?_ }⟩
 ·intro b r' hb
  rcases live_push hb with ⟨hlt,hl⟩ | ⟨rfl,rfl⟩
  ·rw [hmu b hlt]
   exact (hW.row b r' hl).mono (by simp) (fun c hc => hmu c hc) rfl (fun _ => rfl)
  ·rw [hmn]
   exact ⟨rfl,by simp [h0],by simp [h0]⟩
 ·intro b b' r1 r2 hb hb' hv hv' he
  rcases live_push hb with ⟨hlt,hl⟩ | ⟨rfl,rfl⟩
  ·rcases live_push hb' with ⟨hlt',hl'⟩ | ⟨rfl,rfl⟩
   ·rw [hmu b hlt] at hv he
    rw [hmu b' hlt'] at hv' he
    exact hW.apart b b' r1 r2 hl hl' hv hv' he
   ·rw [hmn] at hv'; exact absurd hv' (by simp)
  ·rw [hmn] at hv; exact absurd hv (by simp)
 ·intro i
  exact (hW.ro i).mono rfl (fun _ _ => rfl)
 ·intro i b r' hb hv hv' hn
  rcases live_push hb with ⟨hlt,hl⟩ | ⟨rfl,rfl⟩
  ·rw [hmu b hlt] at hv ⊢
   exact hW.roApart i b r' hl hv hv' hn
  ·rw [hmn] at hv; exact absurd hv (by simp)
 ·intro b r' hb hv
  rcases live_push hb with ⟨hlt,hl⟩ | ⟨rfl,rfl⟩
  ·rw [hmu b hlt] at hv ⊢
   exact .inr ⟨b,r',hl,hv,rfl⟩
  ·rw [hmn] at hv; exact absurd hv (by simp)
theorem dropRow_WR {R:Nat -> RoRow} {m:Map} {h:Rows} {w:World} (hW:WR R m h w) (d:Option Nat) (hd:∀ b,d = some b -> b < h.length):WR R m (dropRow h d) w /\ Step m h w m (dropRow h d) w /\ (dropRow h d).length = h.length:=by
 cases d with
 | none => exact ⟨hW,Step.refl _ _ _,rfl⟩
 | some b => exact ⟨hW.drop b (hd b rfl),Step.drop b (hd b rfl),by simp [dropRow]⟩
theorem grownCap_bounds (w:World) (need old:Nat) (e:TypeId) (h:need < 2 ^ 63):need <= grownCap w need old e /\ grownCap w need old e <= maxLen:=by
 simp only [grownCap,Question.cut]
 refine ⟨Nat.le_add_right _ _,?_⟩
 have:w.tape w.drawn (Question.appendCap need old e) % (2 ^ 63 - need) < 2 ^ 63 - need:=Nat.mod_lt _ (by omega)
 unfold maxLen
 omega
theorem WR.sl_live {R:Nat -> RoRow} {h:Rows} {b i len:Nat} {full:Cp} {c:Bool} {s:Src} (hs:srcOf R h (.sl false b i len full) = some (c,s)):∃ r,h.live b = some r:=by
 unfold srcOf at hs
 simp only [] at hs
 cases hl:h.live b with
 | none => rw [hl] at hs; simp at hs
 | some r => exact ⟨r,rfl⟩
theorem consumes_some {s:AV} {b:Src} {bb:Nat} (h:consumes s b = some (some bb)):∃ i len full,s = .sl false bb i len full:=by
 cases s <;> try (simp [consumes] at h; done)
 rename_i ro blk i len full
 cases ro <;> cases full <;> cases len <;> cases b <;> try (simp [consumes] at h; done)
 all_goals first
  | (simp [consumes] at h; subst h; exact ⟨_,_,_,rfl⟩)
  | (rename_i l; cases l <;> simp [consumes] at h <;> subst h <;> exact ⟨_,_,_,rfl⟩)
theorem consumes_in {ro:Bool} {full:Cp} {blk i len:Nat} {b:Src} {d:Option Nat} (h:consumes (.sl ro blk i len full) b = some d) (h0:full = .tight -> len ≠ 0) (h1:full = .tight -> b.len = 0):ro = false /\ d = some blk:=by
 cases full with
 | no => cases ro <;> simp [consumes] at h <;> exact ⟨rfl,h.symm⟩
 | room n => cases ro <;> simp [consumes] at h <;> exact ⟨rfl,h.symm⟩
 | tight =>
  cases len with
  | zero => exact absurd rfl (h0 rfl)
  | succ len =>
   have hb:=h1 rfl
   cases b with
   | lst l =>
    cases l with
    | cons x xs => simp [Src.len] at hb
    | nil => cases ro <;> simp [consumes] at h <;> exact ⟨rfl,h.symm⟩
   | gen n f => cases ro <;> simp [consumes] at h <;> exact ⟨rfl,h.symm⟩
   | byt l => cases ro <;> simp [consumes] at h <;> exact ⟨rfl,h.symm⟩
theorem aappend_ok {T:TypeId -> Option TI} {P:Program} (hT:TabOK P T) {R:Nat -> RoRow} {m:Map} {h:Rows} {w:World} (hW:WR R m h w) (t t2 ty:TypeId) (ts:List TypeId) (s x:AV) (u v:Value) (us:List Value)
  (hs:Den m h.length s u) (hx:Den m h.length x v) :
  (aappend T R h t t2 s x).run R m h P w (do pure (.value (<- Builtin.append_ (t :: t2 :: ts).toArray ty (u :: v :: us).toArray))):=by
 unfold aappend
 split
 case h_2 => trivial
 rename_i ti t2i hti ht2i
 split
 case h_2 => trivial
 rename_i e hkd
 cases hte:T e with
 | none => trivial
 | some te =>
  simp only []
  split
  case isFalse => trivial
  rename_i hcond
  simp only [appOK,Bool.and_eq_true] at hcond
  obtain ⟨k1,k2,k3,k4,k5,k6⟩:=hcond
  obtain ⟨d,hr,hu,hk⟩:=(hT _ _ hti).run_underlying w
  rw [hkd] at hk; simp only [KdOK] at hk; subst hk
  obtain ⟨d2,hr2,hu2,hk2⟩:=(hT _ _ ht2i).run_underlying w
  have hd2:(∃ e2,d2 = .slice e2) \/ d2 = .string:=by
   cases hkd2:t2i.kd <;> rw [hkd2] at k1 hk2 <;> simp at k1 <;> simp only [KdOK] at hk2
   ·exact .inr hk2
   ·exact .inl ⟨_,hk2⟩
  obtain ⟨ie,hie,hies,hieb,ze,hze,hzd⟩:=(hT _ _ hte).info
  have hbytes:0 < ie.bytes:=by rw [hieb]; simpa [Nat.blt_eq] using k4
  have hzsz:ze.cells.size = te.size:=by
   have:=(Den.cells (hT _ _ hte).zk (hzd m h.length)).length
   rw [<- Nat.eq_of_beq_eq_true k5,this]; simp
  have fit:∀ y c q,srcFits R h te y = true -> srcOf R h y = some (c,q) -> c = true -> (∃ z,eszOfAV R h y = some z /\ z = te.size) \/ y = .nils \/ (te.size = 1 /\ ∃ l,y = .str l):=by
   intro y c q hf hq hc
   unfold srcFits at hf
   split at hf
   ·exact .inr (.inl rfl)
   ·split at hf
    ·exact .inr (.inr ⟨Nat.eq_of_beq_eq_true hf,_,rfl⟩)
    ·exact absurd hf (by simp)
   ·cases hz:eszOfAV R h y with
    | none => rw [hz] at hf; simp at hf
    | some z => rw [hz] at hf; exact .inl ⟨z,rfl,Nat.eq_of_beq_eq_true hf⟩
  split
  ·-- nothing is appended
   intro _
   simp only [Den] at hx
   subst hx
   have hbase:∃ base sLen sCap,u = .slice base sLen sCap /\ sLen <= sCap /\ (base = none -> sLen = 0 /\ sCap = 0):=by
    cases s <;> simp only [Den] at hs <;> simp [srcFits,eszOfAV] at k2
    ·exact absurd k6 (by simp)
    ·obtain ⟨_,hsl⟩:=hs
     unfold SlDen at hsl
     split at hsl
     ·obtain ⟨rfl,ao,rfl,_⟩:=hsl; exact ⟨ao,0,0,rfl,Nat.le_refl _,fun _ => ⟨rfl,rfl⟩⟩
     ·obtain ⟨ad,cap,rfl,h1,_⟩:=hsl; exact ⟨_,_,_,rfl,h1,fun h => absurd h (by simp)⟩
    ·subst hs; exact ⟨_,_,_,rfl,Nat.le_refl _,fun _ => ⟨rfl,rfl⟩⟩
   obtain ⟨base,sLen,sCap,rfl,hle,hb0⟩:=hbase
   have hrun:=run_append_in (P:=P) (w:=w) (ty:=ty) hu hu2 hd2 hie ts us base sLen sCap 0 (.slice none 0 0) [] (by simp [Builtin.lenOf,pure,Sem.run]) (by simp [Builtin.firstCells,pure,Sem.run]) (by omega)
   refine ⟨.value (.slice base sLen sCap),.slice base sLen sCap,w,m,?_,rfl,hs,hW,Step.refl _ _ _⟩
   simp only [Sem.run_bind,hrun]
   cases base <;> simp [storeCells,pure,Sem.run]
  ·rename_i c1 a c2 b hnn hsa hsb
   split
   case h_2 => trivial
   rename_i d hd
   intro hc
   simp only [Bool.and_eq_true,decide_eq_true_eq] at hc
   obtain ⟨rfl,rfl,hj,hfit⟩:=hc
   obtain ⟨olds,o1,o2,o3,o4,o5⟩:=src_vals (P:=P) hW hs hsa (fit _ _ _ k2 hsa rfl)
   obtain ⟨news,n1,n2,n3,n4,n5⟩:=src_vals (P:=P) hW hx hsb (fit _ _ _ k3 hsb rfl)
   have hbig:a.len + b.len <= 140737488355328:=by
    have:(a.len + b.len) * 1 <= (a.len + b.len) * te.bytes:=Nat.mul_le_mul_left _ (by rw [<- hieb]; exact hbytes)
    omega
   have hbase:∃ base sCap,u = .slice base a.len sCap /\ a.len <= sCap /\ (base = none -> a.len = 0 /\ sCap = 0) /\
     (0 < sCap -> ∃ ro bb i full,s = .sl ro bb i a.len full /\ (m.loc ro bb).vir = false /\ base = some ⟨(m.loc ro bb).blk,(m.loc ro bb).shift + i * (m.loc ro bb).esz,none⟩ /\ i + sCap <= (m.loc ro bb).ext /\ CpOK full a.len sCap /\ (m.loc ro bb).esz = te.size /\ sCap <= maxLen) /\ (∀ ro bb i l n,s = .sl ro bb i l (.room n) -> a.len + n <= sCap):=by
    cases s <;> simp only [Den] at hs <;> try (simp [srcOf] at hsa; done)
    ·exact absurd k6 (by simp)
    ·rename_i ro bb i len full
     obtain ⟨_,hsl⟩:=hs
     have hez:(m.loc ro bb).esz = te.size:=by
      rcases fit _ _ _ k2 hsa rfl with ⟨z,h1,rfl⟩ | h1 | ⟨_,_,h1⟩
      ·exact eszOf_spec hW h1
      ·exact absurd h1 (by simp)
      ·exact absurd h1 (by simp)
     have hal:(m.loc ro bb).vir = false -> a.len = len:=fun hv => (src_cells hW hsa hv).1
     unfold SlDen at hsl
     split at hsl
     ·rename_i hv
      obtain ⟨rfl,ao,rfl,hcp0⟩:=hsl
      have ha0:a.len = 0:=by
       have:=o2
       simp only [Builtin.lenOf] at this
       simpa [pure,Sem.run] using this.symm
      rw [ha0]
      exact ⟨ao,0,rfl,Nat.le_refl _,fun _ => ⟨rfl,rfl⟩,fun h => absurd h (Nat.lt_irrefl _),fun ro' bb' i' l' n' e' => by cases e'; exact hcp0⟩
     ·rename_i hv
      have hv':(m.loc ro bb).vir = false:=by simpa using hv
      obtain ⟨ad,cap,rfl,h1,h2,h3,h4⟩:=hsl
      rw [hal hv']
      refine ⟨some ad,cap,rfl,h1,fun h => absurd h (by simp),fun hp => ?_,fun ro' bb' i' l' n' e' => by cases e'; exact h3⟩
      obtain ⟨rfl,h5⟩:=h4 hp
      exact ⟨ro,bb,i,full,rfl,hv',rfl,h5,h3,hez,h2⟩
    ·simp only [srcOf,Option.some.injEq,Prod.mk.injEq,true_and] at hsa
     subst hs hsa
     exact ⟨none,0,rfl,Nat.le_refl _,fun _ => ⟨rfl,rfl⟩,fun h => absurd h (Nat.lt_irrefl _),fun ro' bb' i' l' n' e' => by cases e'⟩
   obtain ⟨base,sCap,rfl,hle,hb0,hpos,hroom⟩:=hbase
   have hdlt:∀ bb,d = some bb -> bb < h.length /\ ∃ i len full,s = .sl false bb i len full:=by
    intro bb hdb
    subst hdb
    obtain ⟨i,len,full,rfl⟩:=consumes_some hd
    obtain ⟨r,hr⟩:=WR.sl_live hsa
    exact ⟨live_lt hr,_,_,_,rfl⟩
   obtain ⟨dW,dS,dL⟩:=dropRow_WR hW d (fun bb hbb => (hdlt bb hbb).1)
   have hlen2:(joinRow e te.size a b).len = a.len + b.len:=joinRow_len _ _ _ _
   have hesz2:=joinRow_esz e te.size a b
   have hty2:=joinRow_ty e te.size a b
   by_cases hin:a.len + b.len <= sCap
   ·-- there is room
    have hrun:=run_append_in (P:=P) (w:=w) (ty:=ty) hu hu2 hd2 hie ts us base a.len sCap b.len v news n2 (by rw [hies]; exact n3 w rfl) hin
    by_cases hp:sCap = 0
    ·-- nothing at all
     subst hp
     have ha0:a.len = 0:=by omega
     have hb0':b.len = 0:=by omega
     have hnews:news = []:=by
      have:news.length = 0:=by rw [n1,hb0']; simp
      exact List.length_eq_zero_iff.1 this
     obtain ⟨vW,vS⟩:=dW.pushVir (joinRow e te.size a b) (by omega)
     rw [dL] at vW vS
     refine ⟨.value (.slice base (a.len + b.len) 0),.slice base (a.len + b.len) 0,w,_,?_,rfl,?_,vW,dS.trans vS⟩
     ·simp only [Sem.run_bind,hrun]
      subst hnews
      cases base <;> simp [storeCells,pure,Sem.run]
     ·simp only [Den]
      refine ⟨fun _ => by simp [dL],?_⟩
      simp only [Map.loc,Bool.false_eq_true,if_false,Map.setMu_same,SlDen,if_true]
      have hcp:=appCp_ok (b:=b.len) hroom (Nat.le_refl _) (by omega)
      rw [ha0,hb0'] at hcp ⊢
      exact ⟨rfl,base,rfl,hcp⟩
    ·obtain ⟨ro,bb,i,full,rfl,hvir,rfl,hext,hfull,hez,hmax⟩:=hpos (by omega)
     have hdb:ro = false /\ d = some bb:=consumes_in hd (fun hf h0 => by subst hf; simp only [CpOK] at hfull; omega) (fun hf => by subst hf; simp only [CpOK] at hfull; omega)
     obtain ⟨rfl,rfl⟩:=hdb
     simp only [Map.loc,Bool.false_eq_true,if_false] at hvir hext hez
     obtain ⟨r,hlr⟩:=WR.sl_live hsa
     obtain ⟨c,fz,g1,g2,g3,g4⟩:=(hW.row bb r hlr).els hvir
     have hrty:r.ty = (joinRow e te.size a b).ty \/ True:=.inr trivial
     have hmul:(a.len + b.len) * te.size <= sCap * te.size:=Nat.mul_le_mul_right _ hin
     have hmul2:(i + sCap) * te.size <= (m.mu bb).ext * te.size:=Nat.mul_le_mul_right _ hext
     rw [Nat.add_mul] at hmul hmul2
     have haddr:∀ j,(((⟨(m.mu bb).blk,(m.mu bb).shift + i * (m.mu bb).esz,none⟩:Addr).add (a.len * te.size)).add j) = ⟨(m.mu bb).blk,(m.mu bb).shift + i * te.size + a.len * te.size + j,none⟩:=by
      intro j
      rw [hez]
      unfold Addr.add
      split <;> split <;> simp_all
     rw [hez] at g2 g3
     obtain ⟨w',hst,ho⟩:=run_storeCells_over (P:=P) (m.mu bb).blk r.ty fz ((⟨(m.mu bb).blk,(m.mu bb).shift + i * (m.mu bb).esz,none⟩:Addr).add (a.len * te.size)) news 0 ((m.mu bb).shift + i * te.size + a.len * te.size) c w g1
      (by rw [haddr]; simp) (fun j => by rw [haddr]; simp) (by rw [n1]; omega) (fun k q1 q2 => g3.1 k (by omega) (by rw [n1] at q2; omega)) n5
     obtain ⟨c',p1,p2,p3⟩:=ho.blk _ _ _ g1
     have hty:r.ty = e:=by
      simp only [hlr] at k6
      exact Nat.eq_of_beq_eq_true k6
     have hshift:(m.mu bb).shift + i * te.size + sCap * te.size <= c'.size:=by rw [p2]; omega
     obtain ⟨mW,mS⟩:=hW.move hlr hvir (joinRow e te.size a b) c' fz ((m.mu bb).shift + i * te.size) sCap ho.os ho.tape ho.output ho.size ho.other
      (by rw [p1,hty,hty2]) (by omega) (by rw [hesz2]; exact hshift) ⟨fun k q1 q2 => g3.1 k (by omega) (by rw [hesz2] at q2; omega),fun q => by rw [p2]; exact g3.2 (by rwa [hesz2] at q)⟩
      (by
       rw [hesz2]
       obtain ⟨hal,hcs⟩:=src_cells hW hsa (by simpa [Map.loc] using hvir)
       simp only [Map.loc,Bool.false_eq_true,if_false,hez] at hcs
       refine joinRow_els e te.size hj ?_ ?_
       ·intro j hjl
        refine ⟨(hcs j hjl).1,fun o x hx => ?_⟩
        obtain ⟨q1,vv,q2,q3⟩:=(hcs j hjl).2 o x hx
        refine ⟨q1,vv,?_,q3⟩
        have ho2:o < te.size:=by
         have:=(List.getElem?_eq_some_iff.1 hx).1
         rw [(hcs j hjl).1] at this; exact this
        have hk:(j + 1) * te.size <= a.len * te.size:=Nat.mul_le_mul_right _ hjl
        rw [Nat.add_mul] at hk
        show c'[(m.mu bb).shift + i * te.size + (j * te.size + o)]? = some vv
        rw [p3,if_neg (by omega)]
        simp only [World.cell?,g1,Option.isSome_none,Bool.false_eq_true,if_false] at q2
        rw [<- q2,Nat.add_mul]
        congr 1; omega
       ·refine n4.mono (fun k vv hk hkv => ?_)
        show c'[(m.mu bb).shift + i * te.size + (a.len * te.size + k)]? = some vv
        rw [p3,if_pos (by omega),<- hkv]
        congr 1; omega)
     refine ⟨.value (.slice (some ⟨(m.mu bb).blk,(m.mu bb).shift + i * (m.mu bb).esz,none⟩) (a.len + b.len) sCap),.slice (some ⟨(m.mu bb).blk,(m.mu bb).shift + i * (m.mu bb).esz,none⟩) (a.len + b.len) sCap,w',_,?_,rfl,?_,mW,mS⟩
     ·simp only [Map.loc,Bool.false_eq_true,if_false,hies] at hrun
      simp only [Map.loc,Bool.false_eq_true,if_false,Sem.run_bind,hrun,hst,Result.andThen_ok]
      rfl
     ·simp only [Den]
      refine ⟨fun _ => by simp [dropRow],?_⟩
      simp only [Map.loc,Bool.false_eq_true,if_false,Map.setMu_same,SlDen]
      refine ⟨_,sCap,rfl,hin,hmax,appCp_ok hroom (Nat.le_refl _) hin,fun _ => ⟨by rw [hez]; simp,by simp⟩⟩
   ·-- a new block
    have hrun:=run_append_up (P:=P) (w:=w) (ty:=ty) hu hu2 hd2 hie hze hbytes ts us base a.len sCap b.len v olds news n2 (by rw [hies]; exact n3) (by rw [hies]; exact fun w2 hw2 => by have:=o3 w2 hw2; exact this) (by omega) (by rw [hieb]; exact hfit)
    obtain ⟨b1,b2⟩:=grownCap_bounds w (a.len + b.len) sCap e (by omega)
    have hsz:(olds.toArray ++ news.toArray ++ Builtin.zeroCells ze.cells (grownCap w (a.len + b.len) sCap e - (a.len + b.len))).size = grownCap w (a.len + b.len) sCap e * te.size:=by
     simp only [Array.size_append,List.size_toArray,size_zeroCells,o1,n1,hzsz,<- Nat.add_mul]
     congr 1; omega
    obtain ⟨vW,vS⟩:=WR.push (w':=w.drew.alloc (.cells (olds.toArray ++ news.toArray ++ Builtin.zeroCells ze.cells (grownCap w (a.len + b.len) sCap e - (a.len + b.len))) e)) dW (joinRow e te.size a b)
     (olds.toArray ++ news.toArray ++ Builtin.zeroCells ze.cells (grownCap w (a.len + b.len) sCap e - (a.len + b.len))) (0,0) (grownCap w (a.len + b.len) sCap e) rfl rfl rfl (by rw [hty2]; rfl) (by omega) (by rw [hesz2,hsz]; exact Nat.le_refl _) (FzOff.zero _ _ _ _)
     (by
      rw [hesz2,dL]
      refine joinRow_els e te.size hj (o4.mono fun k vv _ hk => ?_) (n4.mono fun k vv _ hk => ?_)
      ·have hlt:k < olds.length:=(List.getElem?_eq_some_iff.1 hk).1
       rw [Array.getElem?_append_left (by simp; omega),Array.getElem?_append_left (by simpa using hlt)]
       simpa using hk
      ·have hlt:k < news.length:=(List.getElem?_eq_some_iff.1 hk).1
       rw [Array.getElem?_append_left (by simp; omega),Array.getElem?_append_right (by simp; omega)]
       simpa [o1] using hk)
    rw [dL] at vW vS
    refine ⟨.value (.slice (some ⟨w.heap.size,0,none⟩) (a.len + b.len) (grownCap w (a.len + b.len) sCap e)),.slice (some ⟨w.heap.size,0,none⟩) (a.len + b.len) (grownCap w (a.len + b.len) sCap e),_,_,?_,rfl,?_,vW,dS.trans vS⟩
    ·simp only [Sem.run_bind,hrun]; rfl
    ·simp only [Den]
     refine ⟨fun _ => by simp [dL],?_⟩
     simp only [Map.loc,Bool.false_eq_true,if_false,Map.setMu_same,SlDen]
     exact ⟨_,_,rfl,b1,b2,appCp_ok hroom (by omega) b1,fun _ => ⟨by simp,by simp⟩⟩
  ·trivial
end Go.Dc
end
section
namespace Go.Dc
def okCells (v:AV) (size:Nat):Bool:=v.known && (Nat.beq v.cells.length size && v.cells.all AV.one)
theorem okCells_spec {v:AV} {size:Nat} (h:okCells v size = true) {m:Map} {n:Nat} {u:Value} (hd:Den m n v u) :
  u.cells.size = size /\ DenL m n v.cells u.cells.toList /\ v.cells.length = size /\ (∀ (o:Nat) (a:AV),v.cells[o]? = some a -> a.one = true /\ ∃ x,u.cells[o]? = some x /\ Den m n a x) /\ ∀ x ∈ u.cells.toList,x.oneCell' = true:=by
 simp only [okCells,Bool.and_eq_true] at h
 obtain ⟨h1,h2,h3⟩:=h
 have hk:v ≠ .any:=by intro e; rw [e] at h1; simp [AV.known] at h1
 have hc:=hd.cells hk
 have hl:=hc.length
 have h2':=Nat.eq_of_beq_eq_true h2
 have hall:∀ (o:Nat) (a:AV),v.cells[o]? = some a -> a.one = true /\ ∃ x,u.cells[o]? = some x /\ Den m n a x:=by
  intro o a ha
  obtain ⟨x,hx,hdx⟩:=hc.get ha
  exact ⟨List.all_eq_true.1 h3 a (List.mem_of_getElem? ha),x,by simpa using hx,hdx⟩
 refine ⟨by simp at hl; omega,hc,h2',hall,fun x hx => ?_⟩
 obtain ⟨o,ho,rfl⟩:=List.getElem_of_mem hx
 have hlt:o < v.cells.length:=by rw [hl]; exact ho
 obtain ⟨g1,y,g2,g3⟩:=hall o _ (List.getElem?_eq_getElem hlt)
 have:u.cells.toList[o] = y:=by
  have hx2:u.cells.toList[o]? = some y:=by simpa using g2
  rw [List.getElem?_eq_getElem ho] at hx2
  exact Option.some.inj hx2
 rw [this]
 exact g3.oneCell g1
theorem box_els {v:AV} {size:Nat} (h:okCells v size = true) {m:Map} {n:Nat} {u:Value} (hd:Den m n v u) (ty:Nat):ElsOK m n (.lst ty size [v]) size (fun k => u.cells[k]?):=by
 obtain ⟨h1,h2,h3,h4,h5⟩:=okCells_spec h hd
 intro i e he
 cases i with
 | succ i => simp [Row.get?] at he
 | zero =>
  simp [Row.get?] at he
  subst he
  exact ⟨h3,fun o a ha => by simpa using h4 o a ha⟩
def newOne (h:Rows) (elem:TypeId) (size:Nat) (v:AV):WQ :=
 if okCells v size then .ok true (.ptr false h.length 0 0) (h ++ [some (.lst elem size [v])]) else .no
theorem newOne_ok {P:Program} {R:Nat -> RoRow} {m:Map} {h:Rows} {w:World} (hW:WR R m h w) (elem:TypeId) (size:Nat) (v:AV) (u:Value) (hd:Den m h.length v u) (s:Sem Next)
  (hs:s.run P w = .ok (.value (.pointer (some ⟨w.heap.size,0,none⟩))) (w.alloc (.cells u.cells elem))):(newOne h elem size v).run R m h P w s:=by
 unfold newOne
 split
 ·rename_i hc
  intro _
  obtain ⟨h1,h2,h3,h4,h5⟩:=okCells_spec hc hd
  obtain ⟨vW,vS⟩:=hW.push (w':=w.alloc (.cells u.cells elem)) (.lst elem size [v]) u.cells (0,0) 1 rfl rfl rfl rfl (by simp [Row.len]) (by simp [Row.esz,h1]) (FzOff.zero _ _ _ _) (box_els hc hd elem)
  refine ⟨_,_,_,_,hs,rfl,?_,vW,vS⟩
  simp only [Den]
  refine ⟨fun _ => by simp,?_,?_⟩
  ·simp only [Map.loc,Bool.false_eq_true,if_false,Map.setMu_same]
  ·simp only [Map.loc,Bool.false_eq_true,if_false,Map.setMu_same]; simp
 ·trivial
def mkEl (e:AV) (cs:List AV):AV :=
 match e with
 | .agg _ => .agg cs
 | _ => cs.headD .any
def Row.put (r:Row) (i o:Nat) (x:AV):WQ:=  -- the rows: this row alone
 match r with
 | .lst ty z els => match els[i]? with
  | some e => if Nat.ble (o + x.cells.length) e.cells.length then .ok true .undef [some (.lst ty z (els.set i (mkEl e (putAt e.cells o x.cells))))] else .no
  | none => .no
 | .gen ty z n f => if Nat.ble (o + x.cells.length) (f i).cells.length then .ok (decide (i < n)) .undef [some (.gen ty z n fun j => bif Nat.beq j i then mkEl (f i) (putAt (f i).cells o x.cells) else f j)] else .no
 | .byt ty l => match x,o with
  | .int .u8 n,0 => .ok (decide (i < l.length) && (decide (0 <= n) && decide (n <= 255))) .undef [some (.byt ty (l.set i (UInt8.ofNat n.toNat)))]
  | _,_ => .no
def astore (T:TypeId -> Option TI) (h:Rows) (t:TypeId) (p x:AV):WQ :=
 match T t,p with
 | some ti,.ptr false b i o => if okCells x ti.size then
   match h.live b with
   | some r => match r.put i o x with
    | .ok c v [r'] => .ok c v (h.set b r')
    | _ => .no
   | none => .no
  else .no
 | _,_ => .no
theorem mkEl_cells {e:AV} {cs:List AV} (hl:cs.length = e.cells.length) (h1:∀ a:AV,a ∈ cs -> a.one = true) (he:∀ (o:Nat) (a:AV),e.cells[o]? = some a -> a.one = true):(mkEl e cs).cells = cs:=by
 cases e
 case agg c => rfl
 all_goals
  simp only [AV.cells,List.length_cons,List.length_nil,Nat.zero_add] at hl
  match cs,hl with
  | [a],_ =>
   have:=h1 a (by simp)
   simp only [mkEl,List.headD]
   cases a <;> simp [AV.one] at this <;> rfl
theorem put_els {m:Map} {n:Nat} {r:Row} {esz:Nat} {c c':Nat -> Option Value} (hr:ElsOK m n r esz c) (hrz:r.esz = esz) {i o:Nat} {x:AV} {size:Nat} (hx:okCells x size = true) {u:Value} (hd:Den m n x u) {cc:Bool} {v:AV} {r':Option Row}
  (hp:r.put i o x = .ok cc v [r']) (hc:cc = true)
  (hnew:∀ k,i * esz + o <= k -> k < i * esz + o + size -> c' k = u.cells[k - (i * esz + o)]?) (hold:∀ k,k < i * esz + o \/ i * esz + o + size <= k -> c' k = c k) :
  ∃ r2,r' = some r2 /\ r2.ty = r.ty /\ r2.esz = r.esz /\ r2.len = r.len /\ i < r.len /\ o + size <= esz /\ v = .undef /\ ElsOK m n r2 esz c':=by
 obtain ⟨h1,h2,h3,h4,h5⟩:=okCells_spec hx hd
 have key:∀ e,r.get? i = some e -> o + x.cells.length <= e.cells.length -> e.cells.length = esz /\ (mkEl e (putAt e.cells o x.cells)).cells = putAt e.cells o x.cells /\
   ∀ (o':Nat) (a:AV),(putAt e.cells o x.cells)[o']? = some a -> a.one = true /\ ∃ y,c' (i * esz + o') = some y /\ Den m n a y:=by
  intro e he hle
  obtain ⟨g1,g2⟩:=hr i e he
  have gall:∀ (o':Nat) (a:AV),(putAt e.cells o x.cells)[o']? = some a -> a.one = true /\ ∃ y,c' (i * esz + o') = some y /\ Den m n a y:=by
   intro o' a ha
   rw [putAt_get hle] at ha
   split at ha
   ·rename_i hh
    obtain ⟨q1,y,q2,q3⟩:=h4 _ _ ha
    refine ⟨q1,y,?_,q3⟩
    rw [hnew _ (by omega) (by omega),<- q2]
    congr 1; omega
   ·rename_i hh
    obtain ⟨q1,y,q2,q3⟩:=g2 _ _ ha
    exact ⟨q1,y,by rw [hold _ (by omega)]; exact q2,q3⟩
  refine ⟨g1,mkEl_cells (putAt_length hle) (fun a ha => ?_) (fun o a ha => (g2 o a ha).1),gall⟩
  obtain ⟨k,hk,rfl⟩:=List.getElem_of_mem ha
  exact (gall k _ (List.getElem?_eq_getElem hk)).1
 have other:∀ j e,j ≠ i -> o + size <= esz -> r.get? j = some e -> e.cells.length = esz /\ ∀ (o':Nat) (a:AV),e.cells[o']? = some a -> a.one = true /\ ∃ y,c' (j * esz + o') = some y /\ Den m n a y:=by
  intro j e hj hle he
  obtain ⟨g1,g2⟩:=hr j e he
  refine ⟨g1,fun o' a ha => ?_⟩
  obtain ⟨q1,y,q2,q3⟩:=g2 o' a ha
  have ho':o' < esz:=by
   have:=(List.getElem?_eq_some_iff.1 ha).1
   rw [g1] at this; exact this
  refine ⟨q1,y,?_,q3⟩
  rw [hold _ ?_]; exact q2
  rcases Nat.lt_or_gt_of_ne hj with hlt | hgt
  ·have:(j + 1) * esz <= i * esz:=Nat.mul_le_mul_right _ hlt
   rw [Nat.add_mul] at this; omega
  ·have:(i + 1) * esz <= j * esz:=Nat.mul_le_mul_right _ hgt
   rw [Nat.add_mul] at this; omega
 cases r with
 | lst ty z els =>
  simp only [Row.put] at hp
  cases he:els[i]? with
  | none => rw [he] at hp; simp at hp
  | some e =>
   rw [he] at hp
   simp only [] at hp
   split at hp
   ·rename_i hle
    simp only [WQ.ok.injEq,List.cons.injEq,and_true] at hp
    obtain ⟨rfl,rfl,rfl⟩:=hp
    have hle':o + x.cells.length <= e.cells.length:=by simpa using hle
    have hi:i < els.length:=(List.getElem?_eq_some_iff.1 he).1
    obtain ⟨g1,g2,g3⟩:=key e he hle'
    refine ⟨_,rfl,rfl,rfl,by simp [Row.len],hi,by omega,rfl,?_⟩
    intro j e' he'
    simp only [Row.get?] at he'
    by_cases hj:j = i
    ·subst hj
     rw [List.getElem?_set_self hi] at he'
     cases he'
     rw [g2]
     exact ⟨by rw [putAt_length hle',g1],g3⟩
    ·rw [List.getElem?_set_ne (by omega)] at he'
     exact other j e' hj (by omega) he'
   ·simp at hp
 | gen ty z nn f =>
  simp only [Row.put] at hp
  split at hp
  ·rename_i hle
   simp only [WQ.ok.injEq,List.cons.injEq,and_true] at hp
   obtain ⟨rfl,rfl,rfl⟩:=hp
   have hi:i < nn:=by simpa using hc
   have hle':o + x.cells.length <= (f i).cells.length:=by simpa using hle
   obtain ⟨g1,g2,g3⟩:=key (f i) (Row.get_gen hi) hle'
   refine ⟨_,rfl,rfl,rfl,rfl,hi,by omega,rfl,?_⟩
   intro j e' he'
   simp only [Row.get?] at he'
   cases hb:Nat.blt j nn with
   | false => rw [hb] at he'; simp at he'
   | true =>
    rw [hb] at he'
    simp only [cond_true,Option.some.injEq] at he'
    subst he'
    by_cases hj:j = i
    ·subst hj
     simp only [Nat.beq_refl,cond_true]
     rw [g2]
     exact ⟨by rw [putAt_length hle',g1],g3⟩
    ·have:Nat.beq j i = false:=by rw [Bool.eq_false_iff]; exact fun e => hj (Nat.eq_of_beq_eq_true e)
     rw [this]
     exact other j _ hj (by omega) (Row.get_gen (by simpa [Nat.blt_eq] using hb))
  ·simp at hp
 | byt ty l =>
  simp only [Row.put] at hp
  split at hp
  ·rename_i nn
   simp only [WQ.ok.injEq,List.cons.injEq,and_true] at hp
   obtain ⟨rfl,rfl,rfl⟩:=hp
   simp only [Bool.and_eq_true,decide_eq_true_eq] at hc
   obtain ⟨hi,hn0,hn1⟩:=hc
   have hs1:size = 1:=by rw [<- h3]; rfl
   simp only [Row.esz] at hrz
   subst hrz
   refine ⟨_,rfl,rfl,rfl,by simp [Row.len],hi,by omega,rfl,?_⟩
   intro j e' he'
   simp only [Row.get?] at he'
   by_cases hj:j = i
   ·subst hj
    rw [List.getElem?_set_self hi] at he'
    simp only [Option.map_some,Option.some.injEq] at he'
    subst he'
    refine ⟨rfl,fun o' a ha => ?_⟩
    simp only [AV.cells] at ha
    cases o' with
    | succ o' => simp at ha
    | zero =>
     simp only [List.getElem?_cons_zero,Option.some.injEq] at ha
     subst ha
     obtain ⟨q1,y,q2,q3⟩:=h4 0 _ rfl
     refine ⟨rfl,y,?_,?_⟩
     ·rw [hnew _ (by omega) (by omega),<- q2]; congr 1; omega
     ·have:((UInt8.ofNat nn.toNat).toNat:Int) = nn:=by
       simp only [UInt8.toNat_ofNat']
       rw [Nat.mod_eq_of_lt (by omega)]; omega
      rw [this]; exact q3
   ·rw [List.getElem?_set_ne (by omega)] at he'
    exact other j e' hj (by omega) he'
  ·simp at hp
theorem astore_ok {T:TypeId -> Option TI} {P:Program} (hT:TabOK P T) {R:Nat -> RoRow} {m:Map} {h:Rows} {w:World} (hW:WR R m h w) (t:TypeId) (p x:AV) (up u:Value)
  (hp:Den m h.length p up) (hx:Den m h.length x u):(astore T h t p x).run R m h P w (do Instr.storeAt t up u; pure .skip):=by
 unfold astore
 split
 case h_2 => trivial
 rename_i ti b i o hti
 split
 case isFalse => trivial
 rename_i hok
 cases hl:h.live b with
 | none => trivial
 | some r =>
  simp only []
  split
  case h_2 => trivial
  rename_i c v r' hput
  intro hc
  simp only [Den] at hp
  obtain ⟨hb,hvir,rfl⟩:=hp
  simp only [Map.loc,Bool.false_eq_true,if_false] at hvir ⊢
  obtain ⟨h1,h2,h3,h4,h5⟩:=okCells_spec hok hx
  obtain ⟨cc,fz,g1,g2,g3,g4⟩:=(hW.row b r hl).els hvir
  have hesz:=(hW.row b r hl).1
  have hlen:=(hW.row b r hl).2.1
  have hput':=fun c' hn ho => put_els (c':=c') g4 hesz.symm hok hx hput hc hn ho
  have hplace:i < r.len /\ o + ti.size <= (m.mu b).esz:=by
   obtain ⟨r2,_,_,_,_,a1,a2,_,_⟩:=hput' (fun k => if i * (m.mu b).esz + o <= k /\ k < i * (m.mu b).esz + o + ti.size then u.cells[k - (i * (m.mu b).esz + o)]? else cc[(m.mu b).shift + k]?)
    (fun k q1 q2 => by rw [if_pos ⟨q1,q2⟩]) (fun k q => by rw [if_neg (by omega)])
   exact ⟨a1,a2⟩
  obtain ⟨hi,hoz⟩:=hplace
  have hm1:(i + 1) * (m.mu b).esz <= (m.mu b).ext * (m.mu b).esz:=Nat.mul_le_mul_right _ (by omega)
  rw [Nat.add_mul] at hm1
  have haddr:∀ j,(⟨(m.mu b).blk,(m.mu b).shift + (i * (m.mu b).esz + o),none⟩:Addr).add j = ⟨(m.mu b).blk,(m.mu b).shift + (i * (m.mu b).esz + o) + j,none⟩:=by
   intro j
   unfold Addr.add
   split
   ·rename_i h0; subst h0; rfl
   ·rfl
  obtain ⟨w',hst,hov⟩:=run_storeCells_over (P:=P) (m.mu b).blk r.ty fz ⟨(m.mu b).blk,(m.mu b).shift + (i * (m.mu b).esz + o),none⟩ u.cells.toList 0 ((m.mu b).shift + (i * (m.mu b).esz + o)) cc w g1 (by rw [haddr]; simp) (fun j => by rw [haddr]; simp)
   (by simp; omega) (fun k q1 q2 => g3.1 k (by omega) (by simp at q2; omega)) h5
  obtain ⟨c',p1,p2,p3⟩:=hov.blk _ _ _ g1
  obtain ⟨r2,rfl,e1,e2,e3,e4,e5,rfl,e7⟩:=hput' (fun k => c'[(m.mu b).shift + k]?)
   (fun k q1 q2 => by
    show c'[(m.mu b).shift + k]? = _
    rw [p3,if_pos (by simp; omega),Array.getElem?_toList]
    congr 1; omega)
   (fun k q => by
    show c'[(m.mu b).shift + k]? = _
    rw [p3,if_neg (by simp; omega)])
  obtain ⟨mW,mS⟩:=hW.update hl hvir r2 c' fz hov.os hov.tape hov.output hov.size hov.other (by rw [p1,e1]) (by rw [e2,hesz]) (by omega) (by omega) (by rw [p2]; exact g3) e7
  refine ⟨.skip,undef,w',m,?_,rfl,by simp [Den,DenL,undef],mW,mS⟩
  simp only [Sem.run_bind,Instr.storeAt,Instr.sureAddr,Sem.run_pure,Result.andThen_ok,storeVar,(hT _ _ hti).run_sizeOf w]
  rw [if_neg (by rw [h1]; simp)]
  rw [hst]; rfl
end Go.Dc
end
section
namespace Go.Dc
def flatZ (z:List AV) (k:Nat):List AV:=(List.range k).map fun i => z.getD (i % z.length) .any
def chunks (zv:AV) (size len:Nat) (res:List AV):List AV:=(List.range len).map fun i => mkEl zv ((res.drop (i * size)).take size)
def abuildSlice (T:TypeId -> Option TI) (h:Rows) (t:TypeId) (len:Nat) (parts:List (Nat × AV)):WQ :=
 match T t with
 | some ti => match ti.kd with
  | .slice e => match T e with
   | some te =>
    if Nat.ble (len * te.size) (2 ^ 24) && (Nat.ble len (2 ^ 24) && okCells te.zv te.size) then
     match afill (fun i => some (i * te.size,te.size)) (flatZ te.zv.cells (len * te.size)) parts with
     | some res => if res.all AV.one then .ok true (.sl false h.length 0 len .tight) (h ++ [some (.lst e te.size (chunks te.zv te.size len res))]) else .no
     | none => .no
    else .no
   | none => .no
  | _ => .no
 | none => .no
theorem flatZ_length (z:List AV) (k:Nat):(flatZ z k).length = k:=by simp [flatZ]
theorem afill_length {place:Nat -> Option (Nat × Nat)}:∀ {parts:List (Nat × AV)} {cells res:List AV},afill place cells parts = some res -> res.length = cells.length
 | [],cells,res,h => by simp [afill] at h; rw [h]
 | (i,v) :: parts,cells,res,h => by
  simp only [afill] at h
  split at h
  ·exact absurd h (by simp)
  ·split at h
   ·rename_i hc
    rw [afill_length h,putAt_length hc.2.2]
   ·exact absurd h (by simp)
theorem flatZ_den {m:Map} {n:Nat} {zs:List AV} {z:Array Value} (h:DenL m n zs z.toList) (k:Nat) (hk:0 < k -> 0 < zs.length) :
  DenL m n (flatZ zs k) ((Array.range k).map (fun i => z[i % z.size]!)).toList:=by
 have hl:=h.length
 simp only [Array.length_toList] at hl
 refine DenL.of (by simp [flatZ]) ?_
 intro i a ha
 have hi:i < k:=by have:=(List.getElem?_eq_some_iff.1 ha).1; simpa [flatZ] using this
 have hz:0 < zs.length:=hk (by omega)
 have hm:i % zs.length < zs.length:=Nat.mod_lt _ hz
 simp only [flatZ,List.getElem?_map,List.getElem?_range hi,Option.map_some,Option.some.injEq] at ha
 obtain ⟨v,hv,hd⟩:=h.get (List.getElem?_eq_getElem hm)
 refine ⟨v,?_,?_⟩
 ·simp only [Array.toList_map,List.getElem?_map,Array.toList_range,List.getElem?_range hi,Option.map_some,Option.some.injEq]
  rw [<- hl]
  have hm2:i % zs.length < z.size:=by omega
  rw [Array.getElem?_toList] at hv
  rw [getElem!_pos z _ hm2]
  rw [Array.getElem?_eq_getElem hm2] at hv
  exact Option.some.inj hv
 ·rw [<- ha]
  simpa [List.getD,List.getElem?_eq_getElem hm] using hd
theorem chunks_els {m:Map} {n:Nat} {zv:AV} {size len:Nat} {res:List AV} (hz:okCells zv size = true) (h1:res.all AV.one = true) (hl:res.length = len * size) {r:Array Value} (hd:DenL m n res r.toList) (ty:Nat) :
  ElsOK m n (.lst ty size (chunks zv size len res)) size (fun k => r[k]?):=by
 simp only [okCells,Bool.and_eq_true] at hz
 obtain ⟨z1,z2,z3⟩:=hz
 have z2':=Nat.eq_of_beq_eq_true z2
 intro i e he
 simp only [Row.get?] at he
 have hi:i < len:=by have:=(List.getElem?_eq_some_iff.1 he).1; simpa [chunks] using this
 simp only [chunks,List.getElem?_map,List.getElem?_range hi,Option.map_some,Option.some.injEq] at he
 subst he
 have hmul:(i + 1) * size <= len * size:=Nat.mul_le_mul_right _ hi
 rw [Nat.add_mul] at hmul
 have hcl:((res.drop (i * size)).take size).length = size:=by simp; omega
 have hcells:(mkEl zv ((res.drop (i * size)).take size)).cells = (res.drop (i * size)).take size:=by
  refine mkEl_cells (by rw [hcl,z2']) (fun a ha => ?_) (fun o a ha => List.all_eq_true.1 z3 a (List.mem_of_getElem? ha))
  exact List.all_eq_true.1 h1 a (List.mem_of_mem_drop (List.mem_of_mem_take ha))
 rw [hcells]
 refine ⟨hcl,fun o a ha => ?_⟩
 have ho:o < size:=by have:=(List.getElem?_eq_some_iff.1 ha).1; omega
 rw [List.getElem?_take_of_lt ho,List.getElem?_drop] at ha
 obtain ⟨v,hv,hdv⟩:=hd.get ha
 exact ⟨List.all_eq_true.1 h1 a (List.mem_of_getElem? ha),v,by simpa using hv,hdv⟩
theorem abuildSlice_ok {T:TypeId -> Option TI} {P:Program} (hT:TabOK P T) {R:Nat -> RoRow} {m:Map} {h:Rows} {w:World} (hW:WR R m h w) (t:TypeId) (len:Nat) (parts:List (Nat × AV)) (ps:Array (Nat × Value))
  (h1:ps.toList.map (·.1) = parts.map (·.1)) (h2:DenL m h.length (parts.map (·.2)) (ps.toList.map (·.2))) :
  (abuildSlice T h t len parts).run R m h P w (do pure (.value (<- Instr.buildSlice t len ps))):=by
 unfold abuildSlice
 cases hti:T t with
 | none => trivial
 | some ti =>
  simp only []
  split
  case h_2 => trivial
  rename_i e hkd
  cases hte:T e with
  | none => trivial
  | some te =>
   simp only []
   split
   case isFalse => trivial
   rename_i hc
   simp only [Bool.and_eq_true] at hc
   obtain ⟨hbig,hbl,hz⟩:=hc
   have hbl':=Nat.le_of_ble_eq_true hbl
   split
   case h_2 => trivial
   rename_i res hres
   split
   case isFalse => trivial
   rename_i hone
   intro _
   obtain ⟨d,hr,hu,hk⟩:=(hT _ _ hti).run_underlying w
   rw [hkd] at hk; simp only [KdOK] at hk; subst hk
   obtain ⟨z,hzr,hzd⟩:=(hT _ _ hte).run_zero w
   have hzc:=Den.cells (hT _ _ hte).zk (hzd m h.length)
   have hzl:te.zv.cells.length = te.size:=by
    simp only [okCells,Bool.and_eq_true] at hz
    exact Nat.eq_of_beq_eq_true hz.2.1
   have hbig':¬ (len * te.size > 2 ^ 24):=by
    have:=Nat.le_of_ble_eq_true hbig
    omega
   have hpos:0 < len * te.size -> 0 < te.zv.cells.length:=by
    intro h0
    rw [hzl]
    rcases Nat.eq_zero_or_pos te.size with h | h
    ·rw [h] at h0; omega
    ·exact h
   have hlr:res.length = len * te.size:=by rw [afill_length hres,flatZ_length]
   obtain ⟨r,hrun,hd⟩:∃ r:Array Value,(do pure (.value (<- Instr.buildSlice t len ps)):Sem Next).run P w = .ok (.value (.slice (some ⟨w.heap.size,0,none⟩) len len)) (w.alloc (.cells r e)) /\ DenL m h.length res r.toList:=by
    by_cases h0:len * te.size = 0
    ·have hden:DenL m h.length (flatZ te.zv.cells (len * te.size)) ((Array.range (len * te.size)).map (fun i => (#[]:Array Value)[i % (#[]:Array Value).size]!)).toList:=by
      rw [h0]; simp [flatZ,DenL]
     obtain ⟨r,hfr,hd⟩:=fill_ok (fun i => some (i * te.size,te.size)) parts ps.toList _ res _ hden h1 h2 hres
     refine ⟨r,?_,hd⟩
     simp only [Instr.buildSlice,Sem.run_bind,hr,Result.andThen_ok,(hT _ _ hte).run_sizeOf w]
     rw [if_neg hbig',if_pos h0]
     simp only [Sem.run_bind,Sem.run_pure,Result.andThen_ok,hfr]
     simp [newRow,newObj,pure,Sem.run]
    ·obtain ⟨r,hfr,hd⟩:=fill_ok (fun i => some (i * te.size,te.size)) parts ps.toList _ res _ (flatZ_den hzc _ hpos) h1 h2 hres
     refine ⟨r,?_,hd⟩
     simp only [Instr.buildSlice,Sem.run_bind,hr,Result.andThen_ok,(hT _ _ hte).run_sizeOf w]
     rw [if_neg hbig',if_neg h0]
     simp only [Sem.run_bind,Sem.run_pure,Result.andThen_ok,hzr,hfr]
     simp [newRow,newObj,pure,Sem.run]
   have hrs:r.size = len * te.size:=by
    have:=hd.length
    simp at this; omega
   obtain ⟨vW,vS⟩:=hW.push (w':=w.alloc (.cells r e)) (.lst e te.size (chunks te.zv te.size len res)) r (0,0) len rfl rfl rfl rfl (by simp [Row.len,chunks]) (by simp [Row.esz,hrs]) (FzOff.zero _ _ _ _) (chunks_els hz hone hlr hd e)
   refine ⟨.value (.slice (some ⟨w.heap.size,0,none⟩) len len),.slice (some ⟨w.heap.size,0,none⟩) len len,_,_,?_,rfl,?_,vW,vS⟩
   ·exact hrun
   ·simp only [Den]
    refine ⟨fun _ => by simp,?_⟩
    simp only [Map.loc,Bool.false_eq_true,if_false,Map.setMu_same,SlDen]
    have hml:len <= maxLen:=by unfold maxLen; omega
    exact ⟨_,len,rfl,Nat.le_refl _,hml,rfl,fun _ => ⟨by simp,by simp⟩⟩
def amakeSlice (T:TypeId -> Option TI) (h:Rows) (t:TypeId) (l c:AV):WQ :=
 match T t,l,c with
 | some ti,.int _ l,.int _ c => match ti.kd with
  | .slice e => match T e with
   | some te => if okCells te.zv te.size && (Nat.blt 0 te.bytes && Nat.blt 0 te.size) then
     .ok (decide (0 <= l) && (decide (l <= c) && decide (c * te.bytes <= 140737488355328))) (.sl false h.length 0 l.toNat (bif l == c then .tight else .room (c.toNat - l.toNat))) (h ++ [some (.gen e te.size l.toNat fun _ => te.zv)])
    else .no
   | none => .no
  | _ => .no
 | _,_,_ => .no
theorem amakeSlice_ok {T:TypeId -> Option TI} {P:Program} (hT:TabOK P T) {R:Nat -> RoRow} {m:Map} {h:Rows} {w:World} (hW:WR R m h w) (t:TypeId) (l c:AV) (ul uc:Value) (hl:Den m h.length l ul) (hc:Den m h.length c uc) :
  (amakeSlice T h t l c).run R m h P w (do pure (.value (<- Instr.makeSlice t ul uc))):=by
 unfold amakeSlice
 split
 case h_2 => trivial
 rename_i ti _ _ _ k l k' c hti
 split
 case h_2 => trivial
 rename_i e hkd
 cases hte:T e with
 | none => trivial
 | some te =>
  simp only []
  split
  case isFalse => trivial
  rename_i hcond
  simp only [Bool.and_eq_true] at hcond
  obtain ⟨hz,hby,hsz⟩:=hcond
  intro hcc
  simp only [Bool.and_eq_true,decide_eq_true_eq] at hcc
  obtain ⟨c1,c2,c3⟩:=hcc
  simp only [Den] at hl hc
  subst hl hc
  obtain ⟨d,hr,hu,hk⟩:=(hT _ _ hti).run_underlying w
  rw [hkd] at hk; simp only [KdOK] at hk; subst hk
  obtain ⟨z,hzr,hzd⟩:=(hT _ _ hte).run_zero w
  obtain ⟨ie,hie,hieb,hies⟩:=(hT _ _ hte).run_typeInfo w
  have hby':0 < te.bytes:=by simpa [Nat.blt_eq] using hby
  have hsz':0 < te.size:=by simpa [Nat.blt_eq] using hsz
  have hcb:c <= 140737488355328:=by
   have h1:c * 1 <= c * te.bytes:=Int.mul_le_mul_of_nonneg_left (by omega) (by omega)
   omega
  have hzc:=Den.cells (hT _ _ hte).zk (hzd m h.length)
  obtain ⟨q1,q2,q3,q4,q5⟩:=okCells_spec hz (hzd m h.length)
  have hden:=flatZ_den hzc (c.toNat * te.size) (fun _ => by omega)
  have hel:ElsOK m h.length (.gen e te.size l.toNat fun _ => te.zv) te.size (fun k => ((Array.range (c.toNat * te.size)).map (fun i => z.cells[i % z.cells.size]!))[k]?):=by
   intro i x hx
   simp only [Row.get?] at hx
   cases hb:Nat.blt i l.toNat with
   | false => rw [hb] at hx; simp at hx
   | true =>
    rw [hb] at hx
    simp only [cond_true,Option.some.injEq] at hx
    subst hx
    refine ⟨q3,fun o a ha => ?_⟩
    have ho:o < te.size:=by have:=(List.getElem?_eq_some_iff.1 ha).1; omega
    have hi:i < l.toNat:=by simpa [Nat.blt_eq] using hb
    have hmul:(i + 1) * te.size <= c.toNat * te.size:=Nat.mul_le_mul_right _ (by omega)
    rw [Nat.add_mul] at hmul
    have hk:i * te.size + o < c.toNat * te.size:=by omega
    obtain ⟨g1,y,g2,g3⟩:=q4 o a ha
    have hmod:(i * te.size + o) % te.zv.cells.length = o:=by
     rw [q3,Nat.mul_comm,Nat.mul_add_mod,Nat.mod_eq_of_lt ho]
    have hget:(flatZ te.zv.cells (c.toNat * te.size))[i * te.size + o]? = some a:=by
     simp only [flatZ,List.getElem?_map,List.getElem?_range hk,Option.map_some,hmod,List.getD,ha,Option.getD_some]
    obtain ⟨v,hv,hd⟩:=hden.get hget
    exact ⟨g1,v,by rw [Array.getElem?_toList] at hv; exact hv,hd⟩
  obtain ⟨vW,vS⟩:=hW.push (w':=w.alloc (.cells ((Array.range (c.toNat * te.size)).map (fun i => z.cells[i % z.cells.size]!)) e)) (.gen e te.size l.toNat fun _ => te.zv) _ (0,0) c.toNat rfl rfl rfl rfl (by simp [Row.len]; omega) (by simp [Row.esz]) (FzOff.zero _ _ _ _) hel
  refine ⟨.value (.slice (some ⟨w.heap.size,0,none⟩) l.toNat c.toNat),.slice (some ⟨w.heap.size,0,none⟩) l.toNat c.toNat,_,_,?_,rfl,?_,vW,vS⟩
  ·obtain ⟨ie2,hie2,hie2s,hie2b,ze,hze,hzed⟩:=(hT _ _ hte).info
   have hzz:ze = z:=by
    have:(zeroValue e).run P w = .ok ze w:=by simp [zeroValue,typeInfo,program,Sem.run,hie2,pure,hze]
    rw [hzr] at this
    injection this with h1
    exact h1.symm
   have hrun:=run_make (P:=P) w t e ie2 ze hu hie2 hze k k' l c c1 c2 (by rw [hie2b,Int.mul_comm]; omega) (by omega)
   simp only [Sem.run_bind,hrun,Result.andThen_ok,hie2s,hzz]
   rfl
  ·simp only [Den]
   refine ⟨fun _ => by simp,?_⟩
   simp only [Map.loc,Bool.false_eq_true,if_false,Map.setMu_same,SlDen]
   refine ⟨_,c.toNat,rfl,by omega,by unfold maxLen; omega,?_,fun _ => ⟨by simp,by simp⟩⟩
   cases hf:(l == c) with
   | true =>
    have:l = c:=by simpa using hf
    subst this
    exact rfl
   | false =>
    simp only [cond_false,CpOK]
    omega
end Go.Dc
end
section
namespace Go.Dc
def Row.at_:Row -> Nat -> AV
 | .lst _ _ l,j => l.getD j .any
 | .gen _ _ _ f,j => f j
 | .byt _ l,j => .int .u8 (l.getD j 0).toNat
theorem Row.get_iff {r:Row} {j:Nat} {e:AV}:r.get? j = some e ↔ j < r.len /\ e = r.at_ j:=by
 cases r with
 | lst t z l =>
  simp only [Row.get?,Row.len,Row.at_]
  constructor
  ·intro h
   have hj:=(List.getElem?_eq_some_iff.1 h).1
   exact ⟨hj,by simp [List.getD,h]⟩
  ·rintro ⟨hj,rfl⟩
   simp [List.getD,List.getElem?_eq_getElem hj]
 | gen t z n f =>
  simp only [Row.get?,Row.len,Row.at_]
  cases hb:Nat.blt j n with
  | false => simp; intro h; rw [<- Nat.blt_eq] at h; rw [h] at hb; exact absurd hb (by simp)
  | true => simp only [Nat.blt_eq] at hb; simp [hb,eq_comm]
 | byt t l =>
  simp only [Row.get?,Row.len,Row.at_]
  constructor
  ·intro h
   obtain ⟨c,hc,rfl⟩:=Option.map_eq_some_iff.1 h
   exact ⟨(List.getElem?_eq_some_iff.1 hc).1,by simp [List.getD,hc]⟩
  ·rintro ⟨hj,rfl⟩
   simp [List.getD,List.getElem?_eq_getElem hj]
def overlay (r:Row) (i n:Nat) (s:Src):Row :=
 match r,s with
 | .lst ty z l,.lst x => .lst ty z (l.take i ++ (x.take n ++ l.drop (i + n)))
 | .byt ty l,.byt x => .byt ty (l.take i ++ (x.take n ++ l.drop (i + n)))
 | r,s => .gen r.ty r.esz r.len fun j => bif Nat.ble i j && Nat.blt j (i + n) then s.at_ (j - i) else r.at_ j
theorem overlay_ty (r:Row) (i n:Nat) (s:Src):(overlay r i n s).ty = r.ty:=by unfold overlay; split <;> rfl
theorem overlay_esz (r:Row) (i n:Nat) (s:Src):(overlay r i n s).esz = r.esz:=by unfold overlay; split <;> rfl
theorem overlay_len (r:Row) (i n:Nat) (s:Src) (h1:i + n <= r.len) (h2:n <= s.len):(overlay r i n s).len = r.len:=by
 unfold overlay
 split
 ·simp only [Row.len,Src.len] at *; simp; omega
 ·simp only [Row.len,Src.len] at *; simp; omega
 ·rfl
theorem list_overlay {α:Type} (l x:List α) (i n j:Nat) (d:α) (h1:i + n <= l.length) (h2:n <= x.length) (hj:j < l.length) :
  (l.take i ++ (x.take n ++ l.drop (i + n))).getD j d = if i <= j /\ j < i + n then x.getD (j - i) d else l.getD j d:=by
 simp only [List.getD]
 congr 1
 by_cases h3:j < i
 ·rw [if_neg (by omega),List.getElem?_append_left (by simp; omega),List.getElem?_take_of_lt h3]
 ·rw [List.getElem?_append_right (by simp; omega)]
  have e:(l.take i).length = i:=by simp; omega
  rw [e]
  have e2:(x.take n).length = n:=by rw [List.length_take]; omega
  by_cases h4:j < i + n
  ·rw [if_pos (by omega),List.getElem?_append_left (by omega),List.getElem?_take_of_lt (by omega)]
  ·rw [if_neg (by omega),List.getElem?_append_right (by omega),List.getElem?_drop,e2]
   have e3:i + n + (j - i - n) = j:=by omega
   rw [e3]
theorem overlay_get {r:Row} {i n:Nat} {s:Src} (h1:i + n <= r.len) (h2:n <= s.len) {j:Nat} {e:AV} (h:(overlay r i n s).get? j = some e) :
  j < r.len /\ e = if i <= j /\ j < i + n then s.at_ (j - i) else r.at_ j:=by
 rw [Row.get_iff,overlay_len r i n s h1 h2] at h
 obtain ⟨hj,rfl⟩:=h
 refine ⟨hj,?_⟩
 unfold overlay
 split
 ·simp only [Row.at_,Src.at_,Row.len,Src.len] at *
  exact list_overlay _ _ _ _ _ _ h1 h2 hj
 ·simp only [Row.at_,Src.at_,Row.len,Src.len] at *
  rw [list_overlay _ _ _ _ _ _ h1 h2 hj]
  split <;> rfl
 ·simp only [Row.at_]
  by_cases hc:i <= j /\ j < i + n
  ·rw [if_pos hc]
   have:(Nat.ble i j && Nat.blt j (i + n)) = true:=by simp [Nat.ble_eq,Nat.blt_eq,hc]
   rw [this]; rfl
  ·rw [if_neg hc]
   have:(Nat.ble i j && Nat.blt j (i + n)) = false:=by
    rw [Bool.eq_false_iff]
    intro hh
    simp only [Bool.and_eq_true,Nat.ble_eq,Nat.blt_eq] at hh
    exact hc hh
   rw [this]; rfl
theorem WR.setVir {R:Nat -> RoRow} {m:Map} {h:Rows} {w:World} (hW:WR R m h w) {b:Nat} {r:Row} (hl:h.live b = some r) (hv:(m.mu b).vir = true) (r':Row) (he:r'.esz = r.esz) (h0:r'.len = 0) :
  WR R m (h.set b (some r')) w /\ Step m h w m (h.set b (some r')) w:=by
 have hb:=live_lt hl
 have hlive:∀ c r1,Rows.live (h.set b (some r')) c = some r1 -> (c = b /\ r1 = r') \/ (c ≠ b /\ h.live c = some r1):=by
  intro c r1 hc
  rw [live_set hb] at hc
  split at hc
  ·rename_i e; simp at hc; exact .inl ⟨e,hc.symm⟩
  ·rename_i e; exact .inr ⟨e,hc⟩
 refine ⟨{ row:=?_,apart:=?_,ro:=hW.ro,roApart:=?_ },{ os:=rfl,tape:=rfl,output:=rfl,size:=Nat.le_refl _,block:=fun _ _ _ => rfl,len:=by simp,mu:=fun _ _ => rfl,ro:=rfl,new:=?_ }⟩
 ·intro d r1 hd
  rw [List.length_set]
  rcases hlive d r1 hd with ⟨rfl,rfl⟩ | ⟨hne,hl'⟩
  ·have hrow:=hW.row d r hl
   unfold RowOK at hrow ⊢
   rw [hv] at hrow ⊢
   simp only [if_true] at hrow ⊢
   exact ⟨by rw [he]; exact hrow.1,by omega,h0,hrow.2.2.2⟩
  ·exact hW.row d r1 hl'
 ·intro d d' r1 r2 hd hd' hv1 hv2 hbe
  rcases hlive d r1 hd with ⟨rfl,rfl⟩ | ⟨hne,hl'⟩
  ·rw [hv] at hv1; exact absurd hv1 (by simp)
  ·rcases hlive d' r2 hd' with ⟨rfl,rfl⟩ | ⟨hne',hl''⟩
   ·rw [hv] at hv2; exact absurd hv2 (by simp)
   ·exact hW.apart _ _ _ _ hl' hl'' hv1 hv2 hbe
 ·intro i d r1 hd hv1 hv2 hn
  rcases hlive d r1 hd with ⟨rfl,rfl⟩ | ⟨hne,hl'⟩
  ·rw [hv] at hv1; exact absurd hv1 (by simp)
  ·exact hW.roApart i _ _ hl' hv1 hv2 hn
 ·intro d r1 hd hv1
  rcases hlive d r1 hd with ⟨rfl,rfl⟩ | ⟨hne,hl'⟩
  ·rw [hv] at hv1; exact absurd hv1 (by simp)
  ·exact .inr ⟨d,r1,hl',hv1,rfl⟩
theorem WR.overlay {P:Program} {R:Nat -> RoRow} {m:Map} {h:Rows} {w:World} (hW:WR R m h w) {b:Nat} {r:Row} (hl:h.live b = some r) (i n:Nat) (s:Src) (h1:i + n <= r.len) (h2:n <= s.len) {news:List Value}
  (hn:news.length = n * (m.mu b).esz) (hs:∀ j,j < n -> (s.at_ j).cells.length = (m.mu b).esz /\ ∀ (o:Nat) (a:AV),(s.at_ j).cells[o]? = some a -> a.one = true /\ ∃ v,news[j * (m.mu b).esz + o]? = some v /\ Den m h.length a v) (hone:∀ v ∈ news,v.oneCell' = true)
  (base:Option Addr) (hbase:(m.mu b).vir = false -> 0 < n -> base = some ⟨(m.mu b).blk,(m.mu b).shift + i * (m.mu b).esz,none⟩) :
  ∃ w',(match base with | some a => (storeCells a news).run P w | none => .ok () w) = .ok () w' /\ WR R m (h.set b (some (Dc.overlay r i n s))) w' /\ Step m h w m (h.set b (some (Dc.overlay r i n s))) w':=by
 have hempty:n = 0 -> (match base with | some a => (storeCells a news).run P w | none => .ok () w) = .ok () w:=by
  intro h0
  have:news = []:=by
   have:news.length = 0:=by rw [hn,h0]; simp
   exact List.length_eq_zero_iff.1 this
  subst this
  cases base <;> simp [storeCells,pure,Sem.run]
 cases hv:(m.mu b).vir with
 | true =>
  have hrow:=hW.row b r hl
  unfold RowOK at hrow
  rw [hv] at hrow
  simp only [if_true] at hrow
  have h0:n = 0:=by omega
  obtain ⟨a1,a2⟩:=hW.setVir hl hv (Dc.overlay r i n s) (overlay_esz _ _ _ _) (by rw [overlay_len _ _ _ _ h1 h2]; omega)
  exact ⟨w,hempty h0,a1,a2⟩
 | false =>
  obtain ⟨c,fz,g1,g2,g3,g4⟩:=(hW.row b r hl).els hv
  have hesz:=(hW.row b r hl).1
  have hlen:=(hW.row b r hl).2.1
  have hm1:(i + n) * (m.mu b).esz <= (m.mu b).ext * (m.mu b).esz:=Nat.mul_le_mul_right _ (by omega)
  rw [Nat.add_mul] at hm1
  obtain ⟨w',hst,hov⟩:∃ w',(match base with | some a => (storeCells a news).run P w | none => .ok () w) = .ok () w' /\ Over w w' (m.mu b).blk ((m.mu b).shift + i * (m.mu b).esz) news:=by
   by_cases h0:n = 0
   ·have hne:news = []:=by
     have:news.length = 0:=by rw [hn,h0]; simp
     exact List.length_eq_zero_iff.1 this
    refine ⟨w,hempty h0,rfl,rfl,rfl,rfl,fun _ _ => rfl,fun c t fz hc => ⟨c,hc,rfl,fun k => ?_⟩⟩
    rw [if_neg (by rw [hne]; simp <;> omega)]
   ·rw [hbase hv (by omega)]
    have haddr:∀ j,(⟨(m.mu b).blk,(m.mu b).shift + i * (m.mu b).esz,none⟩:Addr).add j = ⟨(m.mu b).blk,(m.mu b).shift + i * (m.mu b).esz + j,none⟩:=by
     intro j
     unfold Addr.add
     split
     ·rename_i h0; subst h0; rfl
     ·rfl
    exact run_storeCells_over (P:=P) (m.mu b).blk r.ty fz _ news 0 _ c w g1 (by rw [haddr]; simp) (fun j => by rw [haddr]; simp) (by rw [hn]; omega) (fun k q1 q2 => g3.1 k (by omega) (by rw [hn] at q2; omega)) hone
  obtain ⟨c',p1,p2,p3⟩:=hov.blk _ _ _ g1
  obtain ⟨mW,mS⟩:=hW.update hl hv (Dc.overlay r i n s) c' fz hov.os hov.tape hov.output hov.size hov.other (by rw [p1,overlay_ty]) (by rw [overlay_esz,hesz]) (by rw [overlay_len _ _ _ _ h1 h2]; exact hlen) (by omega) (by rw [p2]; exact g3) (by
   intro j e he
   obtain ⟨hj,rfl⟩:=overlay_get h1 h2 he
   split
   ·rename_i hc
    obtain ⟨a1,a2⟩:=hs (j - i) (by omega)
    refine ⟨a1,fun o a ha => ?_⟩
    obtain ⟨b1,v,b2,b3⟩:=a2 o a ha
    have ho:o < (m.mu b).esz:=by have:=(List.getElem?_eq_some_iff.1 ha).1; omega
    have hmul:j * (m.mu b).esz = i * (m.mu b).esz + (j - i) * (m.mu b).esz:=by rw [<- Nat.add_mul]; congr 1; omega
    have hlt:(j - i) * (m.mu b).esz + o < news.length:=(List.getElem?_eq_some_iff.1 b2).1
    refine ⟨b1,v,?_,b3⟩
    show c'[(m.mu b).shift + (j * (m.mu b).esz + o)]? = some v
    rw [p3,if_pos (by omega),<- b2]
    congr 1; omega
   ·rename_i hc
    obtain ⟨a1,a2⟩:=g4 j (r.at_ j) (Row.get_iff.2 ⟨hj,rfl⟩)
    refine ⟨a1,fun o a ha => ?_⟩
    obtain ⟨b1,v,b2,b3⟩:=a2 o a ha
    have ho:o < (m.mu b).esz:=by have:=(List.getElem?_eq_some_iff.1 ha).1; omega
    refine ⟨b1,v,?_,b3⟩
    show c'[(m.mu b).shift + (j * (m.mu b).esz + o)]? = some v
    rw [p3,if_neg ?_]
    ·exact b2
    ·rw [hn]
     rcases Nat.lt_or_ge j i with hlt | hge
     ·have:(j + 1) * (m.mu b).esz <= i * (m.mu b).esz:=Nat.mul_le_mul_right _ hlt
      rw [Nat.add_mul] at this; omega
     ·have:(i + n) * (m.mu b).esz <= j * (m.mu b).esz:=Nat.mul_le_mul_right _ (by omega)
      rw [Nat.add_mul] at this; omega)
  exact ⟨w',hst,mW,mS⟩
theorem WR.beyond {P:Program} {R:Nat -> RoRow} {m:Map} {h:Rows} {w:World} (hW:WR R m h w) {b:Nat} {r:Row} (hl:h.live b = some r) (hv:(m.mu b).vir = false) (i n:Nat) (h1:r.len <= i) (h2:i + n <= (m.mu b).ext) {news:List Value}
  (hn:news.length = n * (m.mu b).esz) (hone:∀ v ∈ news,v.oneCell' = true) :
  ∃ w',(storeCells ⟨(m.mu b).blk,(m.mu b).shift + i * (m.mu b).esz,none⟩ news).run P w = .ok () w' /\ WR R m (h.set b (some r)) w' /\ Step m h w m (h.set b (some r)) w':=by
 obtain ⟨c,fz,g1,g2,g3,g4⟩:=(hW.row b r hl).els hv
 have hesz:=(hW.row b r hl).1
 have hlen:=(hW.row b r hl).2.1
 have hm1:(i + n) * (m.mu b).esz <= (m.mu b).ext * (m.mu b).esz:=Nat.mul_le_mul_right _ h2
 rw [Nat.add_mul] at hm1
 have haddr:∀ j,(⟨(m.mu b).blk,(m.mu b).shift + i * (m.mu b).esz,none⟩:Addr).add j = ⟨(m.mu b).blk,(m.mu b).shift + i * (m.mu b).esz + j,none⟩:=by
  intro j
  unfold Addr.add
  split
  ·rename_i h0; subst h0; rfl
  ·rfl
 obtain ⟨w',hst,hov⟩:=run_storeCells_over (P:=P) (m.mu b).blk r.ty fz _ news 0 ((m.mu b).shift + i * (m.mu b).esz) c w g1 (by rw [haddr]; rfl) (fun j => by rw [haddr,Nat.zero_add]) (by rw [hn]; omega) (fun k q1 q2 => g3.1 k (by omega) (by rw [hn] at q2; omega)) hone
 obtain ⟨c',p1,p2,p3⟩:=hov.blk _ _ _ g1
 obtain ⟨mW,mS⟩:=hW.update hl hv r c' fz hov.os hov.tape hov.output hov.size hov.other p1 hesz.symm hlen (by omega) (by rw [p2]; exact g3) (by
  intro j e he
  obtain ⟨a1,a2⟩:=g4 j e he
  have hj:j < r.len:=(Row.get_iff.1 he).1
  refine ⟨a1,fun o a ha => ?_⟩
  obtain ⟨b1,v,b2,b3⟩:=a2 o a ha
  have ho:o < (m.mu b).esz:=by have:=(List.getElem?_eq_some_iff.1 ha).1; omega
  have hk:(j + 1) * (m.mu b).esz <= i * (m.mu b).esz:=Nat.mul_le_mul_right _ (by omega)
  rw [Nat.add_mul] at hk
  refine ⟨b1,v,?_,b3⟩
  show c'[(m.mu b).shift + (j * (m.mu b).esz + o)]? = some v
  rw [p3,if_neg (by omega)]
  exact b2)
 exact ⟨w',hst,mW,mS⟩
end Go.Dc
end
section
namespace Go.Dc
def acopy (T:TypeId -> Option TI) (R:Nat -> RoRow) (h:Rows) (t:TypeId) (dst x:AV):WQ :=
 match T t with
 | none => .no
 | some ti => match ti.kd with
  | .slice e => match T e with
   | none => .no
   | some te =>
    if srcFits R h te x then
     match dst,srcOf R h x with
     | .sl false b i len full,some (c,s) =>
      if eszOf R h false b = some te.size then
       match h.live b with
       | some r => .ok (c && decide (i + Nat.min s.len len <= r.len)) (.int .i64 (Nat.min s.len len:Nat)) (h.set b (some (overlay r i (Nat.min s.len len) s)))
       | none => .no
      else .no
     | .nils,some (c,s) => .ok c (.int .i64 0) h
     | _,_ => .no
    else .no
  | _ => .no
theorem fits_spec {R:Nat -> RoRow} {h:Rows} {te:TI} {y:AV} {c:Bool} {q:Src} (hf:srcFits R h te y = true) (hq:srcOf R h y = some (c,q)):(∃ z,eszOfAV R h y = some z /\ z = te.size) \/ y = .nils \/ (te.size = 1 /\ ∃ l,y = .str l):=by
 unfold srcFits at hf
 split at hf
 ·exact .inr (.inl rfl)
 ·split at hf
  ·exact .inr (.inr ⟨Nat.eq_of_beq_eq_true hf,_,rfl⟩)
  ·exact absurd hf (by simp)
 ·cases hz:eszOfAV R h y with
  | none => rw [hz] at hf; simp at hf
  | some z => rw [hz] at hf; exact .inl ⟨z,rfl,Nat.eq_of_beq_eq_true hf⟩
theorem acopy_ok {T : TypeId → Option TI} {P : Program} (hT : TabOK P T) {R : Nat → RoRow} {m : Map} {h : Rows} {w : World} (hW : WR R m h w) (t ty : TypeId) (ts : List TypeId) (dst x : AV) (u v : Value) (us : List Value)
    (hd : Den m h.length dst u) (hx : Den m h.length x v) :
    (acopy T R h t dst x).run R m h P w (do pure (.value (← Builtin.copy_ (t :: ts).toArray ty (u :: v :: us).toArray))) := by
  unfold acopy
  cases hti : T t with
  | none => trivial
  | some ti =>
    simp only []
    split
    case h_2 => trivial
    rename_i e hkd
    cases hte : T e with
    | none => trivial
    | some te =>
      simp only []
      split
      case isFalse => trivial
      rename_i hfit
      obtain ⟨d, hr, hu, hk⟩ := (hT _ _ hti).run_underlying w
      rw [hkd] at hk; simp only [KdOK] at hk; subst hk
      have hzr := (hT _ _ hte).run_sizeOf w
      split
      · rename_i b i len full c s hs
        split
        case isFalse => trivial
        rename_i hez
        cases hl : h.live b with
        | none => trivial
        | some r =>
          intro hc
          simp only [Bool.and_eq_true, decide_eq_true_eq] at hc
          obtain ⟨rfl, hin⟩ := hc
          obtain ⟨news, n1, n2, n3, n4, n5⟩ := src_vals_n (P := P) hW hx hs (fits_spec hfit hs)
          have hesz := eszOf_spec hW hez
          simp only [Map.loc, Bool.false_eq_true, if_false] at hesz
          simp only [Den] at hd
          obtain ⟨hb, hsl⟩ := hd
          have hbase : ∃ base cap, u = .slice base len cap ∧ ((m.mu b).vir = false → 0 < len → base = some ⟨(m.mu b).blk, (m.mu b).shift + i * (m.mu b).esz, none⟩) := by
            unfold SlDen at hsl
            simp only [Map.loc, Bool.false_eq_true, if_false] at hsl
            split at hsl
            · rename_i hv
              obtain ⟨rfl, ao, rfl, _⟩ := hsl
              exact ⟨ao, 0, rfl, fun hv' => by rw [hv] at hv'; exact absurd hv' (by simp)⟩
            · obtain ⟨ad, cap, rfl, h1, h2, h3, h4⟩ := hsl
              exact ⟨some ad, cap, rfl, fun _ hp => by rw [(h4 (by omega)).1]⟩
          obtain ⟨base, cap, rfl, hbs⟩ := hbase
          have hmin1 : Nat.min s.len len ≤ s.len := Nat.min_le_left _ _
          have hmin2 : Nat.min s.len len ≤ len := Nat.min_le_right _ _
          have hmul : Nat.min s.len len * te.size ≤ s.len * te.size := Nat.mul_le_mul_right _ hmin1
          obtain ⟨w', hst, mW, mS⟩ := hW.overlay (P := P) hl i (Nat.min s.len len) s hin hmin1 (news := news.take (Nat.min s.len len * te.size)) (by rw [List.length_take, n1, hesz]; exact Nat.min_eq_left hmul)
            (by
              intro j hj
              rw [hesz]
              obtain ⟨a1, a2⟩ := n4 j (by omega)
              refine ⟨a1, fun o a ha => ?_⟩
              obtain ⟨b1, vv, b2, b3⟩ := a2 o a ha
              have ho : o < te.size := by have := (List.getElem?_eq_some_iff.1 ha).1; omega
              have hk : (j + 1) * te.size ≤ Nat.min s.len len * te.size := Nat.mul_le_mul_right _ hj
              rw [Nat.add_mul] at hk
              exact ⟨b1, vv, by rw [List.getElem?_take_of_lt (by omega)]; exact b2, b3⟩)
            (fun vv hv => n5 vv (List.mem_of_mem_take hv)) base (fun hv hp => hbs hv (by omega))
          refine ⟨.value (.int .i64 (Nat.min s.len len : Nat)), _, w', m, ?_, rfl, by simp only [Den], mW, mS⟩
          have hn := n3 (Nat.min s.len len) w hmin1 rfl
          have hgen : (Builtin.copy_ (t :: ts).toArray ty (.slice base len cap :: v :: us).toArray).run P w = .ok (.int .i64 (Nat.min s.len len : Nat)) w' := by
            cases base with
            | none => simp only [Builtin.copy_, List.getElem?_toArray, List.getElem?_cons_zero, List.getElem?_cons_succ, Sem.run_bind, hr, Result.andThen_ok, n2, hzr, hn]
                      simp only [Result.ok.injEq, true_and] at hst
                      subst hst
                      simp [goInt, pure, Sem.run]
            | some a => simp only [Builtin.copy_, List.getElem?_toArray, List.getElem?_cons_zero, List.getElem?_cons_succ, Sem.run_bind, hr, Result.andThen_ok, n2, hzr, hn]
                        simp only [] at hst
                        simp only [hst, Result.andThen_ok]
                        simp [goInt, pure, Sem.run]
          simp only [Sem.run_bind, hgen, Result.andThen_ok]
          rfl
      · rename_i c s hs
        intro hc
        subst hc
        obtain ⟨news, n1, n2, n3, n4, n5⟩ := src_vals_n (P := P) hW hx hs (fits_spec hfit hs)
        simp only [Den] at hd
        subst hd
        have hn := n3 0 w (Nat.zero_le _) rfl
        refine ⟨.value (.int .i64 0), _, w, m, ?_, rfl, by simp only [Den], hW, Step.refl _ _ _⟩
        have hm0 : Nat.min s.len 0 = 0 := Nat.min_zero _
        simp only [Builtin.copy_, List.getElem?_toArray, List.getElem?_cons_zero, List.getElem?_cons_succ, Sem.run_bind, hr, Result.andThen_ok, n2, hzr, hm0, hn]
        simp [goInt, pure, Sem.run]
      · trivial
def clearRow (r:Row) (i len:Nat) (zv:AV):Row:=match r with
 | .gen t z n f => .gen t z n fun j => bif Nat.ble (i + len) n && (Nat.ble i j && Nat.blt j (i + len)) then (Src.lst (List.replicate len zv)).at_ (j - i) else f j
 | r => bif Nat.ble (i + len) r.len then overlay r i len (.lst (List.replicate len zv)) else r
theorem clearRow_t {r:Row} {i len:Nat} {zv:AV} (h:Nat.ble (i + len) r.len = true):clearRow r i len zv = overlay r i len (.lst (List.replicate len zv)):=by
 cases r with
 | gen t z n f =>
  have h:Nat.ble (i + len) n = true:=h
  unfold clearRow overlay
  simp only [h,Bool.true_and]
  rfl
 | lst t z l => unfold clearRow; simp only [h,cond_true]
 | byt t l => unfold clearRow; simp only [h,cond_true]
theorem clearRow_f {r:Row} {i len:Nat} {zv:AV} (h:Nat.ble (i + len) r.len = false):clearRow r i len zv = r:=by
 cases r with
 | gen t z n f =>
  have h:Nat.ble (i + len) n = false:=h
  unfold clearRow
  simp only [h,Bool.false_and,cond_false]
 | lst t z l => unfold clearRow; simp only [h,cond_false]
 | byt t l => unfold clearRow; simp only [h,cond_false]
def aclear (T:TypeId -> Option TI) (R:Nat -> RoRow) (h:Rows) (t:TypeId) (x:AV):WQ :=
 match T t with
 | none => .no
 | some ti => match ti.kd with
  | .slice e => match T e with
   | none => .no
   | some te =>
    match x with
    | .nils => .ok true (.tup []) h
    | .sl false b i len full =>
     if eszOf R h false b = some te.size /\ okCells te.zv te.size = true then
      match h.live b with
      | some r => .ok (Nat.ble (i + len) r.len || decide (r.len <= i)) (.tup []) (h.set b (some (clearRow r i len te.zv)))
      | none => .no
     else .no
    | _ => .no
  | _ => .no
theorem aclear_ok {T:TypeId -> Option TI} {P:Program} (hT:TabOK P T) {R:Nat -> RoRow} {m:Map} {h:Rows} {w:World} (hW:WR R m h w) (t ty:TypeId) (ts:List TypeId) (x:AV) (u:Value) (us:List Value)
  (hx:Den m h.length x u) :
  (aclear T R h t x).run R m h P w (do pure (.value (<- Builtin.clear_ (t :: ts).toArray ty (u :: us).toArray))):=by
 unfold aclear
 cases hti:T t with
 | none => trivial
 | some ti =>
  simp only []
  split
  case h_2 => trivial
  rename_i e hkd
  cases hte:T e with
  | none => trivial
  | some te =>
   simp only []
   obtain ⟨d,hr,hu,hk⟩:=(hT _ _ hti).run_underlying w
   rw [hkd] at hk; simp only [KdOK] at hk; subst hk
   split
   ·intro _
    simp only [Den] at hx
    subst hx
    refine ⟨.value (.tuple #[]),_,w,m,?_,rfl,by simp [Den,DenL],hW,Step.refl _ _ _⟩
    simp [Builtin.clear_,hr,pure,Sem.run]
   ·rename_i b i len full
    split
    case isFalse => trivial
    rename_i hcond
    obtain ⟨hez,hz⟩:=hcond
    cases hl:h.live b with
    | none => trivial
    | some r =>
     have hesz:=eszOf_spec hW hez
     simp only [Map.loc,Bool.false_eq_true,if_false] at hesz
     obtain ⟨z,hzr,hzd⟩:=(hT _ _ hte).run_zero w
     obtain ⟨q1,q2,q3,q4,q5⟩:=okCells_spec hz (hzd m h.length)
     simp only [Den] at hx
     obtain ⟨hb,hsl⟩:=hx
     unfold SlDen at hsl
     simp only [Map.loc,Bool.false_eq_true,if_false] at hsl
     have hzs:∀ k,k < len * te.size -> 0 < te.size:=fun k hk => by
      rcases Nat.eq_zero_or_pos te.size with h | h
      ·rw [h] at hk; omega
      ·exact h
     have hnews:∀ (j o:Nat),j < len -> o < te.size -> (Builtin.zeroCells z.cells len).toList[j * te.size + o]? = z.cells[o]?:=by
      intro j o hj ho
      have hk:(j + 1) * te.size <= len * te.size:=Nat.mul_le_mul_right _ hj
      rw [Nat.add_mul] at hk
      simp only [Builtin.zeroCells,Array.toList_map,Array.toList_range,List.getElem?_map]
      rw [q1,List.getElem?_range (by omega)]
      simp only [Option.map_some]
      rw [show (j * te.size + o) % te.size = o by rw [Nat.mul_comm,Nat.mul_add_mod,Nat.mod_eq_of_lt ho]]
      have hlt:o < z.cells.size:=by omega
      rw [getElem!_pos z.cells o hlt,Array.getElem?_eq_getElem hlt]
     have hone:∀ v ∈ (Builtin.zeroCells z.cells len).toList,v.oneCell' = true:=by
      intro v hv
      simp only [Builtin.zeroCells,Array.toList_map,Array.toList_range,List.mem_map,List.mem_range] at hv
      obtain ⟨k,hk,rfl⟩:=hv
      have hpos:0 < z.cells.size:=by
       rcases Nat.eq_zero_or_pos z.cells.size with h | h
       ·rw [h] at hk; omega
       ·exact h
      have hm:k % z.cells.size < z.cells.size:=Nat.mod_lt _ hpos
      rw [getElem!_pos z.cells _ hm]
      exact q5 _ (by simp)
     simp only []
     cases hway:Nat.ble (i + len) r.len with
     | false =>
      rw [clearRow_f hway,Bool.false_or]
      intro hc
      simp only [decide_eq_true_eq] at hc
      have hset:h.set b (some r) = h:=by
       apply List.ext_getElem?
       intro k
       by_cases hk:b = k
       ·subst hk
        rw [List.getElem?_set_self (live_lt hl)]
        unfold Rows.live at hl
        cases hx:h[b]? with
        | none => rw [hx] at hl; cases hl
        | some x => rw [hx] at hl; simp only [Option.join_some] at hl; rw [hl]
       ·rw [List.getElem?_set_ne hk]
      split at hsl
      ·obtain ⟨rfl,ao,rfl,_⟩:=hsl
       refine ⟨.value (.tuple #[]),_,w,m,?_,rfl,by simp [Den,DenL],by rw [hset]; exact hW,by rw [hset]; exact Step.refl _ _ _⟩
       cases ao <;> simp [Builtin.clear_,hr,pure,Sem.run]
      ·rename_i hv
       have hv:(m.mu b).vir = false:=by simpa using hv
       obtain ⟨ad,cap,rfl,h1,h2,h3,h4⟩:=hsl
       cases len with
       | zero =>
        refine ⟨.value (.tuple #[]),_,w,m,?_,rfl,by simp [Den,DenL],by rw [hset]; exact hW,by rw [hset]; exact Step.refl _ _ _⟩
        simp [Builtin.clear_,hr,pure,Sem.run]
       | succ k =>
        obtain ⟨rfl,h5⟩:=h4 (by omega)
        obtain ⟨w',hst,mW,mS⟩:=hW.beyond (P:=P) hl hv i (k + 1) hc (by omega) (news:=(Builtin.zeroCells z.cells (k + 1)).toList) (by simp [size_zeroCells,q1,hesz]) hone
        refine ⟨.value (.tuple #[]),_,w',m,?_,rfl,by simp [Den,DenL],mW,mS⟩
        simp [Builtin.clear_,hr,hzr,hst,pure,Sem.run]
     | true =>
     rw [clearRow_t hway]
     intro _
     have hc:i + len <= r.len:=Nat.le_of_ble_eq_true hway
     obtain ⟨w',hst,mW,mS⟩:=hW.overlay (P:=P) hl i len (.lst (List.replicate len te.zv)) hc (by simp [Src.len]) (news:=(Builtin.zeroCells z.cells len).toList) (by simp [size_zeroCells,q1,hesz])
      (by
       intro j hj
       have hat:(Src.lst (List.replicate len te.zv)).at_ j = te.zv:=by simp [Src.at_,List.getD,hj]
       rw [hat,hesz]
       refine ⟨q3,fun o a ha => ?_⟩
       have ho:o < te.size:=by have:=(List.getElem?_eq_some_iff.1 ha).1; omega
       obtain ⟨b1,y,b2,b3⟩:=q4 o a ha
       exact ⟨b1,y,by rw [hnews j o hj ho]; exact b2,b3⟩)
      hone (match u with | .slice (some a) (_ + 1) _ => some a | _ => none)
      (by
       intro hv hp
       rw [hv] at hsl
       simp only [Bool.false_eq_true,if_false] at hsl
       obtain ⟨ad,cap,rfl,h1,h2,h3,h4⟩:=hsl
       obtain ⟨k,rfl⟩:∃ k,len = k + 1:=⟨len - 1,by omega⟩
       simp only []
       rw [(h4 (by omega)).1])
     refine ⟨.value (.tuple #[]),_,w',m,?_,rfl,by simp [Den,DenL],mW,mS⟩
     split at hsl
     ·obtain ⟨rfl,ao,rfl,_⟩:=hsl
      have hst':w' = w:=by
       cases ao <;> simp only [Result.ok.injEq,true_and] at hst <;> exact hst.symm
      subst hst'
      cases ao <;> simp [Builtin.clear_,hr,pure,Sem.run]
     ·obtain ⟨ad,cap,rfl,h1,h2,h3,h4⟩:=hsl
      cases len with
      | zero =>
       simp only [Result.ok.injEq,true_and] at hst
       subst hst
       simp [Builtin.clear_,hr,pure,Sem.run]
      | succ k =>
       simp only [] at hst
       simp [Builtin.clear_,hr,hzr,hst,pure,Sem.run]
   ·trivial
def astrBytes (T:TypeId -> Option TI) (h:Rows) (d:TypeId) (x:AV):WQ :=
 match T d,x with
 | some td,.str l => match td.kd with
  | .slice e => match T e with
   | some te => match te.kd,te.size with
    | .int .u8,1 => .ok (decide (l.length <= 9223372036854775807)) (.sl false h.length 0 l.length .no) (h ++ [some (.byt e l)])
    | _,_ => .no
   | none => .no
  | _ => .no
 | _,_ => .no
theorem astrBytes_ok {T:TypeId -> Option TI} {P:Program} (hT:TabOK P T) {R:Nat -> RoRow} {m:Map} {h:Rows} {w:World} (hW:WR R m h w) (s d:TypeId) (ts:TI) (hs:T s = some ts) (x:AV) (u:Value) (hx:Den m h.length x u) :
  (astrBytes T h d x).run R m h P w (do pure (.value (<- convert s d u))):=by
 unfold astrBytes
 split
 case h_2 => trivial
 rename_i td l htd
 split
 case h_2 => trivial
 rename_i e hkd
 cases hte:T e with
 | none => trivial
 | some te =>
  simp only []
  split
  case h_2 => trivial
  rename_i hkt hsz
  intro hc
  simp only [decide_eq_true_eq] at hc
  simp only [Den] at hx
  subst hx
  obtain ⟨ds,hrs,hus,hks⟩:=(hT _ _ hs).run_underlying w
  obtain ⟨dd,hrd,hud,hk⟩:=(hT _ _ htd).run_underlying w
  rw [hkd] at hk; simp only [KdOK] at hk; subst hk
  obtain ⟨de,hre,hue,hkk⟩:=(hT _ _ hte).run_underlying w
  rw [hkt] at hkk; simp only [KdOK] at hkk; subst hkk
  obtain ⟨b1,b2⟩:=grownCap_bounds w l.length 0 e (by omega)
  have hel:ElsOK m h.length (.byt e l) 1 (fun k => (((l.map fun c => Value.int .u8 c.toNat).toArray ++ Array.replicate (grownCap w l.length 0 e - l.length) (.int .u8 0)):Array Value)[k]?):=by
   intro i x hx
   rw [Row.get_iff] at hx
   obtain ⟨hi,rfl⟩:=hx
   simp only [Row.len] at hi
   refine ⟨rfl,fun o a ha => ?_⟩
   simp only [Row.at_,AV.cells] at ha
   cases o with
   | succ o => simp at ha
   | zero =>
    simp only [List.getElem?_cons_zero,Option.some.injEq] at ha
    subst ha
    refine ⟨rfl,.int .u8 (l.getD i 0).toNat,?_,by simp [Den]⟩
    simp only []
    rw [Array.getElem?_append_left (by simp; omega)]
    simp [List.getD,List.getElem?_eq_getElem hi]
  have hcsz:(((l.map fun c => Value.int .u8 c.toNat).toArray ++ Array.replicate (grownCap w l.length 0 e - l.length) (.int .u8 0)):Array Value).size = grownCap w l.length 0 e:=by
   simp; omega
  have hbc:Lib.bytesCells w e ⟨⟨l⟩⟩ = ((l.map fun c => Value.int .u8 c.toNat).toArray ++ Array.replicate (grownCap w l.length 0 e - l.length) (.int .u8 0)):=by
   simp [Lib.bytesCells,size_mk]
  have hheap:(Lib.bytesWorld w e ⟨⟨l⟩⟩).heap = w.heap.push (.cells ((l.map fun c => Value.int .u8 c.toNat).toArray ++ Array.replicate (grownCap w l.length 0 e - l.length) (.int .u8 0)) e (grownCap w l.length 0 e,grownCap w l.length 0 e + 1)):=by
   apply Array.ext_getElem?
   intro k
   rcases Nat.lt_trichotomy k w.heap.size with hk | rfl | hk
   ·rw [Lib.bytesWorld_at_old w e _ k hk,Array.getElem?_push,if_neg (by omega)]
   ·rw [Lib.bytesWorld_at_new,hbc,hcsz]; simp
   ·rw [Array.getElem?_eq_none (by rw [Lib.bytesWorld_size]; omega),Array.getElem?_eq_none (by simp; omega)]
  obtain ⟨vW,vS⟩:=hW.push (w':=Lib.bytesWorld w e ⟨⟨l⟩⟩) (.byt e l) _ (grownCap w l.length 0 e,grownCap w l.length 0 e + 1) (grownCap w l.length 0 e)
   rfl rfl rfl hheap
   (by simp only [Row.len]; exact b1) (by simp only [Row.esz]; rw [hcsz]; omega) ⟨fun k _ hk => by simp [Row.esz] at hk ⊢; omega,fun q => absurd q (by simp [Row.esz])⟩ hel
  refine ⟨.value (.slice (some ⟨w.heap.size,0,none⟩) l.length (grownCap w l.length 0 e)),_,_,_,?_,rfl,?_,vW,vS⟩
  ·have hrun:=Lib.run_convert_string_bytes (P:=P) w s d e ⟨⟨l⟩⟩ hus hud hue
   simp only [Sem.run_bind,hrun,Result.andThen_ok,size_mk]
   rfl
  ·simp only [Den]
   refine ⟨fun _ => by simp,?_⟩
   simp only [Map.loc,Bool.false_eq_true,if_false,Map.setMu_same,SlDen]
   exact ⟨_,_,rfl,b1,b2,trivial,fun _ => ⟨by simp,by simp⟩⟩
def evW (T:TypeId -> Option TI) (R:Nat -> RoRow) (h:Rows) (ev:Operand -> AV) (o:Oper):WQ :=
 match o.op with
 | .alloc e => match T e with | some te => newOne h e te.size te.zv | none => .no
 | .box e x => match T e with | some te => newOne h e te.size (ev x) | none => .no
 | .buildSlice t len parts => abuildSlice T h t len (parts.toList.map fun p => (p.1,ev p.2))
 | .makeSlice t l c => amakeSlice T h t (ev l) (ev c)
 | .store t p x => astore T h t (ev p) (ev x)
 | .convert s d x => match T s with | some _ => astrBytes T h d (ev x) | none => .no
 | .call { callee:=.builtin .append,args,argTypes } => match argTypes.toList,args.toList with
  | t :: t2 :: _,s :: x :: _ => aappend T R h t t2 (ev s) (ev x)
  | _,_ => .no
 | .call { callee:=.builtin .copy,args,argTypes } => match argTypes.toList,args.toList with
  | t :: _,s :: x :: _ => acopy T R h t (ev s) (ev x)
  | _,_ => .no
 | .call { callee:=.builtin .clear,args,argTypes } => match argTypes.toList,args.toList with
  | t :: _,x :: _ => aclear T R h t (ev x)
  | _,_ => .no
 | _ => .no
set_option maxHeartbeats 1000000 in
theorem evW_ok {T:TypeId -> Option TI} {P:Program} (hT:TabOK P T) {R:Nat -> RoRow} {m:Map} {h:Rows} {w:World} (hW:WR R m h w) (ev:Operand -> AV) (ρ:Operand -> Value)
  (hev:∀ x,Den m h.length (ev x) (ρ x)) (o:Oper):(evW T R h ev o).run R m h P w (execOp ρ o):=by
 obtain ⟨dst,op,type,pos,after,guard⟩:=o
 cases op <;> try exact True.intro
 case alloc e =>
  simp only [evW]
  cases hte:T e with
  | none => trivial
  | some te =>
   obtain ⟨z,hzr,hzd⟩:=(hT _ _ hte).run_zero w
   refine newOne_ok hW e te.size te.zv z (hzd m h.length) _ ?_
   simp [execOp,Instr.alloc,hzr,newVar,newRow,newObj,pure,Sem.run]
 case box e x =>
  simp only [evW]
  cases hte:T e with
  | none => trivial
  | some te =>
   refine newOne_ok hW e te.size (ev x) (ρ x) (hev x) _ ?_
   simp [execOp,Instr.box,newVar,newRow,newObj,pure,Sem.run]
 case buildSlice t len parts =>
  refine abuildSlice_ok hT hW t len _ (parts.map fun (i,x) => (i,ρ x)) ?_ ?_
  ·simp
  ·have:=DenL.map_op hev (parts.toList.map (·.2))
   simpa [Function.comp_def] using this
 case makeSlice t l c => exact amakeSlice_ok hT hW t _ _ _ _ (hev l) (hev c)
 case store t p x => exact astore_ok hT hW t _ _ _ _ (hev p) (hev x)
 case convert s d x =>
  simp only [evW]
  cases hts:T s with
  | none => trivial
  | some ts => exact astrBytes_ok hT hW s d ts hts _ _ (hev x)
 case call c =>
  obtain ⟨callee,args,argTypes⟩:=c
  cases callee <;> try exact True.intro
  rename_i b
  have two:∀ (s x:Operand) (xs:List Operand),args.toList = s :: x :: xs -> args.map ρ = (ρ s :: ρ x :: xs.map ρ).toArray:=by
   intro s x xs ha
   rw [show args = (s :: x :: xs).toArray by rw [<- ha]]; simp
  have one:∀ (s:Operand) (xs:List Operand),args.toList = s :: xs -> args.map ρ = (ρ s :: xs.map ρ).toArray:=by
   intro s xs ha
   rw [show args = (s :: xs).toArray by rw [<- ha]]; simp
  cases b <;> try exact True.intro
  case append =>
   simp only [evW]
   split
   ·rename_i t t2 tts s x xs ht ha
    have hl:=aappend_ok hT hW t t2 type tts _ _ _ _ (xs.map ρ) (hev s) (hev x)
    have e1:argTypes = (t :: t2 :: tts).toArray:=by rw [<- ht]
    have e:execOp ρ ⟨dst,.call ⟨.builtin .append,args,argTypes⟩,type,pos,after,guard⟩ = (do pure (.value (<- Builtin.append_ (t :: t2 :: tts).toArray type (ρ s :: ρ x :: xs.map ρ).toArray))):=by
     simp only [execOp,resolve,pure_bind,invoke,builtin]
     rw [e1,two s x xs ha]
    rw [e]; exact hl
   ·trivial
  case copy =>
   simp only [evW]
   split
   ·rename_i t tts s x xs ht ha
    have hl:=acopy_ok hT hW t type tts _ _ _ _ (xs.map ρ) (hev s) (hev x)
    have e1:argTypes = (t :: tts).toArray:=by rw [<- ht]
    have e:execOp ρ ⟨dst,.call ⟨.builtin .copy,args,argTypes⟩,type,pos,after,guard⟩ = (do pure (.value (<- Builtin.copy_ (t :: tts).toArray type (ρ s :: ρ x :: xs.map ρ).toArray))):=by
     simp only [execOp,resolve,pure_bind,invoke,builtin]
     rw [e1,two s x xs ha]
    rw [e]; exact hl
   ·trivial
  case clear =>
   simp only [evW]
   split
   ·rename_i t tts x xs ht ha
    have hl:=aclear_ok hT hW t type tts _ _ (xs.map ρ) (hev x)
    have e1:argTypes = (t :: tts).toArray:=by rw [<- ht]
    have e:execOp ρ ⟨dst,.call ⟨.builtin .clear,args,argTypes⟩,type,pos,after,guard⟩ = (do pure (.value (<- Builtin.clear_ (t :: tts).toArray type (ρ x :: xs.map ρ).toArray))):=by
     simp only [execOp,resolve,pure_bind,invoke,builtin]
     rw [e1,one x xs ha]
    rw [e]; exact hl
   ·trivial
end Go.Dc
end
