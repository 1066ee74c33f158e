/- Expressions: what Parse defers. -/
import Derived.Test.YtfajmjhijanggaaK0
import Derived.Test.YtfajmjhijanggaaDcXf
import Derived.Test.YtfajmjhijanggaaDcXe
import Derived.Shelf.Strings.OnBuilder
set_option linter.unusedVariables false
set_option linter.unusedSimpArgs false
section
namespace Go.Dc.Ke
open Go.Proofs Go.RowKit Go.Shelf
set_option maxRecDepth 100000
noncomputable def opsOf (c:Code):Array Oper:=match c with | .region _ ops _ => ops | _ => #[]
noncomputable def nthOp (ops : Array Oper) (i : Nat) : Oper := ops.getD i ⟨none, .panic (.tmp 0), 0, "", #[], none⟩
noncomputable def ops20h:Array Oper:=opsOf head20
theorem head20_eq:head20 = .region 0 ops20h false:=by kernel_rfl
theorem g20a:ops20h[0]? = some (nthOp ops20h 0):=by kernel_rfl
theorem g20b:ops20h[1]? = some (nthOp ops20h 1):=by kernel_rfl
theorem s20:ops20h.size = 2:=by kernel_rfl
theorem run20a (a:Act) (w:World):(execOp a.eval (nthOp ops20h 0)).run Try.prog w = .ok .recover w:=by kernel_rfl
theorem run20b (a:Act) (w:World):(execOp a.eval (nthOp ops20h 1)).run Try.prog w = .ok (.value (a.eval (.tmp 6))) w:=by kernel_rfl
theorem d20a:(nthOp ops20h 0).dst = some 6:=by kernel_rfl
theorem d20b:(nthOp ops20h 1).dst = some 3:=by kernel_rfl
theorem w20a (a:Act):Region.wanted (nthOp ops20h 0) (yielded ops20h a.tmps) = true:=by kernel_rfl
theorem w20b (a:Act):Region.wanted (nthOp ops20h 1) (yielded ops20h a.tmps) = true:=by kernel_rfl
noncomputable def r1c:Code:=match rest20 with | .seq c _ => c | _ => .skip
noncomputable def b20:Code:=match rest20 with | .seq _ (.cond _ c _) => c | _ => .skip
noncomputable def r2c:Code:=match b20 with | .seq c _ => c | _ => .skip
noncomputable def t20:Code:=match b20 with | .seq _ c => c | _ => .skip
theorem rest20_eq:rest20 = .seq (.region 1 (opsOf r1c) false) (.cond (.tmp 8) (.seq (.region 2 (opsOf r2c) false) t20) .skip):=by kernel_rfl
theorem l1:(opsOf r1c).toList = (opsOf r1c).toList.take 1 ++ nthOp (opsOf r1c) 1 :: []:=by kernel_rfl
theorem l2:(opsOf r2c).toList = (opsOf r2c).toList.take 1 ++ nthOp (opsOf r2c) 1 :: (opsOf r2c).toList.drop 2:=by kernel_rfl
theorem o1_eq:nthOp (opsOf r1c) 1 = ⟨(nthOp (opsOf r1c) 1).dst,.binOp .neq 20 (.tmp 7) (.const .nilIface) 20,(nthOp (opsOf r1c) 1).type,(nthOp (opsOf r1c) 1).pos,(nthOp (opsOf r1c) 1).after,none⟩:=by kernel_rfl
theorem o2_eq:nthOp (opsOf r2c) 1 = ⟨(nthOp (opsOf r2c) 1).dst,.typeAssert (.tmp 10) 20 48 true,(nthOp (opsOf r2c) 1).type,(nthOp (opsOf r2c) 1).pos,(nthOp (opsOf r2c) 1).after,none⟩:=by kernel_rfl
theorem und20:Try.prog.underlying 20 = some (.interface (Try.prog.methodsAt 20)):=by kernel_rfl
noncomputable def fs48:Array Field:=match Try.prog.underlying 48 with | some (.struct fs) => fs | _ => #[]
theorem und48:Try.prog.underlying 48 = some (.struct fs48):=by kernel_rfl
noncomputable abbrev st20a (v:AV) (b:Bool) (h:Rows):St:=⟨[.ptr false 0 0 0,.ptr false 1 0 0,.ptr false 2 0 0,v,.undef,.undef,v,v,.bool b,.undef,.undef,.undef,.undef,.undef,.undef,.undef,.undef,.undef,.undef,.undef,.undef,.undef],h⟩
noncomputable abbrev st20b (v y:AV) (h:Rows):St:=⟨[.ptr false 0 0 0,.ptr false 1 0 0,.ptr false 2 0 0,v,.undef,.undef,v,v,.bool true,.undef,v,.tup [y,.bool true],.undef,.undef,.undef,.undef,.undef,.undef,.undef,.undef,.undef,.undef],h⟩
noncomputable abbrev st20c (v x:AV) (h:Rows):St:=⟨[.ptr false 0 0 0,.ptr false 1 0 0,.ptr false 2 0 0,v,.undef,.undef,v,x,.undef,.undef,.undef,.undef,.undef,.undef,.undef,.undef,.undef,.undef,.undef,.undef,.undef,.undef],h⟩
noncomputable abbrev st20d (v:AV) (h:Rows):St:=⟨[.ptr false 0 0 0,.ptr false 1 0 0,.ptr false 2 0 0,v,.undef,.undef,v,v,.bool true,.undef,v,.undef,.undef,.undef,.undef,.undef,.undef,.undef,.undef,.undef,.undef,.undef],h⟩
theorem pre1n (R:RR) (h:Rows) (k:St -> Fz -> Prop) (F:Fz):runOpsB ansX (bx R) nocall (opsOf r1c).toList ((opsOf r1c).toList.take 1) (st20 .nili h) k F = k (st20c .nili .nili h) F:=by kernel_rfl
theorem pre1f (R:RR) (a c:Int) (h:Rows) (k:St -> Fz -> Prop) (F:Fz):runOpsB ansX (bx R) nocall (opsOf r1c).toList ((opsOf r1c).toList.take 1) (st20 (fault a c) h) k F = k (st20c (fault a c) (fault a c) h) F:=by kernel_rfl
theorem pre2 (R:RR) (a c:Int) (h:Rows) (k:St -> Fz -> Prop) (F:Fz):runOpsB ansX (bx R) nocall (opsOf r2c).toList ((opsOf r2c).toList.take 1) (st20a (fault a c) true h) k F = k (st20d (fault a c) h) F:=by kernel_rfl
theorem dst1:(nthOp (opsOf r1c) 1).dst = some 8:=by kernel_rfl
theorem dst2:(nthOp (opsOf r2c) 1).dst = some 11:=by kernel_rfl
abbrev rowsK (r0:Row) (s:List UInt8) (i j:Int):Rows:=[some r0,some (crow 0),some (drow 0),some (prow s i j)]
noncomputable abbrev st20e (a c:Int) (h:Rows):St:=⟨[.ptr false 0 0 0,.ptr false 1 0 0,.ptr false 2 0 0,fault a c,.ptr false 4 0 0,.bool true,fault a c,fault a c,.bool true,.tup [.agg [.int .i64 a,.int .i64 c],.bool true],fault a c,.tup [.agg [.int .i64 a,.int .i64 c],.bool true],.agg [.int .i64 a,.int .i64 c],.bool true,.undef,.undef,.undef,.undef,.undef,.undef,.undef,.undef],h ++ [some (.lst 48 2 [.agg [.int .i64 a,.int .i64 c]])]⟩
theorem suf2z (R:RR) (a c:Int) (s:List UInt8) (i j:Int) (k:St -> Fz -> Prop) (F:Fz):runOpsB ansX (bx R) nocall (opsOf r2c).toList ((opsOf r2c).toList.drop 2) (st20b (fault a c) (.agg [.int .i64 a,.int .i64 c]) (rowsK zrow s i j)) k F = k (st20e a c (rowsK zrow s i j)) F:=by kernel_rfl
theorem suf2e (R:RR) (a c:Int) (t:Tr) (x:Nat) (s:List UInt8) (i j:Int) (k:St -> Fz -> Prop) (F:Fz):runOpsB ansX (bx R) nocall (opsOf r2c).toList ((opsOf r2c).toList.drop 2) (st20b (fault a c) (.agg [.int .i64 a,.int .i64 c]) (rowsK (erow t x) s i j)) k F = k (st20e a c (rowsK (erow t x) s i j)) F:=by kernel_rfl
theorem rest20n (R:RR) (h:Rows) (F:Fz) (HP:HPt):SafeX Try.prog R [] rest20 (st20 .nili h) F (fun e st' F' => e = .normal /\ st'.rows = h /\ F' = F) HP:=by
 rw [rest20_eq]
 refine SafeX.seq ((SafeX.handOp (E:=bx R) tl_ok l1 (by rw [o1_eq]) (k:=fun st' F' => st' = st20a .nili false h /\ F' = F) ?_).mono ?_ fun _ _ _ h => h)
 ·rw [pre1n]
  refine ⟨.bool false,by rw [o1_eq]; exact HandOp.neqNil und20 (.inr ⟨rfl,rfl⟩),?_⟩
  show St.put _ _ _ = _ /\ F = F
  rw [dst1]
  exact ⟨rfl,rfl⟩
 ·rintro e st' F' ⟨rfl,rfl,rfl⟩
  exact SafeX.condB (b:=false) rfl (SafeX.skip ⟨rfl,rfl,rfl⟩)
theorem t20z (R:RR) (a c:Int) (s:List UInt8) (i j:Int) (k:Exit -> St -> Fz -> Prop) (F:Fz):rnx (bx R) 1000 20 t20 (st20e a c (rowsK zrow s i j)) (fun e st => k e ⟨[],st.rows⟩) F = (AV.int .i64 c = AV.int .i64 c /\ AV.int .i64 a = AV.int .i64 a /\ AV.int .i64 c = AV.int .i64 c /\ k .normal ⟨[],[some zrow,some (crow a),some (drow c),some (prow s i j),some (.lst 48 2 [.agg [.int .i64 a,.int .i64 c]])]⟩ F):=by kernel_rfl
theorem t20e (R:RR) (a c:Int) (t:Tr) (x:Nat) (s:List UInt8) (i j:Int) (k:Exit -> St -> Fz -> Prop) (F:Fz):rnx (bx R) 1000 20 t20 (st20e a c (rowsK (erow t x) s i j)) (fun e st => k e ⟨[],st.rows⟩) F = (AV.int .i64 c = AV.int .i64 c /\ AV.int .i64 a = AV.int .i64 a /\ AV.int .i64 c = AV.int .i64 c /\ k .normal ⟨[],[some zrow,some (crow a),some (drow c),some (prow s i j),some (.lst 48 2 [.agg [.int .i64 a,.int .i64 c]])]⟩ F):=by kernel_rfl
theorem rest20f (R:RR) (a c:Int) (r0:Row) (hr0:r0 = zrow \/ ∃ t x,r0 = erow t x) (s:List UInt8) (i j:Int) (F:Fz) (HP:HPt):SafeX Try.prog R [] rest20 (st20 (fault a c) (rowsK r0 s i j)) F
  (fun e st' F' => e = .normal /\ st'.rows = [some zrow,some (crow a),some (drow c),some (prow s i j),some (.lst 48 2 [.agg [.int .i64 a,.int .i64 c]])] /\ F' = F) HP:=by
 rw [rest20_eq]
 refine SafeX.seq ((SafeX.handOp (E:=bx R) tl_ok l1 (by rw [o1_eq]) (k:=fun st' F' => st' = st20a (fault a c) true (rowsK r0 s i j) /\ F' = F) ?_).mono ?_ fun _ _ _ h => h)
 ·rw [pre1f]
  refine ⟨.bool true,by rw [o1_eq]; exact HandOp.neqNil und20 (.inl ⟨rfl,_,_,rfl⟩),?_⟩
  show St.put _ _ _ = _ /\ F = F
  rw [dst1]
  exact ⟨rfl,rfl⟩
 ·rintro e st' F' ⟨rfl,rfl,rfl⟩
  refine SafeX.condB (b:=true) rfl (SafeX.seq ((SafeX.handOp (E:=bx R) tl_ok l2 (by rw [o2_eq]) (k:=fun st' F'' => st' = st20e a c (rowsK r0 s i j) /\ F'' = F') ?_).mono ?_ fun _ _ _ h => h))
  ·rw [pre2]
   refine ⟨.tup [.agg [.int .i64 a,.int .i64 c],.bool true],by rw [o2_eq]; exact HandOp.assertIs und48 rfl,?_⟩
   rw [dst2]
   show runOpsB ansX (bx R) nocall _ _ (st20b (fault a c) (.agg [.int .i64 a,.int .i64 c]) (rowsK r0 s i j)) _ _
   rcases hr0 with rfl | ⟨t,x,rfl⟩
   ·rw [suf2z]; exact ⟨rfl,rfl⟩
   ·rw [suf2e]; exact ⟨rfl,rfl⟩
  ·rintro e st' F'' ⟨rfl,rfl,rfl⟩
   refine (SafeX.rnx mixed (bx_ok R [] HP) (f:=20) (fun p hp => by
    have e:subs t20 = []:=by kernel_rfl
    rw [e] at hp; cases hp) (k:=fun e st F2 => e = .normal /\ st.rows = [some zrow,some (crow a),some (drow c),some (prow s i j),some (.lst 48 2 [.agg [.int .i64 a,.int .i64 c]])] /\ F2 = F'') 1000 ?_)
   rcases hr0 with rfl | ⟨t,x,rfl⟩
   ·exact (t20z R a c s i j (fun e st F2 => e = .normal /\ st.rows = [some zrow,some (crow a),some (drow c),some (prow s i j),some (.lst 48 2 [.agg [.int .i64 a,.int .i64 c]])] /\ F2 = F'') F'') ▸ ⟨rfl,rfl,rfl,rfl,rfl,rfl⟩
   ·exact (t20e R a c t x s i j (fun e st F2 => e = .normal /\ st.rows = [some zrow,some (crow a),some (drow c),some (prow s i j),some (.lst 48 2 [.agg [.int .i64 a,.int .i64 c]])] /\ F2 = F'') F'') ▸ ⟨rfl,rfl,rfl,rfl,rfl,rfl⟩
abbrev ptrs3:List AV:=[.ptr false 0 0 0,.ptr false 1 0 0,.ptr false 2 0 0]
theorem nt20:fi20.ntmps = 22:=by kernel_rfl
theorem res20:fi20.results = []:=by kernel_rfl
theorem ent20 (v:AV) (h:Rows):(⟨putT (putT (enterT ptrs3 22) (some 6) v) (some 3) v,h⟩:St) = st20 v h:=rfl
theorem calls20 (R:RR) {m:Map} {w:World} {h:Rows} {F:Fz} {vas:Array Value} (has:DenL m h.length ptrs3 vas.toList) (hW:WR R m h w) (hf:FzOK F m h w)
  {u u':FrameMode} {v:AV} {c:Value} (hd:Den m h.length v c) (hrec:∀ (c₀:Frame) (cs:List Frame),c₀.mode = u -> (recoverD (c₀ :: cs) = none /\ c = .nilIface /\ u' = u) \/ recoverD (c₀ :: cs) = some (c,{ c₀ with mode:=u' } :: cs))
  {h':Rows} (hs:∀ HP,SafeX Try.prog R [] rest20 (st20 v h) F (fun e st' F' => e = .normal /\ st'.rows = h' /\ F' = F) HP) :
  CallsD Try.prog 20 vas u w fun e u2 w' => (∃ c,e = .returned c) /\ u2 = u' /\ ∃ m',WR R m' h' w' /\ FzOK F m' h' w' /\ Step m h w m' h' w':=by
 obtain ⟨fn,hfn,hbody,hnt,hres,hname⟩:=fi20_ok.fn
 refine callsD_of_wpS hfn hbody fun c₀ cs hmode => ?_
 rw [body20,head20_eq,hnt,nt20]
 have hrel0:=enter_rel (R:=R) 22 has hW
 refine wpS_seq (wpS_region ?_)
 rw [s20]
 have key:∀ cs':List Frame,cs' = { c₀ with mode:=u' } :: cs -> rest20.wpS Try.prog (bodyPostS Try.prog fn c₀ cs fun e u2 w' => (∃ c,e = .returned c) /\ u2 = u' /\ ∃ m',WR R m' h' w' /\ FzOK F m' h' w' /\ Step m h w m' h' w')
   ((({ tmps:=vas ++ Array.replicate (22 - vas.size) undef,defers:=[] }:Act).put (some 6) c).put (some 3) c) cs' w:=by
  rintro cs' rfl
  refine wpS_of_wp ?_
  have h1:=hrel0.put (Step.refl _ _ _) hW (some 6) hd
  have h2:=h1.put (Step.refl _ _ _) h1.wr (some 3) hd
  rw [ent20] at h2
  refine wp_mono (hs (fun _ _ _ => False) m _ w m h w F h2 hf (Step.refl _ _ _) (.refl _ _ _ _)) ?_
  intro e a' w' hp
  cases e with
  | panic ch => obtain ⟨_,_,_,_,_,_,hh,_⟩:=hp; exact hh.elim
  | normal =>
   obtain ⟨m',st',F',_,⟨_,rfl,rfl⟩,hr',hf',hs',hl'⟩:=hp
   obtain ⟨cr,hrun,_⟩:=results_run tl_ok fi20_ok hr' (vs:=[]) (by rw [res20]; rfl) fn hfn
   exact ⟨hr'.defers,u',rfl,cr,hrun,⟨cr,rfl⟩,rfl,m',hr'.wr,hf',hs'⟩
  | exit id => obtain ⟨_,_,_,_,⟨h,_⟩,_⟩:=hp; cases h
  | ret => obtain ⟨_,_,_,_,⟨h,_⟩,_⟩:=hp; cases h
  | goto l => obtain ⟨_,_,_,h,_⟩:=hp; exact h.elim
  | outgrown => obtain ⟨_,_,_,h,_⟩:=hp; exact h.elim
 have step2:∀ cs',cs' = { c₀ with mode:=u' } :: cs -> wpOpsS Try.prog ops20h (Exit.thenS (rest20.wpS Try.prog (bodyPostS Try.prog fn c₀ cs fun e u2 w' => (∃ c,e = .returned c) /\ u2 = u' /\ ∃ m',WR R m' h' w' /\ FzOK F m' h' w' /\ Step m h w m' h' w')) (bodyPostS Try.prog fn c₀ cs fun e u2 w' => (∃ c,e = .returned c) /\ u2 = u' /\ ∃ m',WR R m' h' w' /\ FzOK F m' h' w' /\ Step m h w m' h' w')) [1]
   (({ tmps:=vas ++ Array.replicate (22 - vas.size) undef,defers:=[] }:Act).put (nthOp ops20h 0).dst c) cs' w:=by
  intro cs' hcs
  refine wpOpsS_value g20b (w20b _) (run20b _ _) ?_
  rw [d20a,d20b]
  have e6:Act.eval (Act.put ({ tmps:=vas ++ Array.replicate (22 - vas.size) undef,defers:=[] }:Act) (some 6) c) (.tmp 6) = c:=by
   have hlen:=has.length
   simp only [Array.length_toList,List.length_cons,List.length_nil] at hlen
   have h3:vas.size = 3:=hlen.symm
   simp [Act.eval,Act.put,h3]
  rw [e6]
  exact key cs' hcs
 refine wpOpsS_recover g20a (w20a _) (run20a _ _) ?_
 rcases hrec c₀ cs hmode with ⟨h1,rfl,rfl⟩ | h1
 ·rw [h1]
  exact step2 _ (by rw [<- hmode])
 ·rw [h1]
  exact step2 _ rfl
abbrev botDraw:Draw (Fz -> Prop):=fun _ _ _ _ _ => False
def rnb (E:EnvX) (n:Nat) (f:FuncId) (c:Code) (st:St) (k:Exit -> St -> Fz -> Prop):Fz -> Prop:=codeB ansX E botDraw n f c st k
theorem SafeX.rnb {P:Program} {E:EnvX} {HP:AV -> Rows -> Fz -> Prop} {ds:List Deferred} (hE0:OKX P E [] HP) (hE:OKX P E ds HP) {f:FuncId} {c:Code} (hc:∀ p ∈ subs c,p ∈ E.subsOf f) {st:St} {F:Fz} {k:Exit -> St -> Fz -> Prop} (n:Nat)
  (hk:Ke.rnb E n f c st k F):SafeX P E.R ds c st F k HP :=
 code_okX ansX_holds hE0 hE (fun _ _ _ _ _ _ _ h => h.elim) (fun _ _ _ _ _ _ _ h => h.elim) n ds (.inr rfl) f c st k F hc hk
theorem RelX.weak {R:RR} {ds:List Deferred} {m:Map} {T T':List AV} {h:Rows} {a:Act} {w:World} (hr:RelX R ds m ⟨T,h⟩ a w) (hT:VwL some h.length T' T):RelX R ds m ⟨T',h⟩ a w where
 size:=hr.size.trans hT.length.symm
 tmps:=fun i x hx => by
  obtain ⟨y,hy,hxy⟩:=hT.get hx
  obtain ⟨c,hc,hd⟩:=hr.tmps i y hy
  exact ⟨c,hc,hxy.den (es:=fun _ => 0) _ _ _ hd⟩
 defers:=hr.defers
 wr:=hr.wr
noncomputable def r4c:Code:=match rest10 with | .seq c _ => c | _ => .skip
noncomputable def r5c:Code:=match rest10 with | .seq _ (.seq c _) => c | _ => .skip
noncomputable def r6c:Code:=match rest10 with | .seq _ (.seq _ (.seq (.seq c _) _)) => c | _ => .skip
noncomputable def r7c:Code:=match rest10 with | .seq _ (.seq _ (.seq (.seq _ (.cond _ c _)) _)) => c | _ => .skip
noncomputable def r8c:Code:=match rest10 with | .seq _ (.seq _ (.seq _ c)) => c | _ => .skip
theorem rest10_eq:rest10 = .seq r4c (.seq (.region 5 (opsOf r5c) false) (.seq (.seq r6c (.cond (.tmp 22) (.region 7 (opsOf r7c) false) .skip)) r8c)):=by kernel_rfl
theorem def10_eq:def10 = .region 3 (opsOf def10) false:=by kernel_rfl
theorem lD:(opsOf def10).toList = (opsOf def10).toList.take 1 ++ [nthOp (opsOf def10) 1]:=by kernel_rfl
theorem oD_op:(nthOp (opsOf def10) 1).op = .defer ⟨.value (.tmp 10),#[],#[]⟩:=by kernel_rfl
theorem oD_g:(nthOp (opsOf def10) 1).guard = none:=by kernel_rfl
theorem oD_d:(nthOp (opsOf def10) 1).dst = none:=by kernel_rfl
theorem l5:(opsOf r5c).toList = (opsOf r5c).toList.take 1 ++ nthOp (opsOf r5c) 1 :: (opsOf r5c).toList.drop 2:=by kernel_rfl
theorem o5_op:(nthOp (opsOf r5c) 1).op = .call ⟨.value (.func 21),#[.tmp 14],#[50]⟩:=by kernel_rfl
theorem o5_g:(nthOp (opsOf r5c) 1).guard = none:=by kernel_rfl
theorem o5_d:(nthOp (opsOf r5c) 1).dst = some 15:=by kernel_rfl
theorem l7:(opsOf r7c).toList = (opsOf r7c).toList.take 1 ++ nthOp (opsOf r7c) 1 :: (opsOf r7c).toList.drop 2:=by kernel_rfl
theorem o7_op:(nthOp (opsOf r7c) 1).op = .call ⟨.value (.func 22),#[.tmp 23,.const (.int .i64 3)],#[50,26]⟩:=by kernel_rfl
theorem o7_g:(nthOp (opsOf r7c) 1).guard = none:=by kernel_rfl
theorem sub4:subs r4c = []:=by kernel_rfl
theorem sub6:subs r6c = []:=by kernel_rfl
theorem sub8:subs r8c = []:=by kernel_rfl
abbrev u1 (n:Nat):List AV:=List.replicate n .undef
noncomputable abbrev sA (s:List UInt8) (b:Bool) (x:AV) (r:Rows):St:=⟨[.str s,.undef,.ptr false 0 0 0,.ptr false 1 0 0,.ptr false 2 0 0,.undef,.str s,.int .i64 (s.length:Int),.bool b,x,.undef,.undef,.undef,.undef,.undef,.undef,.undef,.undef,.undef,.undef,.undef,.undef,.undef,.undef,.undef,.undef],r⟩
noncomputable abbrev sD (s:List UInt8):St:=⟨[.str s,.undef,.ptr false 0 0 0,.ptr false 1 0 0,.ptr false 2 0 0,.undef,.str s,.int .i64 (s.length:Int),.bool false,.undef,.fn 20 [] ptrs3,.undef,.undef,.undef,.undef,.undef,.undef,.undef,.undef,.undef,.undef,.undef,.undef,.undef,.undef,.undef],[some zrow,some (crow 0),some (drow 0)]⟩
theorem preD (R:RR) (s:List UInt8) (k:St -> Fz -> Prop) (F:Fz):runOpsB ansX (bx R) nocall (opsOf def10).toList ((opsOf def10).toList.take 1) (sA s false .undef [some zrow,some (crow 0),some (drow 0)]) k F = k (sD s) F:=by kernel_rfl
noncomputable abbrev s4 (s:List UInt8) (p:AV):St:=⟨[.str s,.undef,.ptr false 0 0 0,.ptr false 1 0 0,.ptr false 2 0 0,.ptr false 3 0 0,.str s,.int .i64 (s.length:Int),.bool false,.undef,.fn 20 [] ptrs3,.str s,.agg [.str s,.int .i64 0,.int .i64 0],.ptr false 3 0 0,p,.undef,.undef,.undef,.undef,.undef,.undef,.undef,.undef,.undef,.undef,.undef],rowsK zrow s 0 0⟩
theorem v4 (R:RR) (s:List UInt8) (k:Exit -> St -> Fz -> Prop) (F:Fz):rnb (bx R) 1000 10 r4c (sD s) k F = k .normal (s4 s .undef) F:=by kernel_rfl
theorem pre5 (R:RR) (s:List UInt8) (k:St -> Fz -> Prop) (F:Fz):runOpsB ansX (bx R) nocall (opsOf r5c).toList ((opsOf r5c).toList.take 1) (s4 s .undef) k F = k (s4 s (.ptr false 3 0 0)) F:=by kernel_rfl
noncomputable abbrev t5 (s:List UInt8) (v:AV):List AV:=[.str s,.undef,.ptr false 0 0 0,.ptr false 1 0 0,.ptr false 2 0 0,.ptr false 3 0 0,.str s,.int .i64 (s.length:Int),.bool false,.undef,.fn 20 [] ptrs3,.str s,.agg [.str s,.int .i64 0,.int .i64 0],.ptr false 3 0 0,.ptr false 3 0 0,v,.undef,.undef,.undef,.undef,.undef,.undef,.undef,.undef,.undef,.undef]
theorem suf5 (R:RR) (s:List UInt8) (t:Tr) (x:Nat) (i j:Int) (k:St -> Fz -> Prop) (F:Fz):runOpsB ansX (bx R) nocall (opsOf r5c).toList ((opsOf r5c).toList.drop 2) ⟨t5 s (exprV t x),rowsK zrow s i j⟩ k F = k ⟨t5 s (exprV t x),rowsK (erow t x) s i j⟩ F:=by kernel_rfl
noncomputable abbrev t6 (s:List UInt8) (v:AV) (i:Int) (p:AV):List AV:=[.str s,.undef,.ptr false 0 0 0,.ptr false 1 0 0,.ptr false 2 0 0,.ptr false 3 0 0,.str s,.int .i64 (s.length:Int),.bool false,.undef,.fn 20 [] ptrs3,.str s,.agg [.str s,.int .i64 0,.int .i64 0],.ptr false 3 0 0,.ptr false 3 0 0,v,.ptr false 3 0 0,.ptr false 3 0 0,.ptr false 3 0 1,.int .i64 i,.str s,.int .i64 (s.length:Int),.bool (decide (i < (s.length:Int))),p,.undef,.undef]
theorem v6 (R:RR) (s:List UInt8) (t:Tr) (x:Nat) (i j:Int) (k:Exit -> St -> Fz -> Prop) (F:Fz):rnb (bx R) 1000 10 r6c ⟨t5 s (exprV t x),rowsK (erow t x) s i j⟩ k F = k .normal ⟨t6 s (exprV t x) i .undef,rowsK (erow t x) s i j⟩ F:=by kernel_rfl
theorem pre7 (R:RR) (s:List UInt8) (t:Tr) (x:Nat) (i j:Int) (k:St -> Fz -> Prop) (F:Fz):runOpsB ansX (bx R) nocall (opsOf r7c).toList ((opsOf r7c).toList.take 1) ⟨t6 s (exprV t x) i .undef,rowsK (erow t x) s i j⟩ k F = k ⟨t6 s (exprV t x) i (.ptr false 3 0 0),rowsK (erow t x) s i j⟩ F:=by kernel_rfl
noncomputable abbrev tF:List AV:=[.any,.any,.ptr false 0 0 0,.ptr false 1 0 0,.ptr false 2 0 0,.any,.any,.any,.any,.any,.any,.any,.any,.any,.any,.any,.any,.any,.any,.any,.any,.any,.any,.any,.any,.any]
noncomputable abbrev t8 (s:List UInt8) (v:AV) (i:Int):List AV:=[.str s,.undef,.ptr false 0 0 0,.ptr false 1 0 0,.ptr false 2 0 0,.ptr false 3 0 0,.str s,.int .i64 (s.length:Int),.bool false,.undef,.fn 20 [] ptrs3,.str s,.agg [.str s,.int .i64 0,.int .i64 0],.ptr false 3 0 0,.ptr false 3 0 0,v,.ptr false 3 0 0,.ptr false 3 0 0,.ptr false 3 0 1,.int .i64 i,.str s,.int .i64 (s.length:Int),.bool (decide (i < (s.length:Int))),.undef,.undef,v]
theorem v8 (R:RR) (s:List UInt8) (t:Tr) (x:Nat) (i j:Int) (k:Exit -> St -> Fz -> Prop) (F:Fz):rnb (bx R) 1000 10 r8c ⟨t6 s (exprV t x) i .undef,rowsK (erow t x) s i j⟩ k F = k .ret ⟨t8 s (exprV t x) i,rowsK (erow t x) s i j⟩ F:=by kernel_rfl
theorem nt10:fi10.ntmps = 26:=by kernel_rfl
theorem rdE (R:RR) (s:List UInt8) (t:Tr) (x:Nat) (i j:Int) (Q:AV -> Fz -> Prop) (F:Fz):resKB ansX (bx R) ⟨tF,rowsK (erow t x) s i j⟩ fi10.results Q F = Q (.tup [exprV t x,.int .i64 0,.int .i64 0]) F:=by kernel_rfl
theorem rdF (R:RR) (s:List UInt8) (a c i j:Int) (Q:AV -> Fz -> Prop) (F:Fz):resKB ansX (bx R) ⟨tF,[some zrow,some (crow a),some (drow c),some (prow s i j),some (.lst 48 2 [.agg [.int .i64 a,.int .i64 c]])]⟩ fi10.results Q F = Q (.tup [.agg [.int .i64 0,.str [],.nils],.int .i64 a,.int .i64 c]) F:=by kernel_rfl
theorem rdL (R:RR) (c:Int) (Q:AV -> Fz -> Prop) (F:Fz):resKB ansX (bx R) ⟨tF,[some zrow,some (crow 0),some (drow c)]⟩ fi10.results Q F = Q (.tup [.agg [.int .i64 0,.str [],.nils],.int .i64 0,.int .i64 c]) F:=by kernel_rfl
def Ends (R:RR) (Q HP:AV -> Rows -> Fz -> Prop) (m0:Map) (h0:Rows) (w0:World) (F0:Fz) (e:Ending) (w':World):Prop:=∃ m' h' F',WR R m' h' w' /\ FzOK F' m' h' w' /\ F0.To m0 h0 w0 F' /\ Step m0 h0 w0 m' h' w' /\
 ((∃ c v,e = .returned c /\ Q v h' F' /\ Den m' h'.length v c) \/ ∃ c v,e = .panicked [{ v:=c,recovered:=false }] /\ HP v h' F' /\ Den m' h'.length v c)
theorem leave0 {R:RR} {ds:List Deferred} {m:Map} {T:List AV} {h:Rows} {a:Act} {w:World} {F:Fz} {Q HP:AV -> Rows -> Fz -> Prop} {m0:Map} {h0:Rows} {w0:World} {F0:Fz} (hr:RelX R ds m ⟨T,h⟩ a w) (hT:VwL some h.length tF T) (hf:FzOK F m h w) (hs:Step m0 h0 w0 m h w) (hl:F0.To m0 h0 w0 F)
  (hq:resKB ansX (bx R) ⟨tF,h⟩ fi10.results (fun v F' => Q v h F') F):∀ fn,Try.prog.funcs[10]? = some fn -> ∃ v,(results fn a.tmps).run Try.prog w = .ok v w /\ Ends R Q HP m0 h0 w0 F0 (.returned v) w:=by
 intro fn hfn
 have hr':=Ke.RelX.weak hr hT
 obtain ⟨vs,h1,h2⟩:=resL_okB (ansX_holds F) (show atF F (resLB ansX (lookT tl) R ⟨tF,h⟩ fi10.results fun vs F' => Q (tupOf vs) h F') from hq)
 obtain ⟨c,hrun,hd⟩:=results_run tl_ok fi10_ok hr' h1 fn hfn
 exact ⟨c,hrun,m,h,F,hr.wr,hf,hl,hs,.inl ⟨c,_,rfl,h2,hd⟩⟩
theorem leaveN {R:RR} {m:Map} {T:List AV} {h:Rows} {a:Act} {w:World} {F:Fz} {Q HP:AV -> Rows -> Fz -> Prop} {m0:Map} {h0:Rows} {w0:World} {F0:Fz} {vs:Array Value} (hvs:DenL m h.length ptrs3 vs.toList) {ds:List Deferred} (hr:RelX R ds m ⟨T,h⟩ a w) (hT:VwL some h.length tF T) (hf:FzOK F m h w) (hs:Step m0 h0 w0 m h w) (hl:F0.To m0 h0 w0 F)
  (hq:resKB ansX (bx R) ⟨tF,h⟩ fi10.results (fun v F' => Q v h F') F):∀ fn,Try.prog.funcs[10]? = some fn -> Leaves Try.prog fn a.tmps (Ends R Q HP m0 h0 w0 F0) [{ target:=.fn (.func 20) vs,args:=#[] }] .returning w:=by
 intro fn hfn
 refine leaves_cons (by simp) (f:=20) (args:=vs) ?_ ?_
 ·obtain ⟨fn20,hfn20,hbody,_,_,hname⟩:=fi20_ok.fn
  simp only [invoke,callFunc,program,Sem.run_bind]
  simp only [Sem.run,pure,Result.andThen_ok,hfn20,Sem.bind]
  have hb:fn20.body.isNone = false:=by rw [hbody]; rfl
  simp [hname,hb,Sem.run]
 ·refine (calls20 R hvs hr.wr hf (u:=.returning) (u':=.returning) (v:=.nili) (c:=.nilIface) (by simp [Den]) (fun c₀ cs hm => .inl ⟨by simp [recoverD,hm],rfl,rfl⟩) (fun HP => rest20n R h F HP)).mono ?_
  rintro e u2 w' ⟨⟨c,rfl⟩,rfl,m',hW',hf',hs'⟩
  obtain ⟨v,h1,h2⟩:=leave0 (Q:=Q) (HP:=HP) (hr.carry hs' hW') hT hf' (hs.trans hs') hl hq fn hfn
  exact ⟨v,h1,h2⟩
theorem leaveF {R:RR} {m:Map} {T:List AV} {r0:Row} (hr0:r0 = zrow \/ ∃ t x,r0 = erow t x) {s:List UInt8} {i j:Int} {a:Act} {w:World} {F:Fz} {Q HP:AV -> Rows -> Fz -> Prop} {m0:Map} {h0:Rows} {w0:World} {F0:Fz} {vs:Array Value} (hvs:DenL m 4 ptrs3 vs.toList) {ds:List Deferred} {e c:Int} {cv:Value} (hcv:Den m 4 (fault e c) cv) (hr:RelX R ds m ⟨T,rowsK r0 s i j⟩ a w) (hT:VwL some 5 tF T) (hf:FzOK F m (rowsK r0 s i j) w) (hs:Step m0 h0 w0 m (rowsK r0 s i j) w) (hl:F0.To m0 h0 w0 F)
  (hq:Q (.tup [.agg [.int .i64 0,.str [],.nils],.int .i64 e,.int .i64 c]) [some zrow,some (crow e),some (drow c),some (prow s i j),some (.lst 48 2 [.agg [.int .i64 e,.int .i64 c]])] F):∀ fn,Try.prog.funcs[10]? = some fn -> Leaves Try.prog fn a.tmps (Ends R Q HP m0 h0 w0 F0) [{ target:=.fn (.func 20) vs,args:=#[] }] (.panicking [{ v:=cv,recovered:=false }]) w:=by
 intro fn hfn
 refine leaves_cons (by simp) (f:=20) (args:=vs) ?_ ?_
 ·obtain ⟨fn20,hfn20,hbody,_,_,hname⟩:=fi20_ok.fn
  simp only [invoke,callFunc,program,Sem.run_bind]
  simp only [Sem.run,pure,Result.andThen_ok,hfn20,Sem.bind]
  have hb:fn20.body.isNone = false:=by rw [hbody]; rfl
  simp [hname,hb,Sem.run]
 ·refine (calls20 R hvs hr.wr hf (u:=.panicking [{ v:=cv,recovered:=false }]) (u':=.panicking [{ v:=cv,recovered:=true }]) hcv (fun c₀ cs hm => .inr (by simp [recoverD,hm])) (fun HP => rest20f R e c r0 hr0 s i j F HP)).mono ?_
  rintro ee u2 w' ⟨⟨c9,rfl⟩,rfl,m',hW',hf',hs'⟩
  obtain ⟨v,h1,h2⟩:=leave0 (Q:=Q) (HP:=HP) (hr.carry hs' hW') hT hf' (hs.trans hs') hl (by rw [rdF]; exact hq) fn hfn
  show Leaves Try.prog fn a.tmps (Ends R Q HP m0 h0 w0 F0) [] (settle (.panicking [{ v:=cv,recovered:=true }])) w'
  have e:settle (.panicking [{ v:=cv,recovered:=true }]) = .returning:=rfl
  rw [e]
  exact ⟨v,h1,h2⟩
theorem PostX.norm {R:RR} {ds:List Deferred} {C:St -> Fz -> Prop} {m0:Map} {h0:Rows} {w0:World} {F0:Fz} {e:Exit} {a:Act} {w:World} (h:PostX R ds (fun e st' F' => e = .normal /\ C st' F') (fun _ _ _ => False) m0 h0 w0 F0 e a w) :
  e = .normal /\ ∃ m st F,C st F /\ RelX R ds m st a w /\ FzOK F m st.rows w /\ Step m0 h0 w0 m st.rows w /\ F0.To m0 h0 w0 F:=by
 cases e with
 | panic ch => obtain ⟨_,_,_,_,_,_,hh,_⟩:=h; exact hh.elim
 | normal => obtain ⟨m',st',F',_,⟨_,hc⟩,r⟩:=h; exact ⟨rfl,m',st',F',hc,r⟩
 | exit id => obtain ⟨_,_,_,_,⟨h,_⟩,_⟩:=h; cases h
 | ret => obtain ⟨_,_,_,_,⟨h,_⟩,_⟩:=h; cases h
 | goto l => obtain ⟨_,_,_,h,_⟩:=h; exact h.elim
 | outgrown => obtain ⟨_,_,_,h,_⟩:=h; exact h.elim
abbrev HP0:HPt:=fun _ _ _ => False
noncomputable abbrev sI (s:List UInt8):St:=⟨[.str s,.undef,.ptr false 0 0 0,.ptr false 1 0 0,.ptr false 2 0 0,.undef,.undef,.undef,.undef,.undef,.undef,.undef,.undef,.undef,.undef,.undef,.undef,.undef,.undef,.undef,.undef,.undef,.undef,.undef,.undef,.undef],[some zrow,some (crow 0),some (drow 0)]⟩
theorem vI (R:RR) (s:List UInt8) (k:Exit -> St -> Fz -> Prop) (F:Fz):rnx (bx R) 1000 10 ini10 ⟨enterT [.str s] 26,[]⟩ k F = k .normal (sI s) F:=by kernel_rfl
theorem vC (R:RR) (s:List UInt8) (k:Exit -> St -> Fz -> Prop) (F:Fz):rnx (bx R) 1000 10 chk10 (sI s) k F =
  (bif decide ((s.length:Int) > 256) then k .ret (sA s true (.agg [.int .i64 0,.str [],.nils]) [some zrow,some (crow 0),some (drow 2)]) F else k .normal (sA s false .undef [some zrow,some (crow 0),some (drow 0)]) F):=by kernel_rfl
theorem subI:subs ini10 = []:=by kernel_rfl
theorem subC:subs chk10 = []:=by kernel_rfl
def ParseQ (s:List UInt8) (k:AV -> Rows -> Fz -> Prop) (F:Fz):Prop :=
 (∀ t,parse s = .ok t 0 -> ∀ x F',Up F F' -> TAt F' t x -> k (.tup [exprV t x,.int .i64 0,.int .i64 0]) [] F') /\
 (∀ a c,parse s = .err a c -> ∀ F',Up F F' -> k (.tup [.agg [.int .i64 0,.str [],.nils],.int .i64 (a:Nat),.int .i64 (c:Nat)]) [] F')
theorem wp10 (R:RR) (s:List UInt8) (F:Fz) (Q HP:AV -> Rows -> Fz -> Prop)
  (hok:∀ t,parse s = .ok t 0 -> ∀ x F' h,Up F F' -> TAt F' t x -> Q (.tup [exprV t x,.int .i64 0,.int .i64 0]) h F')
  (herr:∀ a c,parse s = .err a c -> ∀ F' h,Up F F' -> Q (.tup [.agg [.int .i64 0,.str [],.nils],.int .i64 (a:Nat),.int .i64 (c:Nat)]) h F'):SafeCallX Try.prog R 10 [.str s] [] F Q HP:=by
 intro m w m0 h0 w0 F0 vas has hW hf hS hTo
 obtain ⟨fn,hfn,hbody,hnt,hres,hname⟩:=fi10_ok.fn
 refine calls_of_wp_defers hfn hbody ?_
 rw [body10,hnt,nt10]
 have hrel0:=enter_rel (R:=R) 26 has hW
 have h1:SafeX Try.prog R [] ini10 ⟨enterT [.str s] 26,[]⟩ F (fun e st' F' => e = .normal /\ (st' = sI s /\ F' = F)) HP0:=SafeX.rnx mixed (bx_ok R [] HP0) (f:=10) (fun p hp => by rw [subI] at hp; cases hp) 1000 (vI R s _ F ▸ ⟨rfl,rfl,rfl⟩)
 have hQ:∀ v h' F',Q v h' F' -> Q v h' F':=fun _ _ _ h => h
 refine wp_seq (wp_mono (h1 m _ w m0 h0 w0 F0 hrel0 hf hS hTo) ?_)
 intro e a1 w1 hp
 obtain ⟨rfl,m1,st1,F1,⟨rfl,rfl⟩,hr1,hf1,hs1,hl1⟩:=PostX.norm hp
 have h2:SafeX Try.prog R [] chk10 (sI s) F1 (fun e st' F' => (e = .ret /\ st' = sA s true (.agg [.int .i64 0,.str [],.nils]) [some zrow,some (crow 0),some (drow 2)] /\ s.length > 256 /\ F' = F1) \/ (e = .normal /\ st' = sA s false .undef [some zrow,some (crow 0),some (drow 0)] /\ s.length <= 256 /\ F' = F1)) HP0:=by
  refine SafeX.rnx mixed (bx_ok R [] HP0) (f:=10) (fun p hp => by rw [subC] at hp; cases hp) 1000 ?_
  rw [vC]
  refine hcB (fun h => .inl ⟨rfl,rfl,?_,rfl⟩) fun h => .inr ⟨rfl,rfl,?_,rfl⟩
  ·have:=of_decide_eq_true h; omega
  ·have:=of_decide_eq_false h; omega
 show (Code.seq chk10 (.seq def10 rest10)).wp _ _ _ _
 refine wp_seq (wp_mono (h2 m1 a1 w1 m0 h0 w0 F0 hr1 hf1 hs1 hl1) ?_)
 intro e a2 w2 hp
 cases e with
 | panic ch => obtain ⟨_,_,_,_,_,_,hh,_⟩:=hp; exact hh.elim
 | exit id => obtain ⟨_,_,_,_,⟨h,_⟩ | ⟨h,_⟩,_⟩:=hp <;> cases h
 | goto l => obtain ⟨_,_,_,h,_⟩:=hp; exact h.elim
 | outgrown => obtain ⟨_,_,_,h,_⟩:=hp; exact h.elim
 | ret =>
  obtain ⟨m2,st2,F2,_,⟨_,rfl,hlong,rfl⟩ | ⟨h,_⟩,hr2,hf2,hs2,hl2⟩:=hp
  ·show Leaves _ _ _ _ a2.defers _ _
   rw [hr2.defers]
   obtain ⟨v,h3,h4⟩:=leave0 (Q:=Q) (HP:=HP) hr2 (by (repeat' (first | with_reducible exact VwL.nil | with_reducible refine VwL.cons ?_ ?_ | with_reducible exact Vw.anyI | exact Vw.ptrI (by simp) rfl))) hf2 hs2 hl2 (by
    rw [rdL]
    refine herr 0 2 ?_ _ _ ⟨Fz.le_refl _⟩
    unfold parse
    rw [show decide (s.length > 256) = true by simpa using hlong]
    rfl) fn hfn
   exact ⟨v,h3,h4⟩
  ·cases h
 | normal =>
  obtain ⟨m2,st2,F2,_,⟨h,_⟩ | ⟨_,rfl,hl256,rfl⟩,hr2,hf2,hs2,hl2⟩:=hp
  ·cases h
  have hpar:parse s = (pAltD s 17 0).bind fun t a => bif decide (a < s.length) then .err a 3 else .ok t 0:=by
   unfold parse
   rw [show decide (s.length > 256) = false by simpa using hl256]
   rfl
  show (Code.seq def10 rest10).wp _ _ _ _
  rw [def10_eq]
  refine wp_seq (wp_deferRegion (E:=bx R) tl_ok lD oD_g oD_op oD_d (st1:=sD s) (fun k hk => by rw [preD]; exact hk) (g:=20) (cap:=ptrs3) rfl hr2 hf2 hs2 hl2 ?_)
  intro vs m3 a3 w3 hvs hr3 hf3 hs3 hl3
  show rest10.wp _ _ _ _
  rw [rest10_eq]
  have h4:SafeX Try.prog R [{ target:=.fn (.func 20) vs,args:=#[] }] r4c (sD s) F2 (fun e st' F' => e = .normal /\ (st' = s4 s .undef /\ F' = F2)) HP0:=SafeX.rnb (bx_ok R [] HP0) (bx_ok R _ HP0) (f:=10) (fun p hp => by rw [sub4] at hp; cases hp) 1000 (v4 R s _ F2 ▸ ⟨rfl,rfl,rfl⟩)
  refine wp_seq (wp_mono (h4 m3 a3 w3 m3 (sD s).rows w3 F2 hr3 hf3 (Step.refl _ _ _) (.refl _ _ _ _)) ?_)
  intro e a4 w4 hp
  obtain ⟨rfl,m4,st4,F4,⟨rfl,rfl⟩,hr4,hf4,hs4,hl4⟩:=PostX.norm hp
  have hvs4:DenL m4 4 ptrs3 vs.toList:=DenL.mono hs4.len hs4.mu hs4.ro _ _ hvs
  have hs4':=hs3.trans hs4
  have hl4':=hl3.trans hs3 hl4
  have hcall:SafeCallX Try.prog R 21 [.ptr false 3 0 0] (rowsK zrow s 0 0) F4 (fun v h' F' => ∃ t a' x,rAlt s 0 0 = .ok t a' /\ v = exprV t x /\ TAt F' t x /\ Up F4 F' /\ h' = rowsK zrow s (a':Nat) 0) (fun v h' F' => ∃ e c a' n',rAlt s 0 0 = .err e c /\ v = fault (e:Nat) (c:Nat) /\ Up F4 F' /\ h' = rowsK zrow s a' n'):=by
   refine specP_ok (safe21_0 R) _ _ _ _ _ ?_
   refine ⟨0,0,rfl,rfl,Nat.zero_le _,hl256,rfl,?_,?_⟩
   ·intro t a' ht x F' hu hx; exact ⟨t,a',x,ht,rfl,hx,hu,rfl⟩
   ·intro e c he a' n' F' hu; exact ⟨e,c,a',n',he,rfl,hu,rfl⟩
  have eA:rAlt s 0 0 = pAltD s 17 0:=rfl
  refine wp_seq (wp_callRegion (E:=bx R) tl_ok l5 o5_g o5_op (st1:=s4 s (.ptr false 3 0 0)) (fun k hk => by rw [pre5]; exact hk) (g:=21) (first:=[]) (cap:=[]) rfl fi21_ok hcall hr4 hf4 (Step.refl _ _ _) (.refl _ _ _ _) ?_ ?_)
  rotate_left
  ·-- it panics
   rintro a5 v h' F5 m5 c w5 ⟨ee,ec,a',n',he,rfl,hu5,rfl⟩ hr5 hd5 hf5 hs5 hl5
   show Leaves _ _ _ _ a5.defers _ _
   rw [hr5.defers]
   have hvs5:DenL m5 4 ptrs3 vs.toList:=DenL.mono hs5.len hs5.mu hs5.ro _ _ hvs4
   exact leaveF (.inl rfl) hvs5 hd5 hr5 (by (repeat' (first | with_reducible exact VwL.nil | with_reducible refine VwL.cons ?_ ?_ | with_reducible exact Vw.anyI | exact Vw.ptrI (by simp) rfl))) hf5 (hs4'.trans hs5) (hl4'.trans hs4' hl5) (herr ee ec (by rw [hpar,<- eA,he]; rfl) _ _ hu5) fn hfn
  ·rintro v h' F5 m5 a5 w5 ⟨t,a',x,ht,rfl,hx,hu5,rfl⟩ hr5 hf5 hs5 hl5
   have hvs5:DenL m5 4 ptrs3 vs.toList:=DenL.mono hs5.len hs5.mu hs5.ro _ _ hvs4
   have hs5':=hs4'.trans hs5
   have hl5':=hl4'.trans hs4' hl5
   have hpar':parse s = bif decide (a' < s.length) then .err a' 3 else .ok t 0:=by rw [hpar,<- eA,ht]; rfl
   rw [o5_d] at hr5
   have hr5:RelX R [{ target:=.fn (.func 20) vs,args:=#[] }] m5 ⟨t5 s (exprV t x),rowsK zrow s (a':Nat) 0⟩ a5 w5:=hr5
   refine runOps_okX (HP:=HP0) ansX_holds (E:=bx R) tl_ok (call:=nocall) (fun f args h k F hh => hh.elim) (opsOf r5c) _ _ (fun st' F' => st' = ⟨t5 s (exprV t x),rowsK (erow t x) s (a':Nat) 0⟩ /\ F' = F5) F5 (show runOpsB ansX (bx R) nocall (opsOf r5c).toList ((opsOf r5c).toList.drop 2) ⟨t5 s (exprV t x),rowsK zrow s (a':Nat) 0⟩ _ F5 from suf5 R s t x (a':Nat) 0 _ F5 ▸ ⟨rfl,rfl⟩) hr5 hf5 (Step.refl _ _ _) (.refl F5 _ _ _) _ (fun a c v m' h' w' F' _ h1 => h1.elim) ?_
   rintro F6 m6 st6 a6 w6 ⟨rfl,rfl⟩ hr6 hf6 hs6 hl6
   have hvs6:DenL m6 4 ptrs3 vs.toList:=DenL.mono hs6.len hs6.mu hs6.ro _ _ hvs5
   have hs6':=hs5'.trans hs6
   have hl6':=hl5'.trans hs5' hl6
   show (Code.seq (.seq r6c (.cond (.tmp 22) (.region 7 (opsOf r7c) false) .skip)) r8c).wp _ _ _ _
   have h6:SafeX Try.prog R [{ target:=.fn (.func 20) vs,args:=#[] }] r6c ⟨t5 s (exprV t x),rowsK (erow t x) s (a':Nat) 0⟩ F6 (fun e st' F' => e = .normal /\ (st' = ⟨t6 s (exprV t x) (a':Nat) .undef,rowsK (erow t x) s (a':Nat) 0⟩ /\ F' = F6)) HP0:=SafeX.rnb (bx_ok R [] HP0) (bx_ok R _ HP0) (f:=10) (fun p hp => by rw [sub6] at hp; cases hp) 1000 (v6 R s t x (a':Nat) 0 _ F6 ▸ ⟨rfl,rfl,rfl⟩)
   refine wp_seq (wp_seq (wp_mono (h6 m6 a6 w6 m6 _ w6 F6 hr6 hf6 (Step.refl _ _ _) (.refl _ _ _ _)) ?_))
   intro e a7 w7 hp
   obtain ⟨rfl,m7,st7,F7,⟨rfl,rfl⟩,hr7,hf7,hs7,hl7⟩:=PostX.norm hp
   have hvs7:DenL m7 4 ptrs3 vs.toList:=DenL.mono hs7.len hs7.mu hs7.ro _ _ hvs6
   have hs7':=hs6'.trans hs7
   have hl7':=hl6'.trans hs6' hl7
   show (Code.cond (.tmp 22) (.region 7 (opsOf r7c) false) .skip).wp _ _ _ _
   have hev:=hr7.ev (.tmp 22)
   have hev:a7.eval (.tmp 22) = .bool (decide (((a':Nat):Int) < (s.length:Int))):=by
    have e:(⟨t6 s (exprV t x) (a':Nat) .undef,rowsK (erow t x) s (a':Nat) 0⟩:St).ev (.tmp 22) = .bool (decide (((a':Nat):Int) < (s.length:Int))):=rfl
    rw [e] at hev
    simpa only [Den] using hev
   rcases Nat.lt_or_ge a' s.length with hlt | hge
   ·rw [show decide (((a':Nat):Int) < (s.length:Int)) = true from decide_eq_true (by omega)] at hev
    rw [show decide (a' < s.length) = true from decide_eq_true hlt] at hpar'
    refine wp_cond_true hev ?_
    have hcall7:SafeCallX Try.prog R 22 [.ptr false 3 0 0,.int .i64 3] (rowsK (erow t x) s (a':Nat) 0) F7 (fun _ _ _ => False) (fun v h' F' => v = fault (a':Nat) 3 /\ h' = rowsK (erow t x) s (a':Nat) 0 /\ F' = F7):=spec22_ok R _ _ _ _ _ ⟨rfl,rfl,rfl⟩
    refine wp_callRegion (E:=bx R) tl_ok l7 o7_g o7_op (st1:=⟨t6 s (exprV t x) (a':Nat) (.ptr false 3 0 0),rowsK (erow t x) s (a':Nat) 0⟩) (fun k hk => by rw [pre7]; exact hk) (g:=22) (first:=[]) (cap:=[]) rfl fi22_ok hcall7 hr7 hf7 (Step.refl _ _ _) (.refl _ _ _ _) ?_ ?_
    ·rintro v h' F8 m8 a8 w8 hq; exact hq.elim
    ·rintro a8 v h' F8 m8 c w8 ⟨rfl,rfl,rfl⟩ hr8 hd8 hf8 hs8 hl8
     show Leaves _ _ _ _ a8.defers _ _
     rw [hr8.defers]
     have hvs8:DenL m8 4 ptrs3 vs.toList:=DenL.mono hs8.len hs8.mu hs8.ro _ _ hvs7
     exact leaveF (.inr ⟨t,x,rfl⟩) hvs8 hd8 hr8 (by (repeat' (first | with_reducible exact VwL.nil | with_reducible refine VwL.cons ?_ ?_ | with_reducible exact Vw.anyI | exact Vw.ptrI (by simp) rfl))) hf8 (hs7'.trans hs8) (hl7'.trans hs7' hl8) (herr a' 3 hpar' _ _ hu5) fn hfn
   ·rw [show decide (((a':Nat):Int) < (s.length:Int)) = false from decide_eq_false (by omega)] at hev
    rw [show decide (a' < s.length) = false from decide_eq_false (by omega)] at hpar'
    refine wp_cond_false hev (wp_skip ?_)
    show r8c.wp _ _ _ _
    have h8:SafeX Try.prog R [{ target:=.fn (.func 20) vs,args:=#[] }] r8c ⟨t6 s (exprV t x) (a':Nat) .undef,rowsK (erow t x) s (a':Nat) 0⟩ F7 (fun e st' F' => e = .ret /\ (st' = ⟨t8 s (exprV t x) (a':Nat),rowsK (erow t x) s (a':Nat) 0⟩ /\ F' = F7)) HP0:=SafeX.rnb (bx_ok R [] HP0) (bx_ok R _ HP0) (f:=10) (fun p hp => by rw [sub8] at hp; cases hp) 1000 (v8 R s t x (a':Nat) 0 _ F7 ▸ ⟨rfl,rfl,rfl⟩)
    refine wp_mono (h8 m7 a7 w7 m7 _ w7 F7 hr7 hf7 (Step.refl _ _ _) (.refl _ _ _ _)) ?_
    intro e a8 w8 hp
    cases e with
    | panic ch => obtain ⟨_,_,_,_,_,_,hh,_⟩:=hp; exact hh.elim
    | exit id => obtain ⟨_,_,_,_,⟨h,_⟩,_⟩:=hp; cases h
    | normal => obtain ⟨_,_,_,_,⟨h,_⟩,_⟩:=hp; cases h
    | goto l => obtain ⟨_,_,_,h,_⟩:=hp; exact h.elim
    | outgrown => obtain ⟨_,_,_,h,_⟩:=hp; exact h.elim
    | ret =>
     obtain ⟨m8,st8,F8,_,⟨_,rfl,rfl⟩,hr8,hf8,hs8,hl8⟩:=hp
     show Leaves _ _ _ _ a8.defers _ _
     rw [hr8.defers]
     have hvs8:DenL m8 4 ptrs3 vs.toList:=DenL.mono hs8.len hs8.mu hs8.ro _ _ hvs7
     exact leaveN hvs8 hr8 (by (repeat' (first | with_reducible exact VwL.nil | with_reducible refine VwL.cons ?_ ?_ | with_reducible exact Vw.anyI | exact Vw.ptrI (by simp) rfl))) hf8 (hs7'.trans hs8) (hl7'.trans hs7' hl8) (by rw [rdE]; exact hok t hpar' x _ _ hu5 hx) fn hfn
theorem safe10 (R:RR) (s:List UInt8) (F:Fz) (k HP:AV -> Rows -> Fz -> Prop) (hk:ParseQ s k F):SafeCallX Try.prog R 10 [.str s] [] F k HP:=by
 refine SafeCallX.post (wp10 R s F (fun v h F' => gnd v = true /\ k v [] F') (fun _ _ _ => False) ?_ ?_) ?_ ?_
 ·intro t ht x F' h hu hx; exact ⟨rfl,hk.1 t ht x F' hu hx⟩
 ·intro a c hc F' h hu; exact ⟨rfl,hk.2 a c hc F' hu⟩
 ·rintro v h' F' _ ⟨hg,hk⟩
  exact ToV.fit (vE:=v) (hE:=[]) ⟨fun _ => none,⟨fun c b hc => absurd hc (Nat.not_lt_zero _),fun c c' b hc => absurd hc (Nat.not_lt_zero _),fun c r hc => by simp [Rows.live] at hc⟩,gnd_vw _ _ _ hg,fun c hc => absurd hc (Nat.not_lt_zero _),Nat.le_refl _⟩ (ToV.here hk)
 ·rintro v h' F' _ h; exact h.elim
def fJ (n:Nat):Nat:=if n = 156 then 36 else if n = 165 then 43 else if n = 166 then 44 else if n = 169 then 45 else if n = 240 then 50 else if n = 241 then 51 else if n = 276 then 55 else if n = 277 then 56 else 0
def tJ (n:Nat):Nat:=if n = 31 then 74 else if n = 37 then 83 else if n = 70 then 82 else if n = 72 then 85 else if n = 75 then 88 else if n = 76 then 89 else if n = 80 then 91 else if n = 127 then 93 else if n = 164 then 95 else n
def rJ:Ren:={ f:=fJ,g:=fun _ => 0,t:=tJ }
theorem laysJ:Lays.n156 Try.prog rJ:=by constructor <;> first | kernel_rfl | (intro w; kernel_rfl)
theorem extraJ:Builder.Extra Try.prog rJ:={ sizeBuilder:=by kernel_rfl,liesBuilder:=by kernel_rfl,t5:=by kernel_rfl,a5:=by intro w; kernel_rfl,z5:=by intro w; kernel_rfl,v5:=by intro w; kernel_rfl,infoByte:=by kernel_rfl,cellsByte:=by kernel_rfl,sizeByte:=by kernel_rfl,neB5:=by simp [rJ,tJ] }
theorem join_calls (l:List (List UInt8)) (sep:List UInt8) (bk o cap:Nat) (w:World) (hcell:∀ (j:Nat) (s:List UInt8),l[j]? = some s -> w.cell? ⟨bk,o + j,Option.none⟩ = some (.string ⟨⟨s⟩⟩)) (hbk:bk < w.heap.size) (hn:l.length <= 140737488355328) (hcap:l.length <= cap)
  (hlen:(Lib.join l sep).length <= 140737488355328) :
  Calls Try.prog 36 #[.slice (some ⟨bk,o,Option.none⟩) l.length cap,.string ⟨⟨sep⟩⟩] w fun e w' => ∃ c,e = .returned c /\ (∀ m n,Den m n (.str (Lib.join l sep)) c) /\ Below w.heap.size w w':=by
 have hx:(l.map fun s => (⟨⟨s⟩⟩:ByteArray)).map (·.data.toList) = l:=by simp [Function.comp_def]
 have hl:(l.map fun s => (⟨⟨s⟩⟩:ByteArray)).length = l.length:=by simp
 have h1:=Any.strings_Join laysJ extraJ bk o cap (l.map fun s => ⟨⟨s⟩⟩) ⟨⟨sep⟩⟩ w (fun j x hx => by
  simp only [List.getElem?_map] at hx
  obtain ⟨s,hs,rfl⟩:=Option.map_eq_some_iff.1 hx
  exact hcell j s hs) hbk (hl ▸ hn) (hl ▸ hcap) (by rw [hx]; exact hlen)
 rw [hx,hl] at h1
 refine Calls.mono h1 ?_
 rintro e w' ⟨he,hb⟩
 exact ⟨_,he,fun m n => by simp [Den],hb⟩
def spec36:CallSpec:=fun args h k => match args with
 | [.sl false q 0 n _,.str sep] => match h.live q with
  | some (.gen 9 1 n' at_) => n' = n /\ (∀ j,j < n -> at_ j = .str (strOf (at_ j))) /\ n <= 140737488355328 /\ (Lib.join (strsOf n at_) sep).length <= 140737488355328 /\ k (.str (Lib.join (strsOf n at_) sep)) h
  | _ => False
 | _ => False
theorem spec36_ok (R:RR):∀ args h k,spec36 args h k -> SafeCall Try.prog R 36 args h k:=by
 intro args h k hk
 unfold spec36 at hk
 split at hk
 ·rename_i q n u sep
  split at hk
  ·rename_i n' at_ hq
   obtain ⟨rfl,hat,hn,hlen,hk⟩:=hk
   refine (SafeCall.knownRead (v:=.str (Lib.join (strsOf n' at_) sep)) ?_).mono ?_
   ·intro m w vals hW has
    simp only [DenL] at has
    obtain ⟨sv,_,has,hsv,ev,_,rfl,hev,rfl⟩:=has
    simp only [Den] at hev
    subst hev
    have has:vals = #[sv,.string ⟨⟨sep⟩⟩]:=by cases vals; simp_all
    subst has
    have hL:=strsOf_length n' at_
    rcases strs_cells hW (l:=strsOf n' at_) (q:=q) (ty:=9) (at_:=at_) (by rw [hL]; exact hq) (fun j hj => by rw [hL] at hj; rw [strsOf_getD hj]; exact hat j hj) (by rw [hL]; exact hsv) with ⟨h0,a,cap,rfl⟩ | ⟨bk,o,cap,rfl,hcap,hbk,hcell⟩
    ·refine (Any.strings_Join_none laysJ extraJ a cap ⟨⟨sep⟩⟩ w).mono ?_
     rintro e w' ⟨rfl,rfl⟩
     refine ⟨_,rfl,fun m n => ?_,Below.refl _ _⟩
     rw [h0]
     simp [Den,Lib.join_nil]
    ·exact join_calls (strsOf n' at_) sep bk o cap w hcell hbk (by rw [hL]; exact hn) hcap hlen
   ·rintro v' h' ⟨rfl,rfl⟩
    exact hk
  ·exact hk.elim
 ·exact hk.elim
end Go.Dc.Ke
end
