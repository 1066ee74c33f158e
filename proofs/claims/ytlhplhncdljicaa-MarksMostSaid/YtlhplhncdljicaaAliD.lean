/- Are two entries alike: what is computed. -/
import Derived.Test.YtlhplhncdljicaaMarksNil
import Derived.Test.YtlhplhncdljicaaDcZi
set_option linter.unusedVariables false
set_option linter.unusedSimpArgs false
section
namespace Go.Dc.Kb
open Go.Proofs Go.RowKit
set_option maxRecDepth 100000
theorem byRndL {E:Env Prop} (hE:EnvOK Try.prog E id) {f:FuncId} {fi:FI} (hF:E.F f = some fi) {i:Nat} {c:Code} (hb:blockOf fi i = some (.loop c)) {st:St} {k:Exit -> St -> Prop} (n:Nat) {X:Prop} (e:rnd E n f c st k = X) (hX:X):Safe Try.prog E.R c st k :=
 Safe.rnd mixed hE hF hb (subs_loop c) n (e.symm ▸ hX)
abbrev Tx:=List UInt8
abbrev At:=List UInt8 × List UInt8
def atA (N V:Nat -> Tx):Nat -> AV:=fun j => .agg [.str (N j),.str (V j)]
def atL (D:List At):Nat -> AV:=fun j => .agg [.str (D.getD j ([],[])).1,.str (D.getD j ([],[])).2]
def ro2A (t n:Nat) (N V:Nat -> Tx) (t' m:Nat) (N' V':Nat -> Tx):RR:=fun i => match i with | 0 => ⟨t,2,n,atA N V⟩ | 1 => ⟨t',2,m,atA N' V'⟩ | _ + 2 => ⟨0,0,0,fun _ => .undef⟩
def dd (N V:Nat -> Tx):Nat -> List At
 | 0 => []
 | i + 1 => bif (dd N V i).any (fun p => p.1 == N i) then dd N V i else dd N V i ++ [(N i,V i)]
def tm14o (p r:Nat) (i:Int):List AV:=[.any,.ptr false 0 0 0,.ptr false 1 0 0,.ptr false 2 0 0,.ptr false p 0 0,.ptr false r 0 0,.int .i64 i,.any,.any,.any,.any,.any,.any,.any,.any,.any,.any,.any,.any,.any,.any,.any,.any,.any,.any,.any,.any,.any,.any,.any,.any,.any,.any,.any,.any,.any,.any,.any,.any,.any,.any,.any,.any,.any,.any,.any,.any,.any,.any,.any,.any,.any,.any,.any,.any,.any,.any,.any,.any,.any,.any,.any,.any,.any,.any,.any,.any,.any,.any,.any,.any,.any,.any,.any,.any,.any,.any,.any,.any,.any,.any,.any,.any,.any,.any,.any,.any,.any,.any,.any,.any,.any,.any]
theorem tm14o_spr (p r:Nat) (i:Int):tm14o p r i = spr [(1,.ptr false 0 0 0),(2,.ptr false 1 0 0),(3,.ptr false 2 0 0),(4,.ptr false p 0 0),(5,.ptr false r 0 0),(6,.int .i64 i)] 0 93:=by kernel_rfl
def tm14i (p r:Nat) (i:Int) (b:Bool) (k:Int):List AV:=[.any,.ptr false 0 0 0,.ptr false 1 0 0,.ptr false 2 0 0,.ptr false p 0 0,.ptr false r 0 0,.int .i64 i,.bool b,.int .i64 k,.any,.any,.any,.any,.any,.any,.any,.any,.any,.any,.any,.any,.any,.any,.any,.any,.any,.any,.any,.any,.any,.any,.any,.any,.any,.any,.any,.any,.any,.any,.any,.any,.any,.any,.any,.any,.any,.any,.any,.any,.any,.any,.any,.any,.any,.any,.any,.any,.any,.any,.any,.any,.any,.any,.any,.any,.any,.any,.any,.any,.any,.any,.any,.any,.any,.any,.any,.any,.any,.any,.any,.any,.any,.any,.any,.any,.any,.any,.any,.any,.any,.any,.any,.any]
theorem tm14i_spr (p r:Nat) (i:Int) (b:Bool) (k:Int):tm14i p r i b k = spr [(1,.ptr false 0 0 0),(2,.ptr false 1 0 0),(3,.ptr false 2 0 0),(4,.ptr false p 0 0),(5,.ptr false r 0 0),(6,.int .i64 i),(7,.bool b),(8,.int .i64 k)] 0 93:=by kernel_rfl
def tm64 (n:Nat) (i:Int):List AV:=[.sl true 1 0 n .no,.any,.any,.ptr false 0 0 0,.any,.any,.any,.int .i64 n,.int .i64 i,.any,.any,.any,.any,.any,.any,.any,.any,.any,.any]
theorem tm64_spr (n:Nat) (i:Int):tm64 n i = spr [(0,.sl true 1 0 n .no),(3,.ptr false 0 0 0),(7,.int .i64 n),(8,.int .i64 i)] 0 19:=by kernel_rfl
def tm15 (n:Nat) (i:Int):List AV:=[.any,.any,.ptr false 0 0 0,.ptr false 1 0 0,.any,.any,.any,.any,.any,.any,.any,.any,.any,.any,.any,.any,.any,.any,.any,.any,.any,.any,.sl true 0 0 n .no,.int .i64 n,.int .i64 i,.any,.any,.any,.any,.any,.any,.any,.any,.any]
theorem tm15_spr (n:Nat) (i:Int):tm15 n i = spr [(2,.ptr false 0 0 0),(3,.ptr false 1 0 0),(22,.sl true 0 0 n .no),(23,.int .i64 n),(24,.int .i64 i)] 0 34:=by kernel_rfl
def tm16o (c i:Int):List AV:=[.any,.any,.ptr false 0 0 0,.ptr false 1 0 0,.any,.int .i64 c,.int .i64 i,.any,.any,.any,.any,.any,.any,.any,.any,.any,.any,.any,.any,.any,.any,.any,.any,.any,.any,.any,.any,.any,.any,.any,.any,.any,.any,.any,.any,.any,.any,.any,.any,.any,.any,.any,.any,.any,.any,.any,.any,.any,.any,.any,.any,.any,.any,.any]
def tm16i (c i k:Int):List AV:=[.any,.any,.ptr false 0 0 0,.ptr false 1 0 0,.any,.int .i64 c,.int .i64 i,.int .i64 k,.any,.any,.any,.any,.any,.any,.any,.any,.any,.any,.any,.any,.any,.any,.any,.any,.any,.any,.any,.any,.any,.any,.any,.any,.any,.any,.any,.any,.any,.any,.any,.any,.any,.any,.any,.any,.any,.any,.any,.any,.any,.any,.any,.any,.any,.any]
noncomputable def lp14o:Code:=loopOf fi14 0
theorem blk14o:blockOf fi14 0 = some (.loop lp14o):=by kernel_rfl
noncomputable def lp14i:Code:=loopOf fi14 2
theorem blk14i:blockOf fi14 2 = some (.loop lp14i):=by kernel_rfl
noncomputable def lp64:Code:=loopOf fi64 0
theorem blk64:blockOf fi64 0 = some (.loop lp64):=by kernel_rfl
noncomputable def lp15:Code:=loopOf fi15 0
theorem blk15:blockOf fi15 0 = some (.loop lp15):=by kernel_rfl
abbrev actA (wh at_ nd:Int) (nm:Tx) (q n:Nat):AV:=.agg [.int .i64 wh,.int .i64 at_,.int .i64 nd,.str nm,.sl true q 0 n .no]
abbrev entA (nd:Int) (nm:Tx) (s:AV):AV:=.agg [.int .i64 nd,.str nm,s]
abbrev zE (t:TypeId):Option Row:=some (.lst t 3 [entA 0 [] .nils])
abbrev rX (nd:Int) (nm:Tx) (v:AV):Option Row:=some (.lst 37 3 [entA nd nm v])
abbrev rY (nd:Int) (nm:Tx) (v:AV):Option Row:=some (.lst 40 3 [entA nd nm v])
def rOa (wh at_ nd:Int) (nm:Tx) (q n:Nat) (D:List At):Rows:=[some (.lst 34 5 [actA wh at_ nd nm q n]),zE 37,zE 40,rX nd nm (.sl false 5 0 D.length .no),rY nd nm (.sl false 6 0 D.length .no),some (.gen 90 2 D.length (atL D)),some (.gen 88 2 D.length (atL D))]
def rOb (wh at_ nd:Int) (nm:Tx) (q n:Nat) (D:List At):Rows:=[some (.lst 34 5 [actA wh at_ nd nm q n]),zE 37,zE 40,rY nd nm (.sl false 6 0 D.length .no),rX nd nm (.sl false 5 0 D.length .no),some (.gen 90 2 D.length (atL D)),some (.gen 88 2 D.length (atL D))]
def r0a (wh at_ nd:Int) (nm:Tx) (q n:Nat):Rows:=[some (.lst 34 5 [actA wh at_ nd nm q n]),zE 37,zE 40,rX nd nm .nils,rY nd nm .nils]
def r0b (wh at_ nd:Int) (nm:Tx) (q n:Nat):Rows:=[some (.lst 34 5 [actA wh at_ nd nm q n]),zE 37,zE 40,rY nd nm .nils,rX nd nm .nils]
def spec14i (p r:Nat) (P:Prop) (h0:Rows) (i:Int) (m:Nat) (x:Bool):LoopSp:=fun st k =>
 (P /\ nthV st.tmps 1 = .ptr false 0 0 0 /\ nthV st.tmps 2 = .ptr false 1 0 0 /\ nthV st.tmps 3 = .ptr false 2 0 0 /\ nthV st.tmps 4 = .ptr false p 0 0 /\ nthV st.tmps 5 = .ptr false r 0 0 /\ nthV st.tmps 6 = .int .i64 i /\ nthV st.tmps 7 = .bool false /\ nthV st.tmps 8 = .int .i64 0 /\ st.tmps.length = 93 /\ RowsAre st.rows h0) /\
 k .normal ⟨tm14i p r i x (m:Nat),h0⟩
end Go.Dc.Kb
end
section
namespace Go.Dc.Kb
open Go.Proofs Go.RowKit
set_option maxRecDepth 100000
theorem atL_row {f:Nat -> Option Nat} {N t:Nat} (D:List At):RowV f N (.gen t 2 D.length (atL D)) (.gen t 2 D.length (atL D)):=.gen rfl fun i hi => ⟨rfl,gnd_vw _ _ _ rfl⟩
theorem any_take (D:List At) (x:Tx) (k:Nat) (h:k < D.length):(D.take (k + 1)).any (fun p => p.1 == x) = ((D.take k).any (fun p => p.1 == x) || (D.getD k ([],[])).1 == x):=by
 rw [List.take_add_one,List.getElem?_eq_getElem h,List.any_append]
 simp [List.getD,List.getElem?_eq_getElem h]
theorem dd_len (N V:Nat -> Tx):∀ i,(dd N V i).length <= i:=by
 intro i
 induction i with
 | zero => simp [dd]
 | succ i ih =>
  simp only [dd]
  cases (dd N V i).any (fun p => p.1 == N i) <;> simp <;> omega
theorem snoc_atL (D:List At) (e:At) (j:Nat) (hj:j < D.length + 1):(bif j.blt D.length then AV.agg [AV.str (D.getD (0 + j) ([],[])).fst,AV.str (D.getD (0 + j) ([],[])).snd] else (Src.lst [AV.agg [AV.str e.1,AV.str e.2]]).at_ (j - D.length)) = atL (D ++ [e]) j:=by
 unfold atL
 by_cases h:j < D.length
 ·rw [show j.blt D.length = true by simpa [Nat.blt_eq] using h,Nat.zero_add]
  simp [List.getD,List.getElem?_append_left h]
 ·have:j = D.length:=by omega
  subst this
  rw [show (D.length).blt D.length = false by rw [Bool.eq_false_iff]; simp [Nat.blt_eq],Nat.sub_self]
  simp [List.getD,Src.at_]
def mvAB (a b:Nat):Nat -> Option Nat:=fun c => bif Nat.beq c 5 then some a else bif Nat.beq c 6 then some b else some c
theorem vr14i0a (t n:Nat) (N V:Nat -> Tx) (t' m:Nat) (N' V':Nat -> Tx) (wh at_ nd:Int) (nm:Tx) (D:List At) (i:Nat) (b:Bool) (k:Nat) (K:Exit -> St -> Prop):rnd (base (ro2A t n N V t' m N' V')) 1000 14 lp14i ⟨tm14i 3 4 (i:Nat) b (k:Nat),rOa wh at_ nd nm 0 n D⟩ K = (bif decide ((↑k:Int) < (↑D.length:Int)) then bif b then K Exit.normal (St.mk [AV.any,AV.ptr false 0 0 0,AV.ptr false 1 0 0,AV.ptr false 2 0 0,AV.ptr false 3 0 0,AV.ptr false 4 0 0,iI (↑i:Int),AV.bool true,iI (IntKind.i64.wrap ((↑k:Int) + 1)),AV.any,AV.any,AV.any,AV.any,AV.any,AV.any,AV.any,AV.any,AV.any,AV.any,AV.any,AV.any,AV.any,AV.any,AV.any,AV.any,AV.any,AV.any,AV.any,AV.any,AV.any,iI (↑k:Int),AV.ptr false 4 0 2,AV.sl false 6 0 D.length Cp.no,iI (↑D.length:Int),AV.bool true,iI (↑k:Int),iI (IntKind.i64.wrap ((↑k:Int) + 1)),AV.bool b,AV.bool true,AV.tup [],AV.tup [],AV.tup [],AV.tup [],AV.tup [],AV.tup [],AV.tup [],AV.tup [],AV.tup [],AV.tup [],AV.tup [],AV.tup [],AV.tup [],AV.bool true,AV.any,AV.any,AV.any,AV.any,AV.any,AV.any,AV.any,AV.any,AV.any,AV.any,AV.any,AV.any,AV.any,AV.any,AV.any,AV.any,AV.any,AV.any,AV.any,AV.any,AV.any,AV.any,AV.any,AV.any,AV.any,AV.any,AV.any,AV.any,AV.any,AV.any,AV.any,AV.any,AV.any,AV.any,AV.any,AV.any,AV.any,AV.any,AV.any,AV.any] [some (Row.lst 34 5 [AV.agg [iI wh,iI at_,iI nd,AV.str nm,AV.sl true 0 0 n Cp.no]]),some (Row.lst 37 3 [AV.agg [iI 0,AV.str [],AV.nils]]),some (Row.lst 40 3 [AV.agg [iI 0,AV.str [],AV.nils]]),some (Row.lst 37 3 [AV.agg [iI nd,AV.str nm,AV.sl false 5 0 D.length Cp.no]]),some (Row.lst 40 3 [AV.agg [iI nd,AV.str nm,AV.sl false 6 0 D.length Cp.no]]),some (Row.gen 90 2 D.length fun j => AV.agg [AV.str (D.getD j ([],[])).fst,AV.str (D.getD j ([],[])).snd]),some (Row.gen 88 2 D.length fun j => AV.agg [AV.str (D.getD j ([],[])).fst,AV.str (D.getD j ([],[])).snd])]) else bif true && decide ((↑k:Int) < (↑D.length:Int)) then bif decide (0 + (↑k:Int).toNat < D.length) then bif true && decide ((↑i:Int) < (↑n:Int)) then bif decide (0 + (↑i:Int).toNat < ((base (ro2A t n N V t' m N' V')).R 0).n) then K Exit.normal (St.mk [AV.any,AV.ptr false 0 0 0,AV.ptr false 1 0 0,AV.ptr false 2 0 0,AV.ptr false 3 0 0,AV.ptr false 4 0 0,iI (↑i:Int),AV.bool ((D.getD (0 + (↑k:Int).toNat) ([],[])).fst == N (0 + (↑i:Int).toNat)),iI (IntKind.i64.wrap ((↑k:Int) + 1)),AV.any,AV.any,AV.any,AV.any,AV.any,AV.any,AV.any,AV.any,AV.any,AV.any,AV.any,AV.any,AV.any,AV.any,AV.any,AV.any,AV.any,AV.any,AV.any,AV.any,AV.any,iI (↑k:Int),AV.ptr false 4 0 2,AV.sl false 6 0 D.length Cp.no,iI (↑D.length:Int),AV.bool true,iI (↑k:Int),iI (IntKind.i64.wrap ((↑k:Int) + 1)),AV.bool b,AV.bool false,AV.ptr false 4 0 2,AV.sl false 6 0 D.length Cp.no,iI (↑k:Int),AV.ptr false 6 (0 + (↑k:Int).toNat) 0,AV.ptr false 6 (0 + (↑k:Int).toNat) 0,AV.str (D.getD (0 + (↑k:Int).toNat) ([],[])).fst,AV.ptr false 0 0 4,AV.sl true 0 0 n Cp.no,iI (↑i:Int),AV.ptr true 0 (0 + (↑i:Int).toNat) 0,AV.ptr true 0 (0 + (↑i:Int).toNat) 0,AV.str (N (0 + (↑i:Int).toNat)),AV.bool ((D.getD (0 + (↑k:Int).toNat) ([],[])).fst == N (0 + (↑i:Int).toNat)),AV.bool ((D.getD (0 + (↑k:Int).toNat) ([],[])).fst == N (0 + (↑i:Int).toNat)),AV.any,AV.any,AV.any,AV.any,AV.any,AV.any,AV.any,AV.any,AV.any,AV.any,AV.any,AV.any,AV.any,AV.any,AV.any,AV.any,AV.any,AV.any,AV.any,AV.any,AV.any,AV.any,AV.any,AV.any,AV.any,AV.any,AV.any,AV.any,AV.any,AV.any,AV.any,AV.any,AV.any,AV.any,AV.any,AV.any,AV.any,AV.any,AV.any,AV.any] [some (Row.lst 34 5 [AV.agg [iI wh,iI at_,iI nd,AV.str nm,AV.sl true 0 0 n Cp.no]]),some (Row.lst 37 3 [AV.agg [iI 0,AV.str [],AV.nils]]),some (Row.lst 40 3 [AV.agg [iI 0,AV.str [],AV.nils]]),some (Row.lst 37 3 [AV.agg [iI nd,AV.str nm,AV.sl false 5 0 D.length Cp.no]]),some (Row.lst 40 3 [AV.agg [iI nd,AV.str nm,AV.sl false 6 0 D.length Cp.no]]),some (Row.gen 90 2 D.length fun j => AV.agg [AV.str (D.getD j ([],[])).fst,AV.str (D.getD j ([],[])).snd]),some (Row.gen 88 2 D.length fun j => AV.agg [AV.str (D.getD j ([],[])).fst,AV.str (D.getD j ([],[])).snd])]) else False else False else False else False else K (Exit.exit 2) (St.mk [AV.any,AV.ptr false 0 0 0,AV.ptr false 1 0 0,AV.ptr false 2 0 0,AV.ptr false 3 0 0,AV.ptr false 4 0 0,iI (↑i:Int),AV.bool b,iI (↑k:Int),AV.any,AV.any,AV.any,AV.any,AV.any,AV.any,AV.any,AV.any,AV.any,AV.any,AV.any,AV.any,AV.any,AV.any,AV.any,AV.any,AV.any,AV.any,AV.any,AV.any,AV.any,iI (↑k:Int),AV.ptr false 4 0 2,AV.sl false 6 0 D.length Cp.no,iI (↑D.length:Int),AV.bool false,AV.any,AV.any,AV.any,AV.any,AV.any,AV.any,AV.any,AV.any,AV.any,AV.any,AV.any,AV.any,AV.any,AV.any,AV.any,AV.any,AV.any,AV.any,AV.any,AV.any,AV.any,AV.any,AV.any,AV.any,AV.any,AV.any,AV.any,AV.any,AV.any,AV.any,AV.any,AV.any,AV.any,AV.any,AV.any,AV.any,AV.any,AV.any,AV.any,AV.any,AV.any,AV.any,AV.any,AV.any,AV.any,AV.any,AV.any,AV.any,AV.any,AV.any,AV.any,AV.any,AV.any,AV.any,AV.any,AV.any,AV.any,AV.any] [some (Row.lst 34 5 [AV.agg [iI wh,iI at_,iI nd,AV.str nm,AV.sl true 0 0 n Cp.no]]),some (Row.lst 37 3 [AV.agg [iI 0,AV.str [],AV.nils]]),some (Row.lst 40 3 [AV.agg [iI 0,AV.str [],AV.nils]]),some (Row.lst 37 3 [AV.agg [iI nd,AV.str nm,AV.sl false 5 0 D.length Cp.no]]),some (Row.lst 40 3 [AV.agg [iI nd,AV.str nm,AV.sl false 6 0 D.length Cp.no]]),some (Row.gen 90 2 D.length fun j => AV.agg [AV.str (D.getD j ([],[])).fst,AV.str (D.getD j ([],[])).snd]),some (Row.gen 88 2 D.length fun j => AV.agg [AV.str (D.getD j ([],[])).fst,AV.str (D.getD j ([],[])).snd])])):=by kernel_rfl
theorem vr14o0a (t n:Nat) (N V:Nat -> Tx) (t' m:Nat) (N' V':Nat -> Tx) (wh at_ nd:Int) (nm:Tx) (D:List At) (i:Nat) (x:Bool) (K:Exit -> St -> Prop):rnd ((base (ro2A t n N V t' m N' V')).addLoop 14 2 (spec14i 3 4 (i < n) (rOa wh at_ nd nm 0 n D) i D.length x)) 1000 14 lp14o ⟨tm14o 3 4 (i:Nat),rOa wh at_ nd nm 0 n D⟩ K = (bif decide ((↑i:Int) < (↑n:Int)) then bif decide ((↑i:Int) < 20) then (i.succ.le n /\ AV.ptr false 0 0 0 = AV.ptr false 0 0 0 /\ AV.ptr false 1 0 0 = AV.ptr false 1 0 0 /\ AV.ptr false 2 0 0 = AV.ptr false 2 0 0 /\ AV.ptr false 3 0 0 = AV.ptr false 3 0 0 /\ AV.ptr false 4 0 0 = AV.ptr false 4 0 0 /\ iI (↑i:Int) = iI (↑i:Int) /\ AV.bool false = AV.bool false /\ iI 0 = iI 0 /\ 93 = 93 /\ RowsAre [some (Row.lst 34 5 [AV.agg [iI wh,iI at_,iI nd,AV.str nm,AV.sl true 0 0 n Cp.no]]),some (Row.lst 37 3 [AV.agg [iI 0,AV.str [],AV.nils]]),some (Row.lst 40 3 [AV.agg [iI 0,AV.str [],AV.nils]]),some (Row.lst 37 3 [AV.agg [iI nd,AV.str nm,AV.sl false 5 0 D.length Cp.no]]),some (Row.lst 40 3 [AV.agg [iI nd,AV.str nm,AV.sl false 6 0 D.length Cp.no]]),some (Row.gen 90 2 D.length fun j => AV.agg [AV.str (D.getD j ([],[])).fst,AV.str (D.getD j ([],[])).snd]),some (Row.gen 88 2 D.length fun j => AV.agg [AV.str (D.getD j ([],[])).fst,AV.str (D.getD j ([],[])).snd])] [some (Row.lst 34 5 [AV.agg [iI wh,iI at_,iI nd,AV.str nm,AV.sl true 0 0 n Cp.no]]),some (Row.lst 37 3 [AV.agg [iI 0,AV.str [],AV.nils]]),some (Row.lst 40 3 [AV.agg [iI 0,AV.str [],AV.nils]]),some (Row.lst 37 3 [AV.agg [iI nd,AV.str nm,AV.sl false 5 0 D.length Cp.no]]),some (Row.lst 40 3 [AV.agg [iI nd,AV.str nm,AV.sl false 6 0 D.length Cp.no]]),some (Row.gen 90 2 D.length fun j => AV.agg [AV.str (D.getD j ([],[])).fst,AV.str (D.getD j ([],[])).snd]),some (Row.gen 88 2 D.length fun j => AV.agg [AV.str (D.getD j ([],[])).fst,AV.str (D.getD j ([],[])).snd])]) /\ bif !x then bif true && decide ((↑i:Int) < (↑n:Int)) then bif decide (0 + (↑i:Int).toNat < (((base (ro2A t n N V t' m N' V')).addLoop 14 2 (spec14i 3 4 (i < n) (rOa wh at_ nd nm 0 n D) (↑i:Int) D.length x)).R 0).n) then bif true && decide ((↑i:Int) < (↑n:Int)) then bif decide (0 + (↑i:Int).toNat < (((base (ro2A t n N V t' m N' V')).addLoop 14 2 (spec14i 3 4 (i < n) (rOa wh at_ nd nm 0 n D) (↑i:Int) D.length x)).R 0).n) then AV.sl false 5 0 D.length Cp.no = AV.sl false 5 0 D.length Cp.no /\ bif decide (0 + D.length <= D.length) && (true && (true && decide (((Src.gen D.length fun j => atL D (0 + j)).len + 1) * 32 <= 140737488355328))) then bif true && decide ((↑i:Int) < (↑n:Int)) then bif decide (0 + (↑i:Int).toNat < (((base (ro2A t n N V t' m N' V')).addLoop 14 2 (spec14i 3 4 (i < n) (rOa wh at_ nd nm 0 n D) (↑i:Int) D.length x)).R 0).n) then bif true && decide ((↑i:Int) < (↑n:Int)) then bif decide (0 + (↑i:Int).toNat < (((base (ro2A t n N V t' m N' V')).addLoop 14 2 (spec14i 3 4 (i < n) (rOa wh at_ nd nm 0 n D) (↑i:Int) D.length x)).R 0).n) then AV.sl false 6 0 D.length Cp.no = AV.sl false 6 0 D.length Cp.no /\ bif decide (0 + D.length <= D.length) && (true && (true && decide (((Src.gen D.length fun j => atL D (0 + j)).len + 1) * 32 <= 140737488355328))) then K Exit.normal (St.mk [AV.any,AV.ptr false 0 0 0,AV.ptr false 1 0 0,AV.ptr false 2 0 0,AV.ptr false 3 0 0,AV.ptr false 4 0 0,iI (IntKind.i64.wrap ((↑i:Int) + 1)),AV.bool x,iI (↑D.length:Int),AV.any,AV.any,AV.any,AV.any,AV.any,AV.any,AV.any,AV.any,AV.any,AV.any,AV.any,AV.any,AV.any,AV.any,AV.any,AV.any,AV.any,AV.any,AV.any,iI (↑i:Int),iI (IntKind.i64.wrap ((↑i:Int) + 1)),AV.any,AV.any,AV.any,AV.any,AV.any,AV.any,AV.any,AV.any,AV.any,AV.any,AV.any,AV.any,AV.any,AV.any,AV.any,AV.any,AV.any,AV.any,AV.any,AV.any,AV.any,AV.any,AV.any,AV.bool x,AV.bool true,AV.ptr false 3 0 2,AV.sl false 5 0 D.length Cp.no,AV.ptr false 0 0 4,AV.sl true 0 0 n Cp.no,iI (↑i:Int),AV.ptr true 0 (0 + (↑i:Int).toNat) 0,AV.ptr true 0 (0 + (↑i:Int).toNat) 0,AV.str (N (0 + (↑i:Int).toNat)),AV.ptr false 0 0 4,AV.sl true 0 0 n Cp.no,iI (↑i:Int),AV.ptr true 0 (0 + (↑i:Int).toNat) 0,AV.ptr true 0 (0 + (↑i:Int).toNat) 1,AV.str (V (0 + (↑i:Int).toNat)),AV.agg [AV.str (N (0 + (↑i:Int).toNat)),AV.str (V (0 + (↑i:Int).toNat))],AV.sl false 7 0 1 Cp.tight,AV.sl false 8 0 ((Src.gen D.length fun j => atL D (0 + j)).len + 1) Cp.no,AV.ptr false 3 0 2,AV.ptr false 4 0 2,AV.sl false 6 0 D.length Cp.no,AV.ptr false 0 0 4,AV.sl true 0 0 n Cp.no,iI (↑i:Int),AV.ptr true 0 (0 + (↑i:Int).toNat) 0,AV.ptr true 0 (0 + (↑i:Int).toNat) 0,AV.str (N (0 + (↑i:Int).toNat)),AV.ptr false 0 0 4,AV.sl true 0 0 n Cp.no,iI (↑i:Int),AV.ptr true 0 (0 + (↑i:Int).toNat) 0,AV.ptr true 0 (0 + (↑i:Int).toNat) 1,AV.str (V (0 + (↑i:Int).toNat)),AV.agg [AV.str (N (0 + (↑i:Int).toNat)),AV.str (V (0 + (↑i:Int).toNat))],AV.sl false 9 0 1 Cp.tight,AV.sl false 10 0 ((Src.gen D.length fun j => atL D (0 + j)).len + 1) Cp.no,AV.ptr false 4 0 2,AV.any,AV.any] [some (Row.lst 34 5 [AV.agg [iI wh,iI at_,iI nd,AV.str nm,AV.sl true 0 0 n Cp.no]]),some (Row.lst 37 3 [AV.agg [iI 0,AV.str [],AV.nils]]),some (Row.lst 40 3 [AV.agg [iI 0,AV.str [],AV.nils]]),some (Row.lst 37 3 [AV.agg [iI nd,AV.str nm,AV.sl false 8 0 ((Src.gen D.length fun j => atL D (0 + j)).len + 1) Cp.no]]),some (Row.lst 40 3 [AV.agg [iI nd,AV.str nm,AV.sl false 10 0 ((Src.gen D.length fun j => atL D (0 + j)).len + 1) Cp.no]]),none,none,some (Row.lst 90 2 [AV.agg [AV.str (N (0 + (↑i:Int).toNat)),AV.str (V (0 + (↑i:Int).toNat))]]),some (Row.gen 90 2 ((Src.gen D.length fun j => atL D (0 + j)).len + 1) fun j => bif j.blt (Src.gen D.length fun j => atL D (0 + j)).len then AV.agg [AV.str (D.getD (0 + j) ([],[])).fst,AV.str (D.getD (0 + j) ([],[])).snd] else (Src.lst [AV.agg [AV.str (N (0 + (↑i:Int).toNat)),AV.str (V (0 + (↑i:Int).toNat))]]).at_ (j - (Src.gen D.length fun j => atL D (0 + j)).len)),some (Row.lst 88 2 [AV.agg [AV.str (N (0 + (↑i:Int).toNat)),AV.str (V (0 + (↑i:Int).toNat))]]),some (Row.gen 88 2 ((Src.gen D.length fun j => atL D (0 + j)).len + 1) fun j => bif j.blt (Src.gen D.length fun j => atL D (0 + j)).len then AV.agg [AV.str (D.getD (0 + j) ([],[])).fst,AV.str (D.getD (0 + j) ([],[])).snd] else (Src.lst [AV.agg [AV.str (N (0 + (↑i:Int).toNat)),AV.str (V (0 + (↑i:Int).toNat))]]).at_ (j - (Src.gen D.length fun j => atL D (0 + j)).len))]) else False else False else False else False else False else False else False else False else False else False else K Exit.normal (St.mk [AV.any,AV.ptr false 0 0 0,AV.ptr false 1 0 0,AV.ptr false 2 0 0,AV.ptr false 3 0 0,AV.ptr false 4 0 0,iI (IntKind.i64.wrap ((↑i:Int) + 1)),AV.bool x,iI (↑D.length:Int),AV.any,AV.any,AV.any,AV.any,AV.any,AV.any,AV.any,AV.any,AV.any,AV.any,AV.any,AV.any,AV.any,AV.any,AV.any,AV.any,AV.any,AV.any,AV.any,iI (↑i:Int),iI (IntKind.i64.wrap ((↑i:Int) + 1)),AV.any,AV.any,AV.any,AV.any,AV.any,AV.any,AV.any,AV.any,AV.any,AV.any,AV.any,AV.any,AV.any,AV.any,AV.any,AV.any,AV.any,AV.any,AV.any,AV.any,AV.any,AV.any,AV.any,AV.bool x,AV.bool false,AV.any,AV.any,AV.any,AV.any,AV.any,AV.any,AV.any,AV.any,AV.any,AV.any,AV.any,AV.any,AV.any,AV.any,AV.any,AV.any,AV.any,AV.any,AV.any,AV.any,AV.any,AV.any,AV.any,AV.any,AV.any,AV.any,AV.any,AV.any,AV.any,AV.any,AV.any,AV.any,AV.any,AV.any,AV.any,AV.any,AV.any,AV.any] [some (Row.lst 34 5 [AV.agg [iI wh,iI at_,iI nd,AV.str nm,AV.sl true 0 0 n Cp.no]]),some (Row.lst 37 3 [AV.agg [iI 0,AV.str [],AV.nils]]),some (Row.lst 40 3 [AV.agg [iI 0,AV.str [],AV.nils]]),some (Row.lst 37 3 [AV.agg [iI nd,AV.str nm,AV.sl false 5 0 D.length Cp.no]]),some (Row.lst 40 3 [AV.agg [iI nd,AV.str nm,AV.sl false 6 0 D.length Cp.no]]),some (Row.gen 90 2 D.length fun j => AV.agg [AV.str (D.getD j ([],[])).fst,AV.str (D.getD j ([],[])).snd]),some (Row.gen 88 2 D.length fun j => AV.agg [AV.str (D.getD j ([],[])).fst,AV.str (D.getD j ([],[])).snd])]) else K (Exit.exit 0) (St.mk [AV.any,AV.ptr false 0 0 0,AV.ptr false 1 0 0,AV.ptr false 2 0 0,AV.ptr false 3 0 0,AV.ptr false 4 0 0,iI (↑i:Int),AV.any,AV.any,AV.any,AV.any,AV.any,AV.any,AV.any,AV.any,AV.any,AV.any,AV.any,AV.any,iI (↑i:Int),AV.ptr false 0 0 4,AV.sl true 0 0 n Cp.no,iI (↑n:Int),AV.bool (decide ((↑i:Int) < (↑n:Int))),AV.bool true,iI (↑i:Int),AV.bool (decide ((↑i:Int) < 20)),AV.bool false,AV.any,AV.any,AV.any,AV.any,AV.any,AV.any,AV.any,AV.any,AV.any,AV.any,AV.any,AV.any,AV.any,AV.any,AV.any,AV.any,AV.any,AV.any,AV.any,AV.any,AV.any,AV.any,AV.any,AV.any,AV.any,AV.any,AV.any,AV.any,AV.any,AV.any,AV.any,AV.any,AV.any,AV.any,AV.any,AV.any,AV.any,AV.any,AV.any,AV.any,AV.any,AV.any,AV.any,AV.any,AV.any,AV.any,AV.any,AV.any,AV.any,AV.any,AV.any,AV.any,AV.any,AV.any,AV.any,AV.any,AV.any,AV.any,AV.any,AV.any,AV.any,AV.any,AV.any,AV.any,AV.any] [some (Row.lst 34 5 [AV.agg [iI wh,iI at_,iI nd,AV.str nm,AV.sl true 0 0 n Cp.no]]),some (Row.lst 37 3 [AV.agg [iI 0,AV.str [],AV.nils]]),some (Row.lst 40 3 [AV.agg [iI 0,AV.str [],AV.nils]]),some (Row.lst 37 3 [AV.agg [iI nd,AV.str nm,AV.sl false 5 0 D.length Cp.no]]),some (Row.lst 40 3 [AV.agg [iI nd,AV.str nm,AV.sl false 6 0 D.length Cp.no]]),some (Row.gen 90 2 D.length fun j => AV.agg [AV.str (D.getD j ([],[])).fst,AV.str (D.getD j ([],[])).snd]),some (Row.gen 88 2 D.length fun j => AV.agg [AV.str (D.getD j ([],[])).fst,AV.str (D.getD j ([],[])).snd])]) else K (Exit.exit 0) (St.mk [AV.any,AV.ptr false 0 0 0,AV.ptr false 1 0 0,AV.ptr false 2 0 0,AV.ptr false 3 0 0,AV.ptr false 4 0 0,iI (↑i:Int),AV.any,AV.any,AV.any,AV.any,AV.any,AV.any,AV.any,AV.any,AV.any,AV.any,AV.any,AV.any,iI (↑i:Int),AV.ptr false 0 0 4,AV.sl true 0 0 n Cp.no,iI (↑n:Int),AV.bool (decide ((↑i:Int) < (↑n:Int))),AV.bool false,AV.tup [],AV.tup [],AV.bool false,AV.any,AV.any,AV.any,AV.any,AV.any,AV.any,AV.any,AV.any,AV.any,AV.any,AV.any,AV.any,AV.any,AV.any,AV.any,AV.any,AV.any,AV.any,AV.any,AV.any,AV.any,AV.any,AV.any,AV.any,AV.any,AV.any,AV.any,AV.any,AV.any,AV.any,AV.any,AV.any,AV.any,AV.any,AV.any,AV.any,AV.any,AV.any,AV.any,AV.any,AV.any,AV.any,AV.any,AV.any,AV.any,AV.any,AV.any,AV.any,AV.any,AV.any,AV.any,AV.any,AV.any,AV.any,AV.any,AV.any,AV.any,AV.any,AV.any,AV.any,AV.any,AV.any,AV.any,AV.any,AV.any] [some (Row.lst 34 5 [AV.agg [iI wh,iI at_,iI nd,AV.str nm,AV.sl true 0 0 n Cp.no]]),some (Row.lst 37 3 [AV.agg [iI 0,AV.str [],AV.nils]]),some (Row.lst 40 3 [AV.agg [iI 0,AV.str [],AV.nils]]),some (Row.lst 37 3 [AV.agg [iI nd,AV.str nm,AV.sl false 5 0 D.length Cp.no]]),some (Row.lst 40 3 [AV.agg [iI nd,AV.str nm,AV.sl false 6 0 D.length Cp.no]]),some (Row.gen 90 2 D.length fun j => AV.agg [AV.str (D.getD j ([],[])).fst,AV.str (D.getD j ([],[])).snd]),some (Row.gen 88 2 D.length fun j => AV.agg [AV.str (D.getD j ([],[])).fst,AV.str (D.getD j ([],[])).snd])])):=by kernel_rfl
theorem loop14i0a (t n:Nat) (N V:Nat -> Tx) (t' m:Nat) (N' V':Nat -> Tx) (wh at_ nd:Int) (nm:Tx) (D:List At) (i:Nat) (hi:i < n) (hD:D.length <= 1000000) (st0:St) (hT:VwL some 7 (tm14i 3 4 (i:Nat) false ((0:Nat):Int)) st0.tmps) (hr:st0.rows = rOa wh at_ nd nm 0 n D) {Q:Exit -> St -> Prop}
  (h:Q .normal ⟨tm14i 3 4 (i:Nat) (D.any (fun p => p.1 == N i)) (D.length:Nat),rOa wh at_ nd nm 0 n D⟩):Safe Try.prog (base (ro2A t n N V t' m N' V')).R (.block 2 (.loop lp14i)) st0 Q:=by
 have hlen:st0.rows.length = 7:=by rw [hr]; rfl
 have vR:View some (rOa wh at_ nd nm 0 n D) (rOa wh at_ nd nm 0 n D):=by
  refine View.of ?_ (fun c c' b h1 h2 h3 h4 => some_inj _ c c' b h1 h2 h3 h4)
  intro c o ho
  match c with
  | 0 => cases ho; exact ViewL.at_ (b:=0) rfl rfl (.gnd rfl rfl)
  | 1 => cases ho; exact ViewL.at_ (b:=1) rfl rfl (.gnd rfl rfl)
  | 2 => cases ho; exact ViewL.at_ (b:=2) rfl rfl (.gnd rfl rfl)
  | 3 => cases ho; exact ViewL.at_ (b:=3) rfl rfl (RowV.lst1 rfl (by simp only [rOa]; (repeat' (first | with_reducible exact VwL.nil | with_reducible refine VwL.cons ?_ ?_ | with_reducible exact Vw.strI | with_reducible exact Vw.intI | with_reducible exact Vw.boolI | with_reducible exact Vw.nilsI | with_reducible refine Vw.aggI ?_ | exact Vw.gndI rfl | exact Vw.slI (by simp) rfl))))
  | 4 => cases ho; exact ViewL.at_ (b:=4) rfl rfl (RowV.lst1 rfl (by simp only [rOa]; (repeat' (first | with_reducible exact VwL.nil | with_reducible refine VwL.cons ?_ ?_ | with_reducible exact Vw.strI | with_reducible exact Vw.intI | with_reducible exact Vw.boolI | with_reducible exact Vw.nilsI | with_reducible refine Vw.aggI ?_ | exact Vw.gndI rfl | exact Vw.slI (by simp) rfl))))
  | 5 => cases ho; exact ViewL.at_ (b:=5) rfl rfl (atL_row D)
  | 6 => cases ho; exact ViewL.at_ (b:=6) rfl rfl (atL_row D)
  | c + 7 => simp [rOa] at ho
 refine (loop_block (I:={k:Nat // k <= D.length}) (fam:=fun k => ⟨tm14i 3 4 (i:Nat) ((D.take k.1).any (fun p => p.1 == N i)) (k.1:Nat),rOa wh at_ nd nm 0 n D⟩) (fun k => D.length - k.1)
  (X:=fun e stE => e = .exit 2 /\ stE = ⟨tm14i 3 4 (i:Nat) (D.any (fun p => p.1 == N i)) (D.length:Nat),rOa wh at_ nd nm 0 n D⟩) (id:=2) (i0:=⟨0,Nat.zero_le _⟩) (st:=st0) (f:=some) ?_ ?_ ?_ ?_).mono ?_
 ·exact ⟨by rw [hr]; exact vR,hT⟩
 ·intro c hc; rfl
 ·intro k; rw [hlen]; exact Nat.le_refl _
 ·rintro ⟨k,hk⟩
  rw [hlen]
  refine byRndL (base_ok _) (f:=14) (fi:=fi14) (by kernel_rfl) blk14i 1000 (vr14i0a t n N V t' m N' V' wh at_ nd nm D i _ k _) ?_
  rw [wrapSucc k (by omega)]
  have hk0:0 + (k:Int).toNat = k:=by simp
  have hi0:0 + (i:Int).toNat = i:=by simp
  rw [hk0,hi0]
  refine hcB (fun c1 => ?_) (fun c1 => ?_)
  ·have c1:k < D.length:=by have:=of_decide_eq_true c1; omega
   have step:=any_take D (N i) k c1
   refine hcB (fun cb => ?_) (fun cb => ?_)
   ·refine ⟨⟨k + 1,by omega⟩,by show D.length - (k + 1) < D.length - k; omega,some,⟨vR,?_⟩,fun _ _ => rfl,Nat.le_refl _⟩
    rw [show (D.take (k + 1)).any (fun p => p.1 == N i) = true by rw [step,cb]; rfl]
    first | (rw [cb]; ((simp only [tm14o,tm14i,tm64,tm15,tm16o,tm16i]; repeat' (first | with_reducible exact VwL.nil | with_reducible refine VwL.cons ?_ ?_ | with_reducible exact Vw.anyI | with_reducible exact Vw.strI | with_reducible exact Vw.boolI | with_reducible exact Vw.intI | with_reducible exact Vw.intE rfl | exact Vw.slI (by decide) rfl | exact Vw.slI (by simp) rfl | exact Vw.ptrI (by decide) rfl | exact Vw.ptrI (by simp [rOa]) rfl | exact Vw.ptrI (by simp [rOb]) rfl | exact Vw.gndI rfl)))) | ((simp only [tm14o,tm14i,tm64,tm15,tm16o,tm16i]; repeat' (first | with_reducible exact VwL.nil | with_reducible refine VwL.cons ?_ ?_ | with_reducible exact Vw.anyI | with_reducible exact Vw.strI | with_reducible exact Vw.boolI | with_reducible exact Vw.intI | with_reducible exact Vw.intE rfl | exact Vw.slI (by decide) rfl | exact Vw.slI (by simp) rfl | exact Vw.ptrI (by decide) rfl | exact Vw.ptrI (by simp [rOa]) rfl | exact Vw.ptrI (by simp [rOb]) rfl | exact Vw.gndI rfl)))
   ·refine hcT (by simp; omega) (hcT (by simp; omega) (hcT (by simp; omega) (hcT (decide_eq_true (show i < n from hi)) ?_)))
    refine ⟨⟨k + 1,by omega⟩,by show D.length - (k + 1) < D.length - k; omega,some,⟨vR,?_⟩,fun _ _ => rfl,Nat.le_refl _⟩
    rw [show (D.take (k + 1)).any (fun p => p.1 == N i) = ((D.getD k ([],[])).1 == N i) by rw [step,cb]; rfl]
    ((simp only [tm14o,tm14i,tm64,tm15,tm16o,tm16i]; repeat' (first | with_reducible exact VwL.nil | with_reducible refine VwL.cons ?_ ?_ | with_reducible exact Vw.anyI | with_reducible exact Vw.strI | with_reducible exact Vw.boolI | with_reducible exact Vw.intI | with_reducible exact Vw.intE rfl | exact Vw.slI (by decide) rfl | exact Vw.slI (by simp) rfl | exact Vw.ptrI (by decide) rfl | exact Vw.ptrI (by simp [rOa]) rfl | exact Vw.ptrI (by simp [rOb]) rfl | exact Vw.gndI rfl)))
  ·have c1:k = D.length:=by have:=of_decide_eq_false c1; omega
   subst c1
   refine ⟨⟨tm14i 3 4 (i:Nat) (D.any (fun p => p.1 == N i)) (D.length:Nat),rOa wh at_ nd nm 0 n D⟩,⟨some,⟨vR,?_⟩,fun _ _ => rfl,Nat.le_refl _⟩,rfl,rfl⟩
   rw [List.take_length]
   ((simp only [tm14o,tm14i,tm64,tm15,tm16o,tm16i]; repeat' (first | with_reducible exact VwL.nil | with_reducible refine VwL.cons ?_ ?_ | with_reducible exact Vw.anyI | with_reducible exact Vw.strI | with_reducible exact Vw.boolI | with_reducible exact Vw.intI | with_reducible exact Vw.intE rfl | exact Vw.slI (by decide) rfl | exact Vw.slI (by simp) rfl | exact Vw.ptrI (by decide) rfl | exact Vw.ptrI (by simp [rOa]) rfl | exact Vw.ptrI (by simp [rOb]) rfl | exact Vw.gndI rfl)))
 ·rintro e stE ⟨e0,rfl,rfl,rfl⟩
  exact h
theorem spec14i0a_ok (t n:Nat) (N V:Nat -> Tx) (t' m:Nat) (N' V':Nat -> Tx) (wh at_ nd:Int) (nm:Tx) (D:List At) (i:Nat) (hD:D.length <= 1000000) :
  ∀ st k,spec14i 3 4 (i < n) (rOa wh at_ nd nm 0 n D) i D.length (D.any (fun p => p.1 == N i)) st k -> Safe Try.prog (base (ro2A t n N V t' m N' V')).R (.block 2 (.loop lp14i)) st k:=by
 rintro st k ⟨⟨hi,t1,t2,t3,t4,t5,t6,t7,t8,hl,⟨hr⟩⟩,hk⟩
 refine loop14i0a t n N V t' m N' V' wh at_ nd nm D i hi hD st ?_ hr hk
 rw [tm14i_spr]
 refine VwL.ofKnown hl ⟨?_,?_,?_,?_,?_,?_,?_,?_,trivial⟩
 ·rw [t1]; exact Vw.ptrI (by decide) rfl
 ·rw [t2]; exact Vw.ptrI (by decide) rfl
 ·rw [t3]; exact Vw.ptrI (by decide) rfl
 ·rw [t4]; exact Vw.ptrI (by decide) rfl
 ·rw [t5]; exact Vw.ptrI (by decide) rfl
 ·rw [t6]; exact Vw.intI
 ·rw [t7]; exact Vw.boolI
 ·rw [t8]; exact Vw.intI
def fam14o0a (wh at_ nd:Int) (nm:Tx) (n:Nat) (N V:Nat -> Tx) (i:Nat):St:=⟨tm14o 3 4 (i:Nat),rOa wh at_ nd nm 0 n (dd N V i)⟩
theorem fit14o0a {wh at_ nd:Int} {nm:Tx} {n:Nat} {N V:Nat -> Tx} {i k:Nat} {T:List AV} {h:Rows} {a b:Nat} {g g':Nat -> AV} (hab:a ≠ b) (ha:5 <= a) (hb:5 <= b) (hk:k = (dd N V i).length)
  (h0:h[0]? = some (some (.lst 34 5 [actA wh at_ nd nm 0 n]))) (h1:h[1]? = some (zE 37)) (h2:h[2]? = some (zE 40)) (h3:h[3]? = some (rX nd nm (.sl false a 0 k .no))) (h4:h[4]? = some (rY nd nm (.sl false b 0 k .no)))
  (h5:h[a]? = some (some (.gen 90 2 k g))) (h6:h[b]? = some (some (.gen 88 2 k g'))) (hg:∀ j,j < k -> g j = atL (dd N V i) j) (hg':∀ j,j < k -> g' j = atL (dd N V i) j)
  (hT:VwL (mvAB a b) 7 (tm14o 3 4 (i:Nat)) T):Fit 5 (fam14o0a wh at_ nd nm n N V i) ⟨T,h⟩:=by
 subst hk
 have at_':∀ c,c < 7 -> mvAB a b c = some (if c = 5 then a else if c = 6 then b else c):=by
  intro c hc
  match c with
  | 0 => rfl
  | 1 => rfl
  | 2 => rfl
  | 3 => rfl
  | 4 => rfl
  | 5 => rfl
  | 6 => rfl
  | c + 7 => omega
 refine ⟨mvAB a b,⟨View.of ?_ ?_,hT⟩,?_,by simp [fam14o0a,rOa]⟩
 ·intro c o ho
  match c with
  | 0 => cases ho; exact ViewL.at_ (b:=0) rfl h0 (.gnd rfl rfl)
  | 1 => cases ho; exact ViewL.at_ (b:=1) rfl h1 (.gnd rfl rfl)
  | 2 => cases ho; exact ViewL.at_ (b:=2) rfl h2 (.gnd rfl rfl)
  | 3 => cases ho; exact ViewL.at_ (b:=3) rfl h3 (RowV.lst1 rfl (by simp only [fam14o0a,rOa]; (repeat' (first | with_reducible exact VwL.nil | with_reducible refine VwL.cons ?_ ?_ | with_reducible exact Vw.strI | with_reducible exact Vw.intI | with_reducible exact Vw.boolI | with_reducible exact Vw.nilsI | with_reducible refine Vw.aggI ?_ | exact Vw.gndI rfl | exact Vw.slI (by simp) rfl))))
  | 4 => cases ho; exact ViewL.at_ (b:=4) rfl h4 (RowV.lst1 rfl (by simp only [fam14o0a,rOa]; (repeat' (first | with_reducible exact VwL.nil | with_reducible refine VwL.cons ?_ ?_ | with_reducible exact Vw.strI | with_reducible exact Vw.intI | with_reducible exact Vw.boolI | with_reducible exact Vw.nilsI | with_reducible refine Vw.aggI ?_ | exact Vw.gndI rfl | exact Vw.slI (by simp) rfl))))
  | 5 =>
   cases ho
   refine ViewL.at_ (b:=a) rfl h5 (.gen rfl fun j hj => ⟨rfl,?_⟩)
   rw [hg j hj]; exact gnd_vw _ _ _ rfl
  | 6 =>
   cases ho
   refine ViewL.at_ (b:=b) rfl h6 (.gen rfl fun j hj => ⟨rfl,?_⟩)
   rw [hg' j hj]; exact gnd_vw _ _ _ rfl
  | c + 7 => simp [fam14o0a,rOa] at ho
 ·intro c c' d hc hc' e e'
  have hc:c < 7:=hc
  have hc':c' < 7:=hc'
  rw [at_' c hc] at e
  rw [at_' c' hc'] at e'
  injection e with e
  injection e' with e'
  split at e <;> split at e' <;> (try split at e) <;> (try split at e') <;> omega
 ·intro c hc
  rw [at_' c (by omega),if_neg (by omega),if_neg (by omega)]
theorem loop14o0a (t n:Nat) (N V:Nat -> Tx) (t' m:Nat) (N' V':Nat -> Tx) (wh at_ nd:Int) (nm:Tx) (st0:St) (hT:VwL (upR 5) 7 (tm14o 3 4 ((0:Nat):Int)) st0.tmps)
  (hr:st0.rows = r0a wh at_ nd nm 0 n) {Q:Exit -> St -> Prop}
  (h:Q .normal (fam14o0a wh at_ nd nm n N V (min n 20))):Safe Try.prog (base (ro2A t n N V t' m N' V')).R (.block 0 (.loop lp14o)) st0 Q:=by
 have hlen:st0.rows.length = 5:=by rw [hr]; rfl
 refine (loop_block (I:={i:Nat // i <= min n 20}) (fam:=fun i => fam14o0a wh at_ nd nm n N V i.1) (fun i => min n 20 - i.1)
  (X:=fun e stE => e = .exit 0 /\ stE = fam14o0a wh at_ nd nm n N V (min n 20)) (id:=0) (i0:=⟨0,Nat.zero_le _⟩) (st:=st0) (f:=upR 5) ?_ ?_ ?_ ?_).mono ?_
 ·refine ⟨?_,hT⟩
  rw [hr]
  refine View.of ?_ (fun c c' b h1 h2 h3 h4 => upR_inj c c' b h1 h2 h3 h4)
  intro c o ho
  match c with
  | 0 => cases ho; exact ViewL.at_ (b:=0) rfl rfl (.gnd rfl rfl)
  | 1 => cases ho; exact ViewL.at_ (b:=1) rfl rfl (.gnd rfl rfl)
  | 2 => cases ho; exact ViewL.at_ (b:=2) rfl rfl (.gnd rfl rfl)
  | 3 => cases ho; exact ViewL.at_ (b:=3) rfl rfl (RowV.lst1 rfl (.aggI (.cons .intI (.cons .strI (.cons (.slN (by simp [fam14o0a,rOa]) rfl) .nil)))))
  | 4 => cases ho; exact ViewL.at_ (b:=4) rfl rfl (RowV.lst1 rfl (.aggI (.cons .intI (.cons .strI (.cons (.slN (by simp [fam14o0a,rOa]) rfl) .nil)))))
  | 5 => cases ho; exact ViewL.void rfl rfl
  | 6 => cases ho; exact ViewL.void rfl rfl
  | c + 7 => simp [fam14o0a,rOa] at ho
 ·intro c hc; rw [hlen] at hc; exact upR_lt hc
 ·intro i; rw [hlen]; simp [fam14o0a,rOa]
 ·rintro ⟨i,hi⟩
  rw [hlen]
  have hdl:=dd_len N V i
  ·refine byRndL ((base_ok _).addLoop (f:=14) (fi:=fi14) (by kernel_rfl) (body:=.loop lp14i) blk14i (spec14i0a_ok t n N V t' m N' V' wh at_ nd nm (dd N V i) i (by omega))) (f:=14) (fi:=fi14) (by kernel_rfl) blk14o 1000 (vr14o0a t n N V t' m N' V' wh at_ nd nm (dd N V i) i _ _) ?_
   rw [wrapSucc i (by omega)]
   have hi0:0 + (i:Int).toNat = i:=by simp
   rw [hi0]
   refine hcB2 (fun c1 => ?_) (fun c1 => ?_)
   ·have e:min n 20 = i:=by have:=of_decide_eq_false c1; omega
    refine ⟨_,?_,rfl,rfl⟩
    rw [e]
    exact fit14o0a (a:=5) (b:=6) (by decide) (by decide) (by decide) rfl rfl rfl rfl rfl rfl rfl rfl (fun j hj => rfl) (fun j hj => rfl) (by ((simp only [tm14o,tm14i,tm64,tm15,tm16o,tm16i]; repeat' (first | with_reducible exact VwL.nil | with_reducible refine VwL.cons ?_ ?_ | with_reducible exact Vw.anyI | with_reducible exact Vw.strI | with_reducible exact Vw.boolI | with_reducible exact Vw.intI | with_reducible exact Vw.intE rfl | exact Vw.slI (by decide) rfl | exact Vw.slI (by simp) rfl | exact Vw.ptrI (by decide) rfl | exact Vw.ptrI (by simp [rOa]) rfl | exact Vw.ptrI (by simp [rOb]) rfl | exact Vw.gndI rfl))))
   have hiM:i < n:=by have:=of_decide_eq_true c1; omega
   refine hcB (fun c2 => ?_) (fun c2 => ?_)
   ·have c2:i < 20:=by have:=of_decide_eq_true c2; omega
    refine ⟨⟨hiM,rfl,rfl,rfl,rfl,rfl,rfl,rfl,rfl,rfl,⟨rfl⟩⟩,?_⟩
    have hM:decide (i < n) = true:=decide_eq_true hiM
    refine hcB (fun c3 => ?_) (fun c3 => ?_)
    ·have c3:(dd N V i).any (fun p => p.1 == N i) = false:=by simpa using c3
     have e:dd N V (i + 1) = dd N V i ++ [(N i,V i)]:=by simp only [dd,c3,cond_false]
     refine hcT (by simp; omega) (hcT hM (hcT (by simp; omega) (hcT hM ⟨rfl,?_⟩)))
     refine hcT (capOK (by omega)) ?_
     refine hcT (by simp; omega) (hcT hM (hcT (by simp; omega) (hcT hM ⟨rfl,?_⟩)))
     refine hcT (capOK (by omega)) ?_
     refine ⟨⟨i + 1,by omega⟩,by show min n 20 - (i + 1) < min n 20 - i; omega,?_⟩
     refine fit14o0a (a:=8) (b:=10) (by decide) (by decide) (by decide) (k:=(dd N V i).length + 1) (by rw [e]; simp) rfl rfl rfl rfl rfl rfl rfl (fun j hj => ?_) (fun j hj => ?_) (by ((simp only [tm14o,tm14i,tm64,tm15,tm16o,tm16i]; repeat' (first | with_reducible exact VwL.nil | with_reducible refine VwL.cons ?_ ?_ | with_reducible exact Vw.anyI | with_reducible exact Vw.strI | with_reducible exact Vw.boolI | with_reducible exact Vw.intI | with_reducible exact Vw.intE rfl | exact Vw.slI (by decide) rfl | exact Vw.slI (by simp) rfl | exact Vw.ptrI (by decide) rfl | exact Vw.ptrI (by simp [rOa]) rfl | exact Vw.ptrI (by simp [rOb]) rfl | exact Vw.gndI rfl))))
     ·rw [e]; exact snoc_atL _ (N i,V i) j hj
     ·rw [e]; exact snoc_atL _ (N i,V i) j hj
    ·have c3:(dd N V i).any (fun p => p.1 == N i) = true:=by simpa using c3
     have e:dd N V (i + 1) = dd N V i:=by simp only [dd,c3,cond_true]
     refine ⟨⟨i + 1,by omega⟩,by show min n 20 - (i + 1) < min n 20 - i; omega,?_⟩
     refine fit14o0a (a:=5) (b:=6) (by decide) (by decide) (by decide) (k:=(dd N V i).length) (by rw [e]) rfl rfl rfl rfl rfl rfl rfl (fun j hj => by rw [e]; rfl) (fun j hj => by rw [e]; rfl) (by ((simp only [tm14o,tm14i,tm64,tm15,tm16o,tm16i]; repeat' (first | with_reducible exact VwL.nil | with_reducible refine VwL.cons ?_ ?_ | with_reducible exact Vw.anyI | with_reducible exact Vw.strI | with_reducible exact Vw.boolI | with_reducible exact Vw.intI | with_reducible exact Vw.intE rfl | exact Vw.slI (by decide) rfl | exact Vw.slI (by simp) rfl | exact Vw.ptrI (by decide) rfl | exact Vw.ptrI (by simp [rOa]) rfl | exact Vw.ptrI (by simp [rOb]) rfl | exact Vw.gndI rfl))))
   ·have e:min n 20 = i:=by have:=of_decide_eq_false c2; omega
    refine ⟨_,?_,rfl,rfl⟩
    rw [e]
    exact fit14o0a (a:=5) (b:=6) (by decide) (by decide) (by decide) rfl rfl rfl rfl rfl rfl rfl rfl (fun j hj => rfl) (fun j hj => rfl) (by ((simp only [tm14o,tm14i,tm64,tm15,tm16o,tm16i]; repeat' (first | with_reducible exact VwL.nil | with_reducible refine VwL.cons ?_ ?_ | with_reducible exact Vw.anyI | with_reducible exact Vw.strI | with_reducible exact Vw.boolI | with_reducible exact Vw.intI | with_reducible exact Vw.intE rfl | exact Vw.slI (by decide) rfl | exact Vw.slI (by simp) rfl | exact Vw.ptrI (by decide) rfl | exact Vw.ptrI (by simp [rOa]) rfl | exact Vw.ptrI (by simp [rOb]) rfl | exact Vw.gndI rfl))))
 ·rintro e stE ⟨e0,rfl,rfl,rfl⟩
  exact h
theorem vr14i0b (t n:Nat) (N V:Nat -> Tx) (t' m:Nat) (N' V':Nat -> Tx) (wh at_ nd:Int) (nm:Tx) (D:List At) (i:Nat) (b:Bool) (k:Nat) (K:Exit -> St -> Prop):rnd (base (ro2A t n N V t' m N' V')) 1000 14 lp14i ⟨tm14i 4 3 (i:Nat) b (k:Nat),rOb wh at_ nd nm 0 n D⟩ K = (bif decide ((↑k:Int) < (↑D.length:Int)) then bif b then K Exit.normal (St.mk [AV.any,AV.ptr false 0 0 0,AV.ptr false 1 0 0,AV.ptr false 2 0 0,AV.ptr false 4 0 0,AV.ptr false 3 0 0,iI (↑i:Int),AV.bool true,iI (IntKind.i64.wrap ((↑k:Int) + 1)),AV.any,AV.any,AV.any,AV.any,AV.any,AV.any,AV.any,AV.any,AV.any,AV.any,AV.any,AV.any,AV.any,AV.any,AV.any,AV.any,AV.any,AV.any,AV.any,AV.any,AV.any,iI (↑k:Int),AV.ptr false 3 0 2,AV.sl false 6 0 D.length Cp.no,iI (↑D.length:Int),AV.bool true,iI (↑k:Int),iI (IntKind.i64.wrap ((↑k:Int) + 1)),AV.bool b,AV.bool true,AV.tup [],AV.tup [],AV.tup [],AV.tup [],AV.tup [],AV.tup [],AV.tup [],AV.tup [],AV.tup [],AV.tup [],AV.tup [],AV.tup [],AV.tup [],AV.bool true,AV.any,AV.any,AV.any,AV.any,AV.any,AV.any,AV.any,AV.any,AV.any,AV.any,AV.any,AV.any,AV.any,AV.any,AV.any,AV.any,AV.any,AV.any,AV.any,AV.any,AV.any,AV.any,AV.any,AV.any,AV.any,AV.any,AV.any,AV.any,AV.any,AV.any,AV.any,AV.any,AV.any,AV.any,AV.any,AV.any,AV.any,AV.any,AV.any,AV.any] [some (Row.lst 34 5 [AV.agg [iI wh,iI at_,iI nd,AV.str nm,AV.sl true 0 0 n Cp.no]]),some (Row.lst 37 3 [AV.agg [iI 0,AV.str [],AV.nils]]),some (Row.lst 40 3 [AV.agg [iI 0,AV.str [],AV.nils]]),some (Row.lst 40 3 [AV.agg [iI nd,AV.str nm,AV.sl false 6 0 D.length Cp.no]]),some (Row.lst 37 3 [AV.agg [iI nd,AV.str nm,AV.sl false 5 0 D.length Cp.no]]),some (Row.gen 90 2 D.length fun j => AV.agg [AV.str (D.getD j ([],[])).fst,AV.str (D.getD j ([],[])).snd]),some (Row.gen 88 2 D.length fun j => AV.agg [AV.str (D.getD j ([],[])).fst,AV.str (D.getD j ([],[])).snd])]) else bif true && decide ((↑k:Int) < (↑D.length:Int)) then bif decide (0 + (↑k:Int).toNat < D.length) then bif true && decide ((↑i:Int) < (↑n:Int)) then bif decide (0 + (↑i:Int).toNat < ((base (ro2A t n N V t' m N' V')).R 0).n) then K Exit.normal (St.mk [AV.any,AV.ptr false 0 0 0,AV.ptr false 1 0 0,AV.ptr false 2 0 0,AV.ptr false 4 0 0,AV.ptr false 3 0 0,iI (↑i:Int),AV.bool ((D.getD (0 + (↑k:Int).toNat) ([],[])).fst == N (0 + (↑i:Int).toNat)),iI (IntKind.i64.wrap ((↑k:Int) + 1)),AV.any,AV.any,AV.any,AV.any,AV.any,AV.any,AV.any,AV.any,AV.any,AV.any,AV.any,AV.any,AV.any,AV.any,AV.any,AV.any,AV.any,AV.any,AV.any,AV.any,AV.any,iI (↑k:Int),AV.ptr false 3 0 2,AV.sl false 6 0 D.length Cp.no,iI (↑D.length:Int),AV.bool true,iI (↑k:Int),iI (IntKind.i64.wrap ((↑k:Int) + 1)),AV.bool b,AV.bool false,AV.ptr false 3 0 2,AV.sl false 6 0 D.length Cp.no,iI (↑k:Int),AV.ptr false 6 (0 + (↑k:Int).toNat) 0,AV.ptr false 6 (0 + (↑k:Int).toNat) 0,AV.str (D.getD (0 + (↑k:Int).toNat) ([],[])).fst,AV.ptr false 0 0 4,AV.sl true 0 0 n Cp.no,iI (↑i:Int),AV.ptr true 0 (0 + (↑i:Int).toNat) 0,AV.ptr true 0 (0 + (↑i:Int).toNat) 0,AV.str (N (0 + (↑i:Int).toNat)),AV.bool ((D.getD (0 + (↑k:Int).toNat) ([],[])).fst == N (0 + (↑i:Int).toNat)),AV.bool ((D.getD (0 + (↑k:Int).toNat) ([],[])).fst == N (0 + (↑i:Int).toNat)),AV.any,AV.any,AV.any,AV.any,AV.any,AV.any,AV.any,AV.any,AV.any,AV.any,AV.any,AV.any,AV.any,AV.any,AV.any,AV.any,AV.any,AV.any,AV.any,AV.any,AV.any,AV.any,AV.any,AV.any,AV.any,AV.any,AV.any,AV.any,AV.any,AV.any,AV.any,AV.any,AV.any,AV.any,AV.any,AV.any,AV.any,AV.any,AV.any,AV.any] [some (Row.lst 34 5 [AV.agg [iI wh,iI at_,iI nd,AV.str nm,AV.sl true 0 0 n Cp.no]]),some (Row.lst 37 3 [AV.agg [iI 0,AV.str [],AV.nils]]),some (Row.lst 40 3 [AV.agg [iI 0,AV.str [],AV.nils]]),some (Row.lst 40 3 [AV.agg [iI nd,AV.str nm,AV.sl false 6 0 D.length Cp.no]]),some (Row.lst 37 3 [AV.agg [iI nd,AV.str nm,AV.sl false 5 0 D.length Cp.no]]),some (Row.gen 90 2 D.length fun j => AV.agg [AV.str (D.getD j ([],[])).fst,AV.str (D.getD j ([],[])).snd]),some (Row.gen 88 2 D.length fun j => AV.agg [AV.str (D.getD j ([],[])).fst,AV.str (D.getD j ([],[])).snd])]) else False else False else False else False else K (Exit.exit 2) (St.mk [AV.any,AV.ptr false 0 0 0,AV.ptr false 1 0 0,AV.ptr false 2 0 0,AV.ptr false 4 0 0,AV.ptr false 3 0 0,iI (↑i:Int),AV.bool b,iI (↑k:Int),AV.any,AV.any,AV.any,AV.any,AV.any,AV.any,AV.any,AV.any,AV.any,AV.any,AV.any,AV.any,AV.any,AV.any,AV.any,AV.any,AV.any,AV.any,AV.any,AV.any,AV.any,iI (↑k:Int),AV.ptr false 3 0 2,AV.sl false 6 0 D.length Cp.no,iI (↑D.length:Int),AV.bool false,AV.any,AV.any,AV.any,AV.any,AV.any,AV.any,AV.any,AV.any,AV.any,AV.any,AV.any,AV.any,AV.any,AV.any,AV.any,AV.any,AV.any,AV.any,AV.any,AV.any,AV.any,AV.any,AV.any,AV.any,AV.any,AV.any,AV.any,AV.any,AV.any,AV.any,AV.any,AV.any,AV.any,AV.any,AV.any,AV.any,AV.any,AV.any,AV.any,AV.any,AV.any,AV.any,AV.any,AV.any,AV.any,AV.any,AV.any,AV.any,AV.any,AV.any,AV.any,AV.any,AV.any,AV.any,AV.any,AV.any,AV.any,AV.any] [some (Row.lst 34 5 [AV.agg [iI wh,iI at_,iI nd,AV.str nm,AV.sl true 0 0 n Cp.no]]),some (Row.lst 37 3 [AV.agg [iI 0,AV.str [],AV.nils]]),some (Row.lst 40 3 [AV.agg [iI 0,AV.str [],AV.nils]]),some (Row.lst 40 3 [AV.agg [iI nd,AV.str nm,AV.sl false 6 0 D.length Cp.no]]),some (Row.lst 37 3 [AV.agg [iI nd,AV.str nm,AV.sl false 5 0 D.length Cp.no]]),some (Row.gen 90 2 D.length fun j => AV.agg [AV.str (D.getD j ([],[])).fst,AV.str (D.getD j ([],[])).snd]),some (Row.gen 88 2 D.length fun j => AV.agg [AV.str (D.getD j ([],[])).fst,AV.str (D.getD j ([],[])).snd])])):=by kernel_rfl
theorem vr14o0b (t n:Nat) (N V:Nat -> Tx) (t' m:Nat) (N' V':Nat -> Tx) (wh at_ nd:Int) (nm:Tx) (D:List At) (i:Nat) (x:Bool) (K:Exit -> St -> Prop):rnd ((base (ro2A t n N V t' m N' V')).addLoop 14 2 (spec14i 4 3 (i < n) (rOb wh at_ nd nm 0 n D) i D.length x)) 1000 14 lp14o ⟨tm14o 4 3 (i:Nat),rOb wh at_ nd nm 0 n D⟩ K = (bif decide ((↑i:Int) < (↑n:Int)) then bif decide ((↑i:Int) < 20) then (i.succ.le n /\ AV.ptr false 0 0 0 = AV.ptr false 0 0 0 /\ AV.ptr false 1 0 0 = AV.ptr false 1 0 0 /\ AV.ptr false 2 0 0 = AV.ptr false 2 0 0 /\ AV.ptr false 4 0 0 = AV.ptr false 4 0 0 /\ AV.ptr false 3 0 0 = AV.ptr false 3 0 0 /\ iI (↑i:Int) = iI (↑i:Int) /\ AV.bool false = AV.bool false /\ iI 0 = iI 0 /\ 93 = 93 /\ RowsAre [some (Row.lst 34 5 [AV.agg [iI wh,iI at_,iI nd,AV.str nm,AV.sl true 0 0 n Cp.no]]),some (Row.lst 37 3 [AV.agg [iI 0,AV.str [],AV.nils]]),some (Row.lst 40 3 [AV.agg [iI 0,AV.str [],AV.nils]]),some (Row.lst 40 3 [AV.agg [iI nd,AV.str nm,AV.sl false 6 0 D.length Cp.no]]),some (Row.lst 37 3 [AV.agg [iI nd,AV.str nm,AV.sl false 5 0 D.length Cp.no]]),some (Row.gen 90 2 D.length fun j => AV.agg [AV.str (D.getD j ([],[])).fst,AV.str (D.getD j ([],[])).snd]),some (Row.gen 88 2 D.length fun j => AV.agg [AV.str (D.getD j ([],[])).fst,AV.str (D.getD j ([],[])).snd])] [some (Row.lst 34 5 [AV.agg [iI wh,iI at_,iI nd,AV.str nm,AV.sl true 0 0 n Cp.no]]),some (Row.lst 37 3 [AV.agg [iI 0,AV.str [],AV.nils]]),some (Row.lst 40 3 [AV.agg [iI 0,AV.str [],AV.nils]]),some (Row.lst 40 3 [AV.agg [iI nd,AV.str nm,AV.sl false 6 0 D.length Cp.no]]),some (Row.lst 37 3 [AV.agg [iI nd,AV.str nm,AV.sl false 5 0 D.length Cp.no]]),some (Row.gen 90 2 D.length fun j => AV.agg [AV.str (D.getD j ([],[])).fst,AV.str (D.getD j ([],[])).snd]),some (Row.gen 88 2 D.length fun j => AV.agg [AV.str (D.getD j ([],[])).fst,AV.str (D.getD j ([],[])).snd])]) /\ bif !x then bif true && decide ((↑i:Int) < (↑n:Int)) then bif decide (0 + (↑i:Int).toNat < (((base (ro2A t n N V t' m N' V')).addLoop 14 2 (spec14i 4 3 (i < n) (rOb wh at_ nd nm 0 n D) (↑i:Int) D.length x)).R 0).n) then bif true && decide ((↑i:Int) < (↑n:Int)) then bif decide (0 + (↑i:Int).toNat < (((base (ro2A t n N V t' m N' V')).addLoop 14 2 (spec14i 4 3 (i < n) (rOb wh at_ nd nm 0 n D) (↑i:Int) D.length x)).R 0).n) then AV.sl false 5 0 D.length Cp.no = AV.sl false 5 0 D.length Cp.no /\ bif decide (0 + D.length <= D.length) && (true && (true && decide (((Src.gen D.length fun j => atL D (0 + j)).len + 1) * 32 <= 140737488355328))) then bif true && decide ((↑i:Int) < (↑n:Int)) then bif decide (0 + (↑i:Int).toNat < (((base (ro2A t n N V t' m N' V')).addLoop 14 2 (spec14i 4 3 (i < n) (rOb wh at_ nd nm 0 n D) (↑i:Int) D.length x)).R 0).n) then bif true && decide ((↑i:Int) < (↑n:Int)) then bif decide (0 + (↑i:Int).toNat < (((base (ro2A t n N V t' m N' V')).addLoop 14 2 (spec14i 4 3 (i < n) (rOb wh at_ nd nm 0 n D) (↑i:Int) D.length x)).R 0).n) then AV.sl false 6 0 D.length Cp.no = AV.sl false 6 0 D.length Cp.no /\ bif decide (0 + D.length <= D.length) && (true && (true && decide (((Src.gen D.length fun j => atL D (0 + j)).len + 1) * 32 <= 140737488355328))) then K Exit.normal (St.mk [AV.any,AV.ptr false 0 0 0,AV.ptr false 1 0 0,AV.ptr false 2 0 0,AV.ptr false 4 0 0,AV.ptr false 3 0 0,iI (IntKind.i64.wrap ((↑i:Int) + 1)),AV.bool x,iI (↑D.length:Int),AV.any,AV.any,AV.any,AV.any,AV.any,AV.any,AV.any,AV.any,AV.any,AV.any,AV.any,AV.any,AV.any,AV.any,AV.any,AV.any,AV.any,AV.any,AV.any,iI (↑i:Int),iI (IntKind.i64.wrap ((↑i:Int) + 1)),AV.any,AV.any,AV.any,AV.any,AV.any,AV.any,AV.any,AV.any,AV.any,AV.any,AV.any,AV.any,AV.any,AV.any,AV.any,AV.any,AV.any,AV.any,AV.any,AV.any,AV.any,AV.any,AV.any,AV.bool x,AV.bool true,AV.ptr false 4 0 2,AV.sl false 5 0 D.length Cp.no,AV.ptr false 0 0 4,AV.sl true 0 0 n Cp.no,iI (↑i:Int),AV.ptr true 0 (0 + (↑i:Int).toNat) 0,AV.ptr true 0 (0 + (↑i:Int).toNat) 0,AV.str (N (0 + (↑i:Int).toNat)),AV.ptr false 0 0 4,AV.sl true 0 0 n Cp.no,iI (↑i:Int),AV.ptr true 0 (0 + (↑i:Int).toNat) 0,AV.ptr true 0 (0 + (↑i:Int).toNat) 1,AV.str (V (0 + (↑i:Int).toNat)),AV.agg [AV.str (N (0 + (↑i:Int).toNat)),AV.str (V (0 + (↑i:Int).toNat))],AV.sl false 7 0 1 Cp.tight,AV.sl false 8 0 ((Src.gen D.length fun j => atL D (0 + j)).len + 1) Cp.no,AV.ptr false 4 0 2,AV.ptr false 3 0 2,AV.sl false 6 0 D.length Cp.no,AV.ptr false 0 0 4,AV.sl true 0 0 n Cp.no,iI (↑i:Int),AV.ptr true 0 (0 + (↑i:Int).toNat) 0,AV.ptr true 0 (0 + (↑i:Int).toNat) 0,AV.str (N (0 + (↑i:Int).toNat)),AV.ptr false 0 0 4,AV.sl true 0 0 n Cp.no,iI (↑i:Int),AV.ptr true 0 (0 + (↑i:Int).toNat) 0,AV.ptr true 0 (0 + (↑i:Int).toNat) 1,AV.str (V (0 + (↑i:Int).toNat)),AV.agg [AV.str (N (0 + (↑i:Int).toNat)),AV.str (V (0 + (↑i:Int).toNat))],AV.sl false 9 0 1 Cp.tight,AV.sl false 10 0 ((Src.gen D.length fun j => atL D (0 + j)).len + 1) Cp.no,AV.ptr false 3 0 2,AV.any,AV.any] [some (Row.lst 34 5 [AV.agg [iI wh,iI at_,iI nd,AV.str nm,AV.sl true 0 0 n Cp.no]]),some (Row.lst 37 3 [AV.agg [iI 0,AV.str [],AV.nils]]),some (Row.lst 40 3 [AV.agg [iI 0,AV.str [],AV.nils]]),some (Row.lst 40 3 [AV.agg [iI nd,AV.str nm,AV.sl false 10 0 ((Src.gen D.length fun j => atL D (0 + j)).len + 1) Cp.no]]),some (Row.lst 37 3 [AV.agg [iI nd,AV.str nm,AV.sl false 8 0 ((Src.gen D.length fun j => atL D (0 + j)).len + 1) Cp.no]]),none,none,some (Row.lst 90 2 [AV.agg [AV.str (N (0 + (↑i:Int).toNat)),AV.str (V (0 + (↑i:Int).toNat))]]),some (Row.gen 90 2 ((Src.gen D.length fun j => atL D (0 + j)).len + 1) fun j => bif j.blt (Src.gen D.length fun j => atL D (0 + j)).len then AV.agg [AV.str (D.getD (0 + j) ([],[])).fst,AV.str (D.getD (0 + j) ([],[])).snd] else (Src.lst [AV.agg [AV.str (N (0 + (↑i:Int).toNat)),AV.str (V (0 + (↑i:Int).toNat))]]).at_ (j - (Src.gen D.length fun j => atL D (0 + j)).len)),some (Row.lst 88 2 [AV.agg [AV.str (N (0 + (↑i:Int).toNat)),AV.str (V (0 + (↑i:Int).toNat))]]),some (Row.gen 88 2 ((Src.gen D.length fun j => atL D (0 + j)).len + 1) fun j => bif j.blt (Src.gen D.length fun j => atL D (0 + j)).len then AV.agg [AV.str (D.getD (0 + j) ([],[])).fst,AV.str (D.getD (0 + j) ([],[])).snd] else (Src.lst [AV.agg [AV.str (N (0 + (↑i:Int).toNat)),AV.str (V (0 + (↑i:Int).toNat))]]).at_ (j - (Src.gen D.length fun j => atL D (0 + j)).len))]) else False else False else False else False else False else False else False else False else False else False else K Exit.normal (St.mk [AV.any,AV.ptr false 0 0 0,AV.ptr false 1 0 0,AV.ptr false 2 0 0,AV.ptr false 4 0 0,AV.ptr false 3 0 0,iI (IntKind.i64.wrap ((↑i:Int) + 1)),AV.bool x,iI (↑D.length:Int),AV.any,AV.any,AV.any,AV.any,AV.any,AV.any,AV.any,AV.any,AV.any,AV.any,AV.any,AV.any,AV.any,AV.any,AV.any,AV.any,AV.any,AV.any,AV.any,iI (↑i:Int),iI (IntKind.i64.wrap ((↑i:Int) + 1)),AV.any,AV.any,AV.any,AV.any,AV.any,AV.any,AV.any,AV.any,AV.any,AV.any,AV.any,AV.any,AV.any,AV.any,AV.any,AV.any,AV.any,AV.any,AV.any,AV.any,AV.any,AV.any,AV.any,AV.bool x,AV.bool false,AV.any,AV.any,AV.any,AV.any,AV.any,AV.any,AV.any,AV.any,AV.any,AV.any,AV.any,AV.any,AV.any,AV.any,AV.any,AV.any,AV.any,AV.any,AV.any,AV.any,AV.any,AV.any,AV.any,AV.any,AV.any,AV.any,AV.any,AV.any,AV.any,AV.any,AV.any,AV.any,AV.any,AV.any,AV.any,AV.any,AV.any,AV.any] [some (Row.lst 34 5 [AV.agg [iI wh,iI at_,iI nd,AV.str nm,AV.sl true 0 0 n Cp.no]]),some (Row.lst 37 3 [AV.agg [iI 0,AV.str [],AV.nils]]),some (Row.lst 40 3 [AV.agg [iI 0,AV.str [],AV.nils]]),some (Row.lst 40 3 [AV.agg [iI nd,AV.str nm,AV.sl false 6 0 D.length Cp.no]]),some (Row.lst 37 3 [AV.agg [iI nd,AV.str nm,AV.sl false 5 0 D.length Cp.no]]),some (Row.gen 90 2 D.length fun j => AV.agg [AV.str (D.getD j ([],[])).fst,AV.str (D.getD j ([],[])).snd]),some (Row.gen 88 2 D.length fun j => AV.agg [AV.str (D.getD j ([],[])).fst,AV.str (D.getD j ([],[])).snd])]) else K (Exit.exit 0) (St.mk [AV.any,AV.ptr false 0 0 0,AV.ptr false 1 0 0,AV.ptr false 2 0 0,AV.ptr false 4 0 0,AV.ptr false 3 0 0,iI (↑i:Int),AV.any,AV.any,AV.any,AV.any,AV.any,AV.any,AV.any,AV.any,AV.any,AV.any,AV.any,AV.any,iI (↑i:Int),AV.ptr false 0 0 4,AV.sl true 0 0 n Cp.no,iI (↑n:Int),AV.bool (decide ((↑i:Int) < (↑n:Int))),AV.bool true,iI (↑i:Int),AV.bool (decide ((↑i:Int) < 20)),AV.bool false,AV.any,AV.any,AV.any,AV.any,AV.any,AV.any,AV.any,AV.any,AV.any,AV.any,AV.any,AV.any,AV.any,AV.any,AV.any,AV.any,AV.any,AV.any,AV.any,AV.any,AV.any,AV.any,AV.any,AV.any,AV.any,AV.any,AV.any,AV.any,AV.any,AV.any,AV.any,AV.any,AV.any,AV.any,AV.any,AV.any,AV.any,AV.any,AV.any,AV.any,AV.any,AV.any,AV.any,AV.any,AV.any,AV.any,AV.any,AV.any,AV.any,AV.any,AV.any,AV.any,AV.any,AV.any,AV.any,AV.any,AV.any,AV.any,AV.any,AV.any,AV.any,AV.any,AV.any,AV.any,AV.any] [some (Row.lst 34 5 [AV.agg [iI wh,iI at_,iI nd,AV.str nm,AV.sl true 0 0 n Cp.no]]),some (Row.lst 37 3 [AV.agg [iI 0,AV.str [],AV.nils]]),some (Row.lst 40 3 [AV.agg [iI 0,AV.str [],AV.nils]]),some (Row.lst 40 3 [AV.agg [iI nd,AV.str nm,AV.sl false 6 0 D.length Cp.no]]),some (Row.lst 37 3 [AV.agg [iI nd,AV.str nm,AV.sl false 5 0 D.length Cp.no]]),some (Row.gen 90 2 D.length fun j => AV.agg [AV.str (D.getD j ([],[])).fst,AV.str (D.getD j ([],[])).snd]),some (Row.gen 88 2 D.length fun j => AV.agg [AV.str (D.getD j ([],[])).fst,AV.str (D.getD j ([],[])).snd])]) else K (Exit.exit 0) (St.mk [AV.any,AV.ptr false 0 0 0,AV.ptr false 1 0 0,AV.ptr false 2 0 0,AV.ptr false 4 0 0,AV.ptr false 3 0 0,iI (↑i:Int),AV.any,AV.any,AV.any,AV.any,AV.any,AV.any,AV.any,AV.any,AV.any,AV.any,AV.any,AV.any,iI (↑i:Int),AV.ptr false 0 0 4,AV.sl true 0 0 n Cp.no,iI (↑n:Int),AV.bool (decide ((↑i:Int) < (↑n:Int))),AV.bool false,AV.tup [],AV.tup [],AV.bool false,AV.any,AV.any,AV.any,AV.any,AV.any,AV.any,AV.any,AV.any,AV.any,AV.any,AV.any,AV.any,AV.any,AV.any,AV.any,AV.any,AV.any,AV.any,AV.any,AV.any,AV.any,AV.any,AV.any,AV.any,AV.any,AV.any,AV.any,AV.any,AV.any,AV.any,AV.any,AV.any,AV.any,AV.any,AV.any,AV.any,AV.any,AV.any,AV.any,AV.any,AV.any,AV.any,AV.any,AV.any,AV.any,AV.any,AV.any,AV.any,AV.any,AV.any,AV.any,AV.any,AV.any,AV.any,AV.any,AV.any,AV.any,AV.any,AV.any,AV.any,AV.any,AV.any,AV.any,AV.any,AV.any] [some (Row.lst 34 5 [AV.agg [iI wh,iI at_,iI nd,AV.str nm,AV.sl true 0 0 n Cp.no]]),some (Row.lst 37 3 [AV.agg [iI 0,AV.str [],AV.nils]]),some (Row.lst 40 3 [AV.agg [iI 0,AV.str [],AV.nils]]),some (Row.lst 40 3 [AV.agg [iI nd,AV.str nm,AV.sl false 6 0 D.length Cp.no]]),some (Row.lst 37 3 [AV.agg [iI nd,AV.str nm,AV.sl false 5 0 D.length Cp.no]]),some (Row.gen 90 2 D.length fun j => AV.agg [AV.str (D.getD j ([],[])).fst,AV.str (D.getD j ([],[])).snd]),some (Row.gen 88 2 D.length fun j => AV.agg [AV.str (D.getD j ([],[])).fst,AV.str (D.getD j ([],[])).snd])])):=by kernel_rfl
theorem loop14i0b (t n:Nat) (N V:Nat -> Tx) (t' m:Nat) (N' V':Nat -> Tx) (wh at_ nd:Int) (nm:Tx) (D:List At) (i:Nat) (hi:i < n) (hD:D.length <= 1000000) (st0:St) (hT:VwL some 7 (tm14i 4 3 (i:Nat) false ((0:Nat):Int)) st0.tmps) (hr:st0.rows = rOb wh at_ nd nm 0 n D) {Q:Exit -> St -> Prop}
  (h:Q .normal ⟨tm14i 4 3 (i:Nat) (D.any (fun p => p.1 == N i)) (D.length:Nat),rOb wh at_ nd nm 0 n D⟩):Safe Try.prog (base (ro2A t n N V t' m N' V')).R (.block 2 (.loop lp14i)) st0 Q:=by
 have hlen:st0.rows.length = 7:=by rw [hr]; rfl
 have vR:View some (rOb wh at_ nd nm 0 n D) (rOb wh at_ nd nm 0 n D):=by
  refine View.of ?_ (fun c c' b h1 h2 h3 h4 => some_inj _ c c' b h1 h2 h3 h4)
  intro c o ho
  match c with
  | 0 => cases ho; exact ViewL.at_ (b:=0) rfl rfl (.gnd rfl rfl)
  | 1 => cases ho; exact ViewL.at_ (b:=1) rfl rfl (.gnd rfl rfl)
  | 2 => cases ho; exact ViewL.at_ (b:=2) rfl rfl (.gnd rfl rfl)
  | 3 => cases ho; exact ViewL.at_ (b:=3) rfl rfl (RowV.lst1 rfl (by simp only [rOb]; (repeat' (first | with_reducible exact VwL.nil | with_reducible refine VwL.cons ?_ ?_ | with_reducible exact Vw.strI | with_reducible exact Vw.intI | with_reducible exact Vw.boolI | with_reducible exact Vw.nilsI | with_reducible refine Vw.aggI ?_ | exact Vw.gndI rfl | exact Vw.slI (by simp) rfl))))
  | 4 => cases ho; exact ViewL.at_ (b:=4) rfl rfl (RowV.lst1 rfl (by simp only [rOb]; (repeat' (first | with_reducible exact VwL.nil | with_reducible refine VwL.cons ?_ ?_ | with_reducible exact Vw.strI | with_reducible exact Vw.intI | with_reducible exact Vw.boolI | with_reducible exact Vw.nilsI | with_reducible refine Vw.aggI ?_ | exact Vw.gndI rfl | exact Vw.slI (by simp) rfl))))
  | 5 => cases ho; exact ViewL.at_ (b:=5) rfl rfl (atL_row D)
  | 6 => cases ho; exact ViewL.at_ (b:=6) rfl rfl (atL_row D)
  | c + 7 => simp [rOb] at ho
 refine (loop_block (I:={k:Nat // k <= D.length}) (fam:=fun k => ⟨tm14i 4 3 (i:Nat) ((D.take k.1).any (fun p => p.1 == N i)) (k.1:Nat),rOb wh at_ nd nm 0 n D⟩) (fun k => D.length - k.1)
  (X:=fun e stE => e = .exit 2 /\ stE = ⟨tm14i 4 3 (i:Nat) (D.any (fun p => p.1 == N i)) (D.length:Nat),rOb wh at_ nd nm 0 n D⟩) (id:=2) (i0:=⟨0,Nat.zero_le _⟩) (st:=st0) (f:=some) ?_ ?_ ?_ ?_).mono ?_
 ·exact ⟨by rw [hr]; exact vR,hT⟩
 ·intro c hc; rfl
 ·intro k; rw [hlen]; exact Nat.le_refl _
 ·rintro ⟨k,hk⟩
  rw [hlen]
  refine byRndL (base_ok _) (f:=14) (fi:=fi14) (by kernel_rfl) blk14i 1000 (vr14i0b t n N V t' m N' V' wh at_ nd nm D i _ k _) ?_
  rw [wrapSucc k (by omega)]
  have hk0:0 + (k:Int).toNat = k:=by simp
  have hi0:0 + (i:Int).toNat = i:=by simp
  rw [hk0,hi0]
  refine hcB (fun c1 => ?_) (fun c1 => ?_)
  ·have c1:k < D.length:=by have:=of_decide_eq_true c1; omega
   have step:=any_take D (N i) k c1
   refine hcB (fun cb => ?_) (fun cb => ?_)
   ·refine ⟨⟨k + 1,by omega⟩,by show D.length - (k + 1) < D.length - k; omega,some,⟨vR,?_⟩,fun _ _ => rfl,Nat.le_refl _⟩
    rw [show (D.take (k + 1)).any (fun p => p.1 == N i) = true by rw [step,cb]; rfl]
    first | (rw [cb]; ((simp only [tm14o,tm14i,tm64,tm15,tm16o,tm16i]; repeat' (first | with_reducible exact VwL.nil | with_reducible refine VwL.cons ?_ ?_ | with_reducible exact Vw.anyI | with_reducible exact Vw.strI | with_reducible exact Vw.boolI | with_reducible exact Vw.intI | with_reducible exact Vw.intE rfl | exact Vw.slI (by decide) rfl | exact Vw.slI (by simp) rfl | exact Vw.ptrI (by decide) rfl | exact Vw.ptrI (by simp [rOa]) rfl | exact Vw.ptrI (by simp [rOb]) rfl | exact Vw.gndI rfl)))) | ((simp only [tm14o,tm14i,tm64,tm15,tm16o,tm16i]; repeat' (first | with_reducible exact VwL.nil | with_reducible refine VwL.cons ?_ ?_ | with_reducible exact Vw.anyI | with_reducible exact Vw.strI | with_reducible exact Vw.boolI | with_reducible exact Vw.intI | with_reducible exact Vw.intE rfl | exact Vw.slI (by decide) rfl | exact Vw.slI (by simp) rfl | exact Vw.ptrI (by decide) rfl | exact Vw.ptrI (by simp [rOa]) rfl | exact Vw.ptrI (by simp [rOb]) rfl | exact Vw.gndI rfl)))
   ·refine hcT (by simp; omega) (hcT (by simp; omega) (hcT (by simp; omega) (hcT (decide_eq_true (show i < n from hi)) ?_)))
    refine ⟨⟨k + 1,by omega⟩,by show D.length - (k + 1) < D.length - k; omega,some,⟨vR,?_⟩,fun _ _ => rfl,Nat.le_refl _⟩
    rw [show (D.take (k + 1)).any (fun p => p.1 == N i) = ((D.getD k ([],[])).1 == N i) by rw [step,cb]; rfl]
    ((simp only [tm14o,tm14i,tm64,tm15,tm16o,tm16i]; repeat' (first | with_reducible exact VwL.nil | with_reducible refine VwL.cons ?_ ?_ | with_reducible exact Vw.anyI | with_reducible exact Vw.strI | with_reducible exact Vw.boolI | with_reducible exact Vw.intI | with_reducible exact Vw.intE rfl | exact Vw.slI (by decide) rfl | exact Vw.slI (by simp) rfl | exact Vw.ptrI (by decide) rfl | exact Vw.ptrI (by simp [rOa]) rfl | exact Vw.ptrI (by simp [rOb]) rfl | exact Vw.gndI rfl)))
  ·have c1:k = D.length:=by have:=of_decide_eq_false c1; omega
   subst c1
   refine ⟨⟨tm14i 4 3 (i:Nat) (D.any (fun p => p.1 == N i)) (D.length:Nat),rOb wh at_ nd nm 0 n D⟩,⟨some,⟨vR,?_⟩,fun _ _ => rfl,Nat.le_refl _⟩,rfl,rfl⟩
   rw [List.take_length]
   ((simp only [tm14o,tm14i,tm64,tm15,tm16o,tm16i]; repeat' (first | with_reducible exact VwL.nil | with_reducible refine VwL.cons ?_ ?_ | with_reducible exact Vw.anyI | with_reducible exact Vw.strI | with_reducible exact Vw.boolI | with_reducible exact Vw.intI | with_reducible exact Vw.intE rfl | exact Vw.slI (by decide) rfl | exact Vw.slI (by simp) rfl | exact Vw.ptrI (by decide) rfl | exact Vw.ptrI (by simp [rOa]) rfl | exact Vw.ptrI (by simp [rOb]) rfl | exact Vw.gndI rfl)))
 ·rintro e stE ⟨e0,rfl,rfl,rfl⟩
  exact h
theorem spec14i0b_ok (t n:Nat) (N V:Nat -> Tx) (t' m:Nat) (N' V':Nat -> Tx) (wh at_ nd:Int) (nm:Tx) (D:List At) (i:Nat) (hD:D.length <= 1000000) :
  ∀ st k,spec14i 4 3 (i < n) (rOb wh at_ nd nm 0 n D) i D.length (D.any (fun p => p.1 == N i)) st k -> Safe Try.prog (base (ro2A t n N V t' m N' V')).R (.block 2 (.loop lp14i)) st k:=by
 rintro st k ⟨⟨hi,t1,t2,t3,t4,t5,t6,t7,t8,hl,⟨hr⟩⟩,hk⟩
 refine loop14i0b t n N V t' m N' V' wh at_ nd nm D i hi hD st ?_ hr hk
 rw [tm14i_spr]
 refine VwL.ofKnown hl ⟨?_,?_,?_,?_,?_,?_,?_,?_,trivial⟩
 ·rw [t1]; exact Vw.ptrI (by decide) rfl
 ·rw [t2]; exact Vw.ptrI (by decide) rfl
 ·rw [t3]; exact Vw.ptrI (by decide) rfl
 ·rw [t4]; exact Vw.ptrI (by decide) rfl
 ·rw [t5]; exact Vw.ptrI (by decide) rfl
 ·rw [t6]; exact Vw.intI
 ·rw [t7]; exact Vw.boolI
 ·rw [t8]; exact Vw.intI
def fam14o0b (wh at_ nd:Int) (nm:Tx) (n:Nat) (N V:Nat -> Tx) (i:Nat):St:=⟨tm14o 4 3 (i:Nat),rOb wh at_ nd nm 0 n (dd N V i)⟩
theorem fit14o0b {wh at_ nd:Int} {nm:Tx} {n:Nat} {N V:Nat -> Tx} {i k:Nat} {T:List AV} {h:Rows} {a b:Nat} {g g':Nat -> AV} (hab:a ≠ b) (ha:5 <= a) (hb:5 <= b) (hk:k = (dd N V i).length)
  (h0:h[0]? = some (some (.lst 34 5 [actA wh at_ nd nm 0 n]))) (h1:h[1]? = some (zE 37)) (h2:h[2]? = some (zE 40)) (h3:h[4]? = some (rX nd nm (.sl false a 0 k .no))) (h4:h[3]? = some (rY nd nm (.sl false b 0 k .no)))
  (h5:h[a]? = some (some (.gen 90 2 k g))) (h6:h[b]? = some (some (.gen 88 2 k g'))) (hg:∀ j,j < k -> g j = atL (dd N V i) j) (hg':∀ j,j < k -> g' j = atL (dd N V i) j)
  (hT:VwL (mvAB a b) 7 (tm14o 4 3 (i:Nat)) T):Fit 5 (fam14o0b wh at_ nd nm n N V i) ⟨T,h⟩:=by
 subst hk
 have at_':∀ c,c < 7 -> mvAB a b c = some (if c = 5 then a else if c = 6 then b else c):=by
  intro c hc
  match c with
  | 0 => rfl
  | 1 => rfl
  | 2 => rfl
  | 3 => rfl
  | 4 => rfl
  | 5 => rfl
  | 6 => rfl
  | c + 7 => omega
 refine ⟨mvAB a b,⟨View.of ?_ ?_,hT⟩,?_,by simp [fam14o0b,rOb]⟩
 ·intro c o ho
  match c with
  | 0 => cases ho; exact ViewL.at_ (b:=0) rfl h0 (.gnd rfl rfl)
  | 1 => cases ho; exact ViewL.at_ (b:=1) rfl h1 (.gnd rfl rfl)
  | 2 => cases ho; exact ViewL.at_ (b:=2) rfl h2 (.gnd rfl rfl)
  | 4 => cases ho; exact ViewL.at_ (b:=4) rfl h3 (RowV.lst1 rfl (by simp only [fam14o0b,rOb]; (repeat' (first | with_reducible exact VwL.nil | with_reducible refine VwL.cons ?_ ?_ | with_reducible exact Vw.strI | with_reducible exact Vw.intI | with_reducible exact Vw.boolI | with_reducible exact Vw.nilsI | with_reducible refine Vw.aggI ?_ | exact Vw.gndI rfl | exact Vw.slI (by simp) rfl))))
  | 3 => cases ho; exact ViewL.at_ (b:=3) rfl h4 (RowV.lst1 rfl (by simp only [fam14o0b,rOb]; (repeat' (first | with_reducible exact VwL.nil | with_reducible refine VwL.cons ?_ ?_ | with_reducible exact Vw.strI | with_reducible exact Vw.intI | with_reducible exact Vw.boolI | with_reducible exact Vw.nilsI | with_reducible refine Vw.aggI ?_ | exact Vw.gndI rfl | exact Vw.slI (by simp) rfl))))
  | 5 =>
   cases ho
   refine ViewL.at_ (b:=a) rfl h5 (.gen rfl fun j hj => ⟨rfl,?_⟩)
   rw [hg j hj]; exact gnd_vw _ _ _ rfl
  | 6 =>
   cases ho
   refine ViewL.at_ (b:=b) rfl h6 (.gen rfl fun j hj => ⟨rfl,?_⟩)
   rw [hg' j hj]; exact gnd_vw _ _ _ rfl
  | c + 7 => simp [fam14o0b,rOb] at ho
 ·intro c c' d hc hc' e e'
  have hc:c < 7:=hc
  have hc':c' < 7:=hc'
  rw [at_' c hc] at e
  rw [at_' c' hc'] at e'
  injection e with e
  injection e' with e'
  split at e <;> split at e' <;> (try split at e) <;> (try split at e') <;> omega
 ·intro c hc
  rw [at_' c (by omega),if_neg (by omega),if_neg (by omega)]
theorem loop14o0b (t n:Nat) (N V:Nat -> Tx) (t' m:Nat) (N' V':Nat -> Tx) (wh at_ nd:Int) (nm:Tx) (st0:St) (hT:VwL (upR 5) 7 (tm14o 4 3 ((0:Nat):Int)) st0.tmps)
  (hr:st0.rows = r0b wh at_ nd nm 0 n) {Q:Exit -> St -> Prop}
  (h:Q .normal (fam14o0b wh at_ nd nm n N V (min n 20))):Safe Try.prog (base (ro2A t n N V t' m N' V')).R (.block 0 (.loop lp14o)) st0 Q:=by
 have hlen:st0.rows.length = 5:=by rw [hr]; rfl
 refine (loop_block (I:={i:Nat // i <= min n 20}) (fam:=fun i => fam14o0b wh at_ nd nm n N V i.1) (fun i => min n 20 - i.1)
  (X:=fun e stE => e = .exit 0 /\ stE = fam14o0b wh at_ nd nm n N V (min n 20)) (id:=0) (i0:=⟨0,Nat.zero_le _⟩) (st:=st0) (f:=upR 5) ?_ ?_ ?_ ?_).mono ?_
 ·refine ⟨?_,hT⟩
  rw [hr]
  refine View.of ?_ (fun c c' b h1 h2 h3 h4 => upR_inj c c' b h1 h2 h3 h4)
  intro c o ho
  match c with
  | 0 => cases ho; exact ViewL.at_ (b:=0) rfl rfl (.gnd rfl rfl)
  | 1 => cases ho; exact ViewL.at_ (b:=1) rfl rfl (.gnd rfl rfl)
  | 2 => cases ho; exact ViewL.at_ (b:=2) rfl rfl (.gnd rfl rfl)
  | 3 => cases ho; exact ViewL.at_ (b:=3) rfl rfl (RowV.lst1 rfl (.aggI (.cons .intI (.cons .strI (.cons (.slN (by simp [fam14o0b,rOb]) rfl) .nil)))))
  | 4 => cases ho; exact ViewL.at_ (b:=4) rfl rfl (RowV.lst1 rfl (.aggI (.cons .intI (.cons .strI (.cons (.slN (by simp [fam14o0b,rOb]) rfl) .nil)))))
  | 5 => cases ho; exact ViewL.void rfl rfl
  | 6 => cases ho; exact ViewL.void rfl rfl
  | c + 7 => simp [fam14o0b,rOb] at ho
 ·intro c hc; rw [hlen] at hc; exact upR_lt hc
 ·intro i; rw [hlen]; simp [fam14o0b,rOb]
 ·rintro ⟨i,hi⟩
  rw [hlen]
  have hdl:=dd_len N V i
  ·refine byRndL ((base_ok _).addLoop (f:=14) (fi:=fi14) (by kernel_rfl) (body:=.loop lp14i) blk14i (spec14i0b_ok t n N V t' m N' V' wh at_ nd nm (dd N V i) i (by omega))) (f:=14) (fi:=fi14) (by kernel_rfl) blk14o 1000 (vr14o0b t n N V t' m N' V' wh at_ nd nm (dd N V i) i _ _) ?_
   rw [wrapSucc i (by omega)]
   have hi0:0 + (i:Int).toNat = i:=by simp
   rw [hi0]
   refine hcB2 (fun c1 => ?_) (fun c1 => ?_)
   ·have e:min n 20 = i:=by have:=of_decide_eq_false c1; omega
    refine ⟨_,?_,rfl,rfl⟩
    rw [e]
    exact fit14o0b (a:=5) (b:=6) (by decide) (by decide) (by decide) rfl rfl rfl rfl rfl rfl rfl rfl (fun j hj => rfl) (fun j hj => rfl) (by ((simp only [tm14o,tm14i,tm64,tm15,tm16o,tm16i]; repeat' (first | with_reducible exact VwL.nil | with_reducible refine VwL.cons ?_ ?_ | with_reducible exact Vw.anyI | with_reducible exact Vw.strI | with_reducible exact Vw.boolI | with_reducible exact Vw.intI | with_reducible exact Vw.intE rfl | exact Vw.slI (by decide) rfl | exact Vw.slI (by simp) rfl | exact Vw.ptrI (by decide) rfl | exact Vw.ptrI (by simp [rOa]) rfl | exact Vw.ptrI (by simp [rOb]) rfl | exact Vw.gndI rfl))))
   have hiM:i < n:=by have:=of_decide_eq_true c1; omega
   refine hcB (fun c2 => ?_) (fun c2 => ?_)
   ·have c2:i < 20:=by have:=of_decide_eq_true c2; omega
    refine ⟨⟨hiM,rfl,rfl,rfl,rfl,rfl,rfl,rfl,rfl,rfl,⟨rfl⟩⟩,?_⟩
    have hM:decide (i < n) = true:=decide_eq_true hiM
    refine hcB (fun c3 => ?_) (fun c3 => ?_)
    ·have c3:(dd N V i).any (fun p => p.1 == N i) = false:=by simpa using c3
     have e:dd N V (i + 1) = dd N V i ++ [(N i,V i)]:=by simp only [dd,c3,cond_false]
     refine hcT (by simp; omega) (hcT hM (hcT (by simp; omega) (hcT hM ⟨rfl,?_⟩)))
     refine hcT (capOK (by omega)) ?_
     refine hcT (by simp; omega) (hcT hM (hcT (by simp; omega) (hcT hM ⟨rfl,?_⟩)))
     refine hcT (capOK (by omega)) ?_
     refine ⟨⟨i + 1,by omega⟩,by show min n 20 - (i + 1) < min n 20 - i; omega,?_⟩
     refine fit14o0b (a:=8) (b:=10) (by decide) (by decide) (by decide) (k:=(dd N V i).length + 1) (by rw [e]; simp) rfl rfl rfl rfl rfl rfl rfl (fun j hj => ?_) (fun j hj => ?_) (by ((simp only [tm14o,tm14i,tm64,tm15,tm16o,tm16i]; repeat' (first | with_reducible exact VwL.nil | with_reducible refine VwL.cons ?_ ?_ | with_reducible exact Vw.anyI | with_reducible exact Vw.strI | with_reducible exact Vw.boolI | with_reducible exact Vw.intI | with_reducible exact Vw.intE rfl | exact Vw.slI (by decide) rfl | exact Vw.slI (by simp) rfl | exact Vw.ptrI (by decide) rfl | exact Vw.ptrI (by simp [rOa]) rfl | exact Vw.ptrI (by simp [rOb]) rfl | exact Vw.gndI rfl))))
     ·rw [e]; exact snoc_atL _ (N i,V i) j hj
     ·rw [e]; exact snoc_atL _ (N i,V i) j hj
    ·have c3:(dd N V i).any (fun p => p.1 == N i) = true:=by simpa using c3
     have e:dd N V (i + 1) = dd N V i:=by simp only [dd,c3,cond_true]
     refine ⟨⟨i + 1,by omega⟩,by show min n 20 - (i + 1) < min n 20 - i; omega,?_⟩
     refine fit14o0b (a:=5) (b:=6) (by decide) (by decide) (by decide) (k:=(dd N V i).length) (by rw [e]) rfl rfl rfl rfl rfl rfl rfl (fun j hj => by rw [e]; rfl) (fun j hj => by rw [e]; rfl) (by ((simp only [tm14o,tm14i,tm64,tm15,tm16o,tm16i]; repeat' (first | with_reducible exact VwL.nil | with_reducible refine VwL.cons ?_ ?_ | with_reducible exact Vw.anyI | with_reducible exact Vw.strI | with_reducible exact Vw.boolI | with_reducible exact Vw.intI | with_reducible exact Vw.intE rfl | exact Vw.slI (by decide) rfl | exact Vw.slI (by simp) rfl | exact Vw.ptrI (by decide) rfl | exact Vw.ptrI (by simp [rOa]) rfl | exact Vw.ptrI (by simp [rOb]) rfl | exact Vw.gndI rfl))))
   ·have e:min n 20 = i:=by have:=of_decide_eq_false c2; omega
    refine ⟨_,?_,rfl,rfl⟩
    rw [e]
    exact fit14o0b (a:=5) (b:=6) (by decide) (by decide) (by decide) rfl rfl rfl rfl rfl rfl rfl rfl (fun j hj => rfl) (fun j hj => rfl) (by ((simp only [tm14o,tm14i,tm64,tm15,tm16o,tm16i]; repeat' (first | with_reducible exact VwL.nil | with_reducible refine VwL.cons ?_ ?_ | with_reducible exact Vw.anyI | with_reducible exact Vw.strI | with_reducible exact Vw.boolI | with_reducible exact Vw.intI | with_reducible exact Vw.intE rfl | exact Vw.slI (by decide) rfl | exact Vw.slI (by simp) rfl | exact Vw.ptrI (by decide) rfl | exact Vw.ptrI (by simp [rOa]) rfl | exact Vw.ptrI (by simp [rOb]) rfl | exact Vw.gndI rfl))))
 ·rintro e stE ⟨e0,rfl,rfl,rfl⟩
  exact h
def spec14o (q n:Nat) (wh at_ nd:Int) (nm:Tx) (D:List At) (i:Nat):LoopSp:=fun st k => match nthV st.tmps 4 with
 | .ptr false 3 0 0 =>
  (nthV st.tmps 1 = .ptr false 0 0 0 /\ nthV st.tmps 2 = .ptr false 1 0 0 /\ nthV st.tmps 3 = .ptr false 2 0 0 /\ nthV st.tmps 5 = .ptr false 4 0 0 /\ nthV st.tmps 6 = .int .i64 0 /\ st.tmps.length = 93 /\ RowsAre st.rows (r0a wh at_ nd nm q n)) /\
  k .normal ⟨tm14o 3 4 (i:Nat),rOa wh at_ nd nm q n D⟩
 | .ptr false 4 0 0 =>
  (nthV st.tmps 1 = .ptr false 0 0 0 /\ nthV st.tmps 2 = .ptr false 1 0 0 /\ nthV st.tmps 3 = .ptr false 2 0 0 /\ nthV st.tmps 5 = .ptr false 3 0 0 /\ nthV st.tmps 6 = .int .i64 0 /\ st.tmps.length = 93 /\ RowsAre st.rows (r0b wh at_ nd nm q n)) /\
  k .normal ⟨tm14o 4 3 (i:Nat),rOb wh at_ nd nm q n D⟩
 | _ => False
end Go.Dc.Kb
end
section
namespace Go.Dc.Kb
open Go.Proofs Go.RowKit
set_option maxRecDepth 100000
theorem vc140 (t n:Nat) (N V:Nat -> Tx) (t' m:Nat) (N' V':Nat -> Tx) (wh at_ nd:Int) (nm:Tx) (D:List At) (i:Nat) (Q:AV -> Rows -> Prop):vcd ((base (ro2A t n N V t' m N' V')).addLoop 14 0 (spec14o 0 n wh at_ nd nm D i)) 1000 14 fi14 [actA wh at_ nd nm 0 n] [] Q = ((AV.str nm = AV.str nm /\ iI nd = iI nd /\ AV.str nm = AV.str nm /\ iI nd = iI nd /\ AV.str nm = AV.str nm /\ iI nd = iI nd /\ AV.str nm = AV.str nm /\ iI nd = iI nd /\ AV.str nm = AV.str nm /\ iI nd = iI nd /\ (AV.ptr false 0 0 0 = AV.ptr false 0 0 0 /\ AV.ptr false 1 0 0 = AV.ptr false 1 0 0 /\ AV.ptr false 2 0 0 = AV.ptr false 2 0 0 /\ AV.ptr false 4 0 0 = AV.ptr false 4 0 0 /\ iI 0 = iI 0 /\ 93 = 93 /\ RowsAre [some (Row.lst 34 5 [AV.agg [iI wh,iI at_,iI nd,AV.str nm,AV.sl true 0 0 n Cp.no]]),some (Row.lst 37 3 [AV.agg [iI 0,AV.str [],AV.nils]]),some (Row.lst 40 3 [AV.agg [iI 0,AV.str [],AV.nils]]),some (Row.lst 37 3 [AV.agg [iI nd,AV.str nm,AV.nils]]),some (Row.lst 40 3 [AV.agg [iI nd,AV.str nm,AV.nils]])] [some (Row.lst 34 5 [AV.agg [iI wh,iI at_,iI nd,AV.str nm,AV.sl true 0 0 n Cp.no]]),some (Row.lst 37 3 [AV.agg [iI 0,AV.str [],AV.nils]]),some (Row.lst 40 3 [AV.agg [iI 0,AV.str [],AV.nils]]),some (Row.lst 37 3 [AV.agg [iI nd,AV.str nm,AV.nils]]),some (Row.lst 40 3 [AV.agg [iI nd,AV.str nm,AV.nils]])]) /\ AV.agg [iI nd,AV.str nm,AV.sl false 6 0 D.length Cp.no] = AV.agg [iI nd,AV.str nm,AV.sl false 6 0 D.length Cp.no] /\ Q (AV.tup [AV.agg [iI nd,AV.str nm,AV.sl false 5 0 D.length Cp.no],AV.agg [iI nd,AV.str nm,AV.sl false 6 0 D.length Cp.no]]) [some (Row.lst 34 5 [AV.agg [iI wh,iI at_,iI nd,AV.str nm,AV.sl true 0 0 n Cp.no]]),some (Row.lst 37 3 [AV.agg [iI nd,AV.str nm,AV.sl false 5 0 D.length Cp.no]]),some (Row.lst 40 3 [AV.agg [iI nd,AV.str nm,AV.sl false 6 0 D.length Cp.no]]),some (Row.lst 37 3 [AV.agg [iI nd,AV.str nm,AV.sl false 5 0 D.length Cp.no]]),some (Row.lst 40 3 [AV.agg [iI nd,AV.str nm,AV.sl false 6 0 D.length Cp.no]]),some (Row.gen 90 2 D.length fun j => AV.agg [AV.str (D.getD j ([],[])).fst,AV.str (D.getD j ([],[])).snd]),some (Row.gen 88 2 D.length fun j => AV.agg [AV.str (D.getD j ([],[])).fst,AV.str (D.getD j ([],[])).snd])]) /\ AV.str nm = AV.str nm /\ iI nd = iI nd /\ AV.str nm = AV.str nm /\ iI nd = iI nd /\ AV.str nm = AV.str nm /\ iI nd = iI nd /\ AV.str nm = AV.str nm /\ iI nd = iI nd /\ AV.str nm = AV.str nm /\ iI nd = iI nd /\ (AV.ptr false 0 0 0 = AV.ptr false 0 0 0 /\ AV.ptr false 1 0 0 = AV.ptr false 1 0 0 /\ AV.ptr false 2 0 0 = AV.ptr false 2 0 0 /\ AV.ptr false 3 0 0 = AV.ptr false 3 0 0 /\ iI 0 = iI 0 /\ 93 = 93 /\ RowsAre [some (Row.lst 34 5 [AV.agg [iI wh,iI at_,iI nd,AV.str nm,AV.sl true 0 0 n Cp.no]]),some (Row.lst 37 3 [AV.agg [iI 0,AV.str [],AV.nils]]),some (Row.lst 40 3 [AV.agg [iI 0,AV.str [],AV.nils]]),some (Row.lst 40 3 [AV.agg [iI nd,AV.str nm,AV.nils]]),some (Row.lst 37 3 [AV.agg [iI nd,AV.str nm,AV.nils]])] [some (Row.lst 34 5 [AV.agg [iI wh,iI at_,iI nd,AV.str nm,AV.sl true 0 0 n Cp.no]]),some (Row.lst 37 3 [AV.agg [iI 0,AV.str [],AV.nils]]),some (Row.lst 40 3 [AV.agg [iI 0,AV.str [],AV.nils]]),some (Row.lst 40 3 [AV.agg [iI nd,AV.str nm,AV.nils]]),some (Row.lst 37 3 [AV.agg [iI nd,AV.str nm,AV.nils]])]) /\ AV.agg [iI nd,AV.str nm,AV.sl false 6 0 D.length Cp.no] = AV.agg [iI nd,AV.str nm,AV.sl false 6 0 D.length Cp.no] /\ Q (AV.tup [AV.agg [iI nd,AV.str nm,AV.sl false 5 0 D.length Cp.no],AV.agg [iI nd,AV.str nm,AV.sl false 6 0 D.length Cp.no]]) [some (Row.lst 34 5 [AV.agg [iI wh,iI at_,iI nd,AV.str nm,AV.sl true 0 0 n Cp.no]]),some (Row.lst 37 3 [AV.agg [iI nd,AV.str nm,AV.sl false 5 0 D.length Cp.no]]),some (Row.lst 40 3 [AV.agg [iI nd,AV.str nm,AV.sl false 6 0 D.length Cp.no]]),some (Row.lst 40 3 [AV.agg [iI nd,AV.str nm,AV.sl false 6 0 D.length Cp.no]]),some (Row.lst 37 3 [AV.agg [iI nd,AV.str nm,AV.sl false 5 0 D.length Cp.no]]),some (Row.gen 90 2 D.length fun j => AV.agg [AV.str (D.getD j ([],[])).fst,AV.str (D.getD j ([],[])).snd]),some (Row.gen 88 2 D.length fun j => AV.agg [AV.str (D.getD j ([],[])).fst,AV.str (D.getD j ([],[])).snd])]):=by kernel_rfl
def twoR (D:List At):Rows:=[some (.gen 90 2 D.length (atL D)),some (.gen 88 2 D.length (atL D))]
theorem fit14 (nd:Int) (nm:Tx) (D:List At) {h:Rows} (h5:h[5]? = some (some (.gen 90 2 D.length (atL D)))) (h6:h[6]? = some (some (.gen 88 2 D.length (atL D)))) :
  ∃ vE hE,FitV 0 vE hE (.tup [entA nd nm (.sl false 5 0 D.length .no),entA nd nm (.sl false 6 0 D.length .no)]) h /\ (vE = .tup [entA nd nm (.sl false 0 0 D.length .no),entA nd nm (.sl false 1 0 D.length .no)] /\ hE = twoR D):=by
 refine ⟨_,_,⟨fun c => some (c + 5),View.of ?_ ?_,?_,fun c hc => absurd hc (Nat.not_lt_zero _),Nat.zero_le _⟩,rfl,rfl⟩
 ·intro c o ho
  match c with
  | 0 => cases ho; exact ViewL.at_ (b:=5) rfl h5 (atL_row D)
  | 1 => cases ho; exact ViewL.at_ (b:=6) rfl h6 (atL_row D)
  | c + 2 => simp [twoR] at ho
 ·intro c c' b _ _ e e'
  injection e with e
  injection e' with e'
  omega
 ·exact .tupI (.cons (.aggI (.cons .intI (.cons .strI (.cons (.slI (by simp [twoR]) rfl) .nil)))) (.cons (.aggI (.cons .intI (.cons .strI (.cons (.slI (by simp [twoR]) rfl) .nil)))) .nil))
theorem spec14o0_ok (t n:Nat) (N V:Nat -> Tx) (t' m:Nat) (N' V':Nat -> Tx) (wh at_ nd:Int) (nm:Tx) :
  ∀ st k,spec14o 0 n wh at_ nd nm (dd N V (min n 20)) (min n 20) st k -> Safe Try.prog (base (ro2A t n N V t' m N' V')).R (.block 0 (.loop lp14o)) st k:=by
 intro st k hk
 unfold spec14o at hk
 split at hk
 ·rename_i t4
  obtain ⟨⟨t1,t2,t3,t5,t6,hl,⟨hr⟩⟩,hk⟩:=hk
  refine loop14o0a t n N V t' m N' V' wh at_ nd nm st ?_ hr hk
  rw [tm14o_spr]
  refine VwL.ofKnown hl ⟨?_,?_,?_,?_,?_,?_,trivial⟩
  ·rw [t1]; exact Vw.ptrI (by decide) rfl
  ·rw [t2]; exact Vw.ptrI (by decide) rfl
  ·rw [t3]; exact Vw.ptrI (by decide) rfl
  ·rw [t4]; exact Vw.ptrI (by decide) rfl
  ·rw [t5]; exact Vw.ptrI (by decide) rfl
  ·rw [t6]; exact Vw.intI
 ·rename_i t4
  obtain ⟨⟨t1,t2,t3,t5,t6,hl,⟨hr⟩⟩,hk⟩:=hk
  refine loop14o0b t n N V t' m N' V' wh at_ nd nm st ?_ hr hk
  rw [tm14o_spr]
  refine VwL.ofKnown hl ⟨?_,?_,?_,?_,?_,?_,trivial⟩
  ·rw [t1]; exact Vw.ptrI (by decide) rfl
  ·rw [t2]; exact Vw.ptrI (by decide) rfl
  ·rw [t3]; exact Vw.ptrI (by decide) rfl
  ·rw [t4]; exact Vw.ptrI (by decide) rfl
  ·rw [t5]; exact Vw.ptrI (by decide) rfl
  ·rw [t6]; exact Vw.intI
 ·exact hk.elim
theorem safe140 (t n:Nat) (N V:Nat -> Tx) (t' m:Nat) (N' V':Nat -> Tx) (wh at_ nd:Int) (nm:Tx):SafeCall Try.prog (ro2A t n N V t' m N' V') 14 [actA wh at_ nd nm 0 n] [] fun v h =>
  v = .tup [entA nd nm (.sl false 0 0 (dd N V (min n 20)).length .no),entA nd nm (.sl false 1 0 (dd N V (min n 20)).length .no)] /\ h = twoR (dd N V (min n 20)):=by
 refine SafeCall.fit (Q:=fun v h => ∃ vE hE,FitV 0 vE hE v h /\ (vE = .tup [entA nd nm (.sl false 0 0 (dd N V (min n 20)).length .no),entA nd nm (.sl false 1 0 (dd N V (min n 20)).length .no)] /\ hE = twoR (dd N V (min n 20)))) ?_ (fun _ _ h => h)
 refine byVcd ((base_ok _).addLoop (f:=14) (fi:=fi14) (by kernel_rfl) (body:=.loop lp14o) blk14o (spec14o0_ok t n N V t' m N' V' wh at_ nd nm)) (f:=14) (fi:=fi14) (by kernel_rfl) 1000 (vc140 t n N V t' m N' V' wh at_ nd nm (dd N V (min n 20)) (min n 20) _) ?_
 repeat' (first | exact RowsAre.mk rfl | exact fit14 _ _ _ rfl rfl | apply And.intro | exact rfl)
def ro2D (t:Nat) (D:List At) (t':Nat) (D':List At):RR:=fun i => match i with | 0 => ⟨t,2,D.length,atL D⟩ | 1 => ⟨t',2,D'.length,atL D'⟩ | _ + 2 => ⟨0,0,0,fun _ => .undef⟩
def rB (a b:Tx):Rows:=[some (.lst 90 2 [.agg [.str a,.str b]])]
def isIn (D:List At) (a b:Tx):Bool:=D.any fun p => a == p.1 && b == p.2
def r15 (nd nd':Int) (nm nm':Tx) (n m:Nat):Rows:=[some (.lst 37 3 [entA nd nm (.sl true 0 0 n .no)]),some (.lst 37 3 [entA nd' nm' (.sl true 1 0 m .no)])]
def r16 (nd nd':Int) (nm nm':Tx) (n m:Nat):Rows:=[some (.lst 40 3 [entA nd nm (.sl true 0 0 n .no)]),some (.lst 40 3 [entA nd' nm' (.sl true 1 0 m .no)])]
def spec48 (D':List At):CallSpec:=fun args h k => match args with
 | [.sl true 1 0 m .no,.agg [.str a,.str b]] => m = D'.length /\ k (.bool (isIn D' a b)) h
 | _ => False
def tm64r (j:Int):List AV:=[.any,.any,.any,.any,.int .i64 j,.any,.any,.any,.any,.any,.any,.any,.any,.any,.any,.any,.any,.any,.any]
def tm15r :List AV:=[.any,.any,.any,.any,.bool false,.any,.any,.any,.any,.any,.any,.any,.any,.any,.any,.any,.any,.any,.any,.any,.any,.any,.any,.any,.any,.any,.any,.any,.any,.any,.any,.any,.any,.any]
def allIn (D D':List At):Bool:=D.all fun p => isIn D' p.1 p.2
def cnt (D D':List At):Nat -> Nat
 | 0 => 0
 | i + 1 => bif isIn D' (D.getD i ([],[])).1 (D.getD i ([],[])).2 then cnt D D' i + 1 else cnt D D' i
def spec64 (D':List At) (a b:Tx):LoopSp:=fun st k =>
 (nthV st.tmps 0 = .sl true 1 0 D'.length .no /\ nthV st.tmps 3 = .ptr false 0 0 0 /\ nthV st.tmps 7 = .int .i64 D'.length /\ nthV st.tmps 8 = .int .i64 0 /\ st.tmps.length = 19 /\ RowsAre st.rows (rB a b)) /\
 (isIn D' a b = true -> ∀ j:Nat,k .ret ⟨tm64r j,rB a b⟩) /\ (isIn D' a b = false -> k .normal ⟨tm64 D'.length (D'.length:Nat),rB a b⟩)
def spec64C (D':List At):CallSpec:=fun args h k => match args with
 | [.sl true 1 0 m .no,.agg [.str a,.str b]] => m = D'.length /\ (isIn D' a b = true -> ∀ j:Nat,k (.int .i64 j) h) /\ (isIn D' a b = false -> k (.int .i64 (-1)) h)
 | _ => False
def spec15L (D D':List At) (h0:Rows):LoopSp:=fun st k =>
 (nthV st.tmps 2 = .ptr false 0 0 0 /\ nthV st.tmps 3 = .ptr false 1 0 0 /\ nthV st.tmps 22 = .sl true 0 0 D.length .no /\ nthV st.tmps 23 = .int .i64 D.length /\ nthV st.tmps 24 = .int .i64 0 /\ st.tmps.length = 34 /\ RowsAre st.rows h0) /\
 (allIn D D' = false -> k .ret ⟨tm15r,h0⟩) /\ (allIn D D' = true -> k .normal ⟨tm15 D.length (D.length:Nat),h0⟩)
end Go.Dc.Kb
end
section
namespace Go.Dc.Kb
open Go.Proofs Go.RowKit
set_option maxRecDepth 100000
theorem vr64 (t:Nat) (D:List At) (t':Nat) (D':List At) (a b:Tx) (i:Nat) (K:Exit -> St -> Prop):rnd (base (ro2D t D t' D')) 1000 64 lp64 ⟨tm64 D'.length (i:Nat),rB a b⟩ K = (bif decide ((↑i:Int) < (↑D'.length:Int)) then bif true && decide ((↑i:Int) < (↑D'.length:Int)) then bif decide (0 + (↑i:Int).toNat < ((base (ro2D t D t' D')).R 1).n) then bif a == (D'.getD (0 + (↑i:Int).toNat) ([],[])).fst && (b == (D'.getD (0 + (↑i:Int).toNat) ([],[])).snd && true) then K Exit.ret (St.mk [AV.sl true 1 0 D'.length Cp.no,AV.any,AV.any,AV.ptr false 0 0 0,iI (↑i:Int),iI (↑i:Int),AV.any,iI (↑D'.length:Int),iI (↑i:Int),AV.bool true,iI (↑i:Int),AV.agg [AV.str a,AV.str b],AV.sl true 1 0 D'.length Cp.no,iI (↑i:Int),AV.ptr true 1 (0 + (↑i:Int).toNat) 0,AV.agg [AV.str (D'.getD (0 + (↑i:Int).toNat) ([],[])).fst,AV.str (D'.getD (0 + (↑i:Int).toNat) ([],[])).snd],AV.bool true,iI (↑i:Int),AV.any] [some (Row.lst 90 2 [AV.agg [AV.str a,AV.str b]])]) else K Exit.normal (St.mk [AV.sl true 1 0 D'.length Cp.no,AV.any,AV.any,AV.ptr false 0 0 0,AV.any,iI (↑i:Int),AV.any,iI (↑D'.length:Int),iI (IntKind.i64.wrap ((↑i:Int) + 1)),AV.bool true,iI (↑i:Int),AV.agg [AV.str a,AV.str b],AV.sl true 1 0 D'.length Cp.no,iI (↑i:Int),AV.ptr true 1 (0 + (↑i:Int).toNat) 0,AV.agg [AV.str (D'.getD (0 + (↑i:Int).toNat) ([],[])).fst,AV.str (D'.getD (0 + (↑i:Int).toNat) ([],[])).snd],AV.bool false,AV.any,iI (IntKind.i64.wrap ((↑i:Int) + 1))] [some (Row.lst 90 2 [AV.agg [AV.str a,AV.str b]])]) else False else False else K (Exit.exit 0) (St.mk [AV.sl true 1 0 D'.length Cp.no,AV.any,AV.any,AV.ptr false 0 0 0,AV.any,AV.any,AV.any,iI (↑D'.length:Int),iI (↑i:Int),AV.bool false,AV.any,AV.any,AV.any,AV.any,AV.any,AV.any,AV.any,AV.any,AV.any] [some (Row.lst 90 2 [AV.agg [AV.str a,AV.str b]])])):=by kernel_rfl
theorem vr15 (t:Nat) (D:List At) (t':Nat) (D':List At) (nd nd':Int) (nm nm':Tx) (i:Nat) (K:Exit -> St -> Prop):rnd ((base (ro2D t D t' D')).addCall 48 (spec48 D')) 1000 15 lp15 ⟨tm15 D.length (i:Nat),r15 nd nd' nm nm' D.length D'.length⟩ K = (bif decide ((↑i:Int) < (↑D.length:Int)) then bif true && decide ((↑i:Int) < (↑D.length:Int)) then bif decide (0 + (↑i:Int).toNat < (((base (ro2D t D t' D')).addCall 48 (spec48 D')).R 0).n) then D'.length = D'.length /\ bif !isIn D' (D.getD (0 + (↑i:Int).toNat) ([],[])).fst (D.getD (0 + (↑i:Int).toNat) ([],[])).snd then K Exit.ret (St.mk [AV.any,AV.any,AV.ptr false 0 0 0,AV.ptr false 1 0 0,AV.bool false,AV.any,AV.ptr false 2 0 0,AV.any,AV.any,AV.any,AV.any,AV.any,AV.any,AV.any,AV.any,AV.any,AV.any,AV.any,AV.any,AV.any,AV.any,AV.any,AV.sl true 0 0 D.length Cp.no,iI (↑D.length:Int),iI (↑i:Int),AV.bool true,AV.ptr true 0 (0 + (↑i:Int).toNat) 0,AV.agg [AV.str (D.getD (0 + (↑i:Int).toNat) ([],[])).fst,AV.str (D.getD (0 + (↑i:Int).toNat) ([],[])).snd],AV.ptr false 1 0 2,AV.sl true 1 0 D'.length Cp.no,AV.agg [AV.str (D.getD (0 + (↑i:Int).toNat) ([],[])).fst,AV.str (D.getD (0 + (↑i:Int).toNat) ([],[])).snd],AV.bool (isIn D' (D.getD (0 + (↑i:Int).toNat) ([],[])).fst (D.getD (0 + (↑i:Int).toNat) ([],[])).snd),AV.bool true,AV.any] [some (Row.lst 37 3 [AV.agg [iI nd,AV.str nm,AV.sl true 0 0 D.length Cp.no]]),some (Row.lst 37 3 [AV.agg [iI nd',AV.str nm',AV.sl true 1 0 D'.length Cp.no]]),some (Row.lst 90 2 [AV.agg [AV.str (D.getD (0 + (↑i:Int).toNat) ([],[])).fst,AV.str (D.getD (0 + (↑i:Int).toNat) ([],[])).snd]])]) else K Exit.normal (St.mk [AV.any,AV.any,AV.ptr false 0 0 0,AV.ptr false 1 0 0,AV.any,AV.any,AV.ptr false 2 0 0,AV.any,AV.any,AV.any,AV.any,AV.any,AV.any,AV.any,AV.any,AV.any,AV.any,AV.any,AV.any,AV.any,AV.any,AV.any,AV.sl true 0 0 D.length Cp.no,iI (↑D.length:Int),iI (IntKind.i64.wrap ((↑i:Int) + 1)),AV.bool true,AV.ptr true 0 (0 + (↑i:Int).toNat) 0,AV.agg [AV.str (D.getD (0 + (↑i:Int).toNat) ([],[])).fst,AV.str (D.getD (0 + (↑i:Int).toNat) ([],[])).snd],AV.ptr false 1 0 2,AV.sl true 1 0 D'.length Cp.no,AV.agg [AV.str (D.getD (0 + (↑i:Int).toNat) ([],[])).fst,AV.str (D.getD (0 + (↑i:Int).toNat) ([],[])).snd],AV.bool (isIn D' (D.getD (0 + (↑i:Int).toNat) ([],[])).fst (D.getD (0 + (↑i:Int).toNat) ([],[])).snd),AV.bool false,iI (IntKind.i64.wrap ((↑i:Int) + 1))] [some (Row.lst 37 3 [AV.agg [iI nd,AV.str nm,AV.sl true 0 0 D.length Cp.no]]),some (Row.lst 37 3 [AV.agg [iI nd',AV.str nm',AV.sl true 1 0 D'.length Cp.no]]),some (Row.lst 90 2 [AV.agg [AV.str (D.getD (0 + (↑i:Int).toNat) ([],[])).fst,AV.str (D.getD (0 + (↑i:Int).toNat) ([],[])).snd]])]) else False else False else K (Exit.exit 0) (St.mk [AV.any,AV.any,AV.ptr false 0 0 0,AV.ptr false 1 0 0,AV.any,AV.any,AV.any,AV.any,AV.any,AV.any,AV.any,AV.any,AV.any,AV.any,AV.any,AV.any,AV.any,AV.any,AV.any,AV.any,AV.any,AV.any,AV.sl true 0 0 D.length Cp.no,iI (↑D.length:Int),iI (↑i:Int),AV.bool false,AV.any,AV.any,AV.any,AV.any,AV.any,AV.any,AV.any,AV.any] [some (Row.lst 37 3 [AV.agg [iI nd,AV.str nm,AV.sl true 0 0 D.length Cp.no]]),some (Row.lst 37 3 [AV.agg [iI nd',AV.str nm',AV.sl true 1 0 D'.length Cp.no]])])):=by kernel_rfl
theorem vc64 (t:Nat) (D:List At) (t':Nat) (D':List At) (a b:Tx) (Q:AV -> Prop):vcd ((base (ro2D t D t' D')).addLoop 64 0 (spec64 D' a b)) 1000 64 fi64 [.sl true 1 0 D'.length .no,.agg [.str a,.str b]] [] (fun v _ => Q v) = ((AV.sl true 1 0 D'.length Cp.no = AV.sl true 1 0 D'.length Cp.no /\ AV.ptr false 0 0 0 = AV.ptr false 0 0 0 /\ iI (↑D'.length:Int) = iI (↑D'.length:Int) /\ iI 0 = iI 0 /\ 19 = 19 /\ RowsAre [some (Row.lst 90 2 [AV.agg [AV.str a,AV.str b]])] [some (Row.lst 90 2 [AV.agg [AV.str a,AV.str b]])]) /\ (isIn D' a b = true -> ∀ (j:Nat),Q (iI (↑j:Int))) /\ (isIn D' a b = false -> Q (iI (-1)))):=by kernel_rfl
theorem vc48 (t:Nat) (D:List At) (t':Nat) (D':List At) (a b:Tx) (Q:AV -> Prop):vcd ((base (ro2D t D t' D')).addCall 64 (spec64C D')) 1000 48 fi48 [.sl true 1 0 D'.length .no,.agg [.str a,.str b]] [] (fun v _ => Q v) = (D'.length = D'.length /\ (isIn D' a b = true -> ∀ (j:Nat),Q (AV.bool true)) /\ (isIn D' a b = false -> Q (AV.bool false))):=by kernel_rfl
theorem vc15 (t:Nat) (D:List At) (t':Nat) (D':List At) (nd nd':Int) (nm nm':Tx) (Q:AV -> Prop):vcd (((base (ro2D t D t' D')).addCall 48 (spec48 D')).addLoop 15 0 (spec15L D D' (r15 nd nd' nm nm' D.length D'.length))) 1000 15 fi15 [entA nd nm (.sl true 0 0 D.length .no),entA nd' nm' (.sl true 1 0 D'.length .no)] [] (fun v _ => Q v) = (bif !nm == nm' then Q (AV.bool false) else bif (↑D.length:Int) != (↑D'.length:Int) then Q (AV.bool false) else (AV.ptr false 0 0 0 = AV.ptr false 0 0 0 /\ AV.ptr false 1 0 0 = AV.ptr false 1 0 0 /\ AV.sl true 0 0 D.length Cp.no = AV.sl true 0 0 D.length Cp.no /\ iI (↑D.length:Int) = iI (↑D.length:Int) /\ iI 0 = iI 0 /\ 34 = 34 /\ RowsAre [some (Row.lst 37 3 [AV.agg [iI nd,AV.str nm,AV.sl true 0 0 D.length Cp.no]]),some (Row.lst 37 3 [AV.agg [iI nd',AV.str nm',AV.sl true 1 0 D'.length Cp.no]])] [some (Row.lst 37 3 [AV.agg [iI nd,AV.str nm,AV.sl true 0 0 D.length Cp.no]]),some (Row.lst 37 3 [AV.agg [iI nd',AV.str nm',AV.sl true 1 0 D'.length Cp.no]])]) /\ (allIn D D' = false -> Q (AV.bool false)) /\ (allIn D D' = true -> Q (AV.bool true))):=by kernel_rfl
theorem gnd2_view {r r':Option Row} (h:Rows) (h0:h[0]? = some r) (h1:h[1]? = some r') (g0:∀ x,r = some x -> RowV some 2 x x) (g1:∀ x,r' = some x -> RowV some 2 x x) (hr:r.isSome = true) (hr':r'.isSome = true):View some [r,r'] h:=by
 refine View.of ?_ (fun c c' b h1 h2 h3 h4 => some_inj _ c c' b h1 h2 h3 h4)
 intro c o ho
 match c with
 | 0 =>
  cases ho
  obtain ⟨x,rfl⟩:=Option.isSome_iff_exists.1 hr
  exact ViewL.at_ (b:=0) rfl h0 (g0 x rfl)
 | 1 =>
  cases ho
  obtain ⟨x,rfl⟩:=Option.isSome_iff_exists.1 hr'
  exact ViewL.at_ (b:=1) rfl h1 (g1 x rfl)
 | c + 2 => simp at ho
def eqAt (D':List At) (a b:Tx) (j:Nat):Bool:=a == (D'.getD j ([],[])).1 && b == (D'.getD j ([],[])).2
theorem isIn_at {D':List At} {a b:Tx} {j:Nat} (hj:j < D'.length) (h:eqAt D' a b j = true):isIn D' a b = true:=by
 unfold isIn
 rw [List.any_eq_true]
 refine ⟨D'[j],List.getElem_mem hj,?_⟩
 unfold eqAt at h
 rwa [show D'.getD j ([],[]) = D'[j] by simp [List.getD,List.getElem?_eq_getElem hj]] at h
theorem isIn_none {D':List At} {a b:Tx} (h:∀ j,j < D'.length -> eqAt D' a b j = false):isIn D' a b = false:=by
 unfold isIn
 rw [List.any_eq_false]
 intro p hp
 obtain ⟨j,hj,rfl⟩:=List.mem_iff_getElem.1 hp
 have:=h j hj
 unfold eqAt at this
 rw [show D'.getD j ([],[]) = D'[j] by simp [List.getD,List.getElem?_eq_getElem hj]] at this
 rw [this]; simp
theorem loop64 (t:Nat) (D:List At) (t':Nat) (D':List At) (a b:Tx) (hD:D'.length <= 1000000) (st0:St) (hT:VwL some 1 (tm64 D'.length ((0:Nat):Int)) st0.tmps) (hr:st0.rows = rB a b) {Q:Exit -> St -> Prop}
  (h1:isIn D' a b = true -> ∀ j:Nat,Q .ret ⟨tm64r j,rB a b⟩) (h2:isIn D' a b = false -> Q .normal ⟨tm64 D'.length (D'.length:Nat),rB a b⟩):Safe Try.prog (base (ro2D t D t' D')).R (.block 0 (.loop lp64)) st0 Q:=by
 have hlen:st0.rows.length = 1:=by rw [hr]; rfl
 have vR:View some (rB a b) (rB a b):=by
  refine View.of ?_ (fun c c' b h1 h2 h3 h4 => some_inj _ c c' b h1 h2 h3 h4)
  intro c o ho
  match c with
  | 0 => cases ho; exact ViewL.at_ (b:=0) rfl rfl (.gnd rfl rfl)
  | c + 1 => simp [rB] at ho
 refine (loop_block (I:={i:Nat // i <= D'.length /\ ∀ j,j < i -> eqAt D' a b j = false}) (fam:=fun i => ⟨tm64 D'.length (i.1:Nat),rB a b⟩) (fun i => D'.length - i.1)
  (X:=fun e stE => (e = .ret /\ isIn D' a b = true /\ ∃ j:Nat,stE = ⟨tm64r j,rB a b⟩) \/ (e = .exit 0 /\ isIn D' a b = false /\ stE = ⟨tm64 D'.length (D'.length:Nat),rB a b⟩)) (id:=0) (i0:=⟨0,Nat.zero_le _,fun j hj => absurd hj (Nat.not_lt_zero _)⟩) (st:=st0) (f:=some) ?_ ?_ ?_ ?_).mono ?_
 ·exact ⟨by rw [hr]; exact vR,hT⟩
 ·intro c hc; rfl
 ·intro k; rw [hlen]; exact Nat.le_refl _
 ·rintro ⟨i,hi,hno⟩
  rw [hlen]
  refine byRndL (base_ok _) (f:=64) (fi:=fi64) (by kernel_rfl) blk64 1000 (vr64 t D t' D' a b i _) ?_
  rw [wrapSucc i (by omega)]
  have hi0:0 + (i:Int).toNat = i:=by simp
  rw [hi0]
  refine hcB (fun c1 => ?_) (fun c1 => ?_)
  ·have c1:i < D'.length:=by have:=of_decide_eq_true c1; omega
   refine hcT (by simp; omega) (hcT (decide_eq_true (show i < D'.length from c1)) ?_)
   refine hcB (fun c2 => ?_) (fun c2 => ?_)
   ·refine ⟨_,⟨some,⟨vR,?_⟩,fun _ _ => rfl,Nat.le_refl _⟩,.inl ⟨rfl,isIn_at c1 (by unfold eqAt; simpa using c2),i,rfl⟩⟩
    ((simp only [tm64,tm64r,tm15,tm15r,tm16o,tm16i]; repeat' (first | with_reducible exact VwL.nil | with_reducible refine VwL.cons ?_ ?_ | with_reducible exact Vw.anyI | with_reducible exact Vw.boolI | with_reducible exact Vw.intI | with_reducible exact Vw.intE rfl | exact Vw.ptrI (by decide) rfl | exact Vw.ptrI (by simp [r15]) rfl | exact Vw.ptrI (by simp [r16]) rfl | exact Vw.ptrI (by simp [rB]) rfl | exact Vw.gndI rfl)))
   ·refine ⟨⟨i + 1,by omega,?_⟩,by show D'.length - (i + 1) < D'.length - i; omega,some,⟨vR,by ((simp only [tm64,tm64r,tm15,tm15r,tm16o,tm16i]; repeat' (first | with_reducible exact VwL.nil | with_reducible refine VwL.cons ?_ ?_ | with_reducible exact Vw.anyI | with_reducible exact Vw.boolI | with_reducible exact Vw.intI | with_reducible exact Vw.intE rfl | exact Vw.ptrI (by decide) rfl | exact Vw.ptrI (by simp [r15]) rfl | exact Vw.ptrI (by simp [r16]) rfl | exact Vw.ptrI (by simp [rB]) rfl | exact Vw.gndI rfl)))⟩,fun _ _ => rfl,Nat.le_refl _⟩
    intro j hj
    by_cases e:j < i
    ·exact hno j e
    ·have:j = i:=by omega
     subst this
     unfold eqAt
     simpa using c2
  ·have c1:i = D'.length:=by have:=of_decide_eq_false c1; omega
   subst c1
   exact ⟨_,⟨some,⟨vR,by ((simp only [tm64,tm64r,tm15,tm15r,tm16o,tm16i]; repeat' (first | with_reducible exact VwL.nil | with_reducible refine VwL.cons ?_ ?_ | with_reducible exact Vw.anyI | with_reducible exact Vw.boolI | with_reducible exact Vw.intI | with_reducible exact Vw.intE rfl | exact Vw.ptrI (by decide) rfl | exact Vw.ptrI (by simp [r15]) rfl | exact Vw.ptrI (by simp [r16]) rfl | exact Vw.ptrI (by simp [rB]) rfl | exact Vw.gndI rfl)))⟩,fun _ _ => rfl,Nat.le_refl _⟩,.inr ⟨rfl,isIn_none hno,rfl⟩⟩
 ·rintro e stE ⟨e0,rfl,⟨rfl,hi,j,rfl⟩ | ⟨rfl,hi,rfl⟩⟩
  ·exact h1 hi j
  ·exact h2 hi
theorem spec64_ok (t:Nat) (D:List At) (t':Nat) (D':List At) (a b:Tx) (hD:D'.length <= 1000000):∀ st k,spec64 D' a b st k -> Safe Try.prog (base (ro2D t D t' D')).R (.block 0 (.loop lp64)) st k:=by
 rintro st k ⟨⟨t0,t3,t7,t8,hl,⟨hr⟩⟩,hk1,hk2⟩
 refine loop64 t D t' D' a b hD st ?_ hr hk1 hk2
 rw [tm64_spr]
 refine VwL.ofKnown hl ⟨?_,?_,?_,?_,trivial⟩
 ·rw [t0]; exact Vw.gndI rfl
 ·rw [t3]; exact Vw.ptrI (by decide) rfl
 ·rw [t7]; exact Vw.intI
 ·rw [t8]; exact Vw.intI
theorem safe64 (t:Nat) (D:List At) (t':Nat) (D':List At) (a b:Tx) (hD:D'.length <= 1000000):SafeCall Try.prog (ro2D t D t' D') 64 [.sl true 1 0 D'.length .no,.agg [.str a,.str b]] [] fun v _ => (isIn D' a b = true /\ ∃ j:Nat,v = .int .i64 j) \/ (isIn D' a b = false /\ v = .int .i64 (-1)):=by
 refine byVcd ((base_ok _).addLoop (f:=64) (fi:=fi64) (by kernel_rfl) (body:=.loop lp64) blk64 (spec64_ok t D t' D' a b hD)) (f:=64) (fi:=fi64) (by kernel_rfl) 1000 (vc64 t D t' D' a b (fun v => (isIn D' a b = true /\ ∃ j:Nat,v = .int .i64 j) \/ (isIn D' a b = false /\ v = .int .i64 (-1)))) ?_
 exact ⟨⟨rfl,rfl,rfl,rfl,rfl,⟨rfl⟩⟩,fun h j => .inl ⟨h,j,rfl⟩,fun h => .inr ⟨h,rfl⟩⟩
theorem spec64C_ok (t:Nat) (D:List At) (t':Nat) (D':List At) (hD:D'.length <= 1000000):∀ args h k,spec64C D' args h k -> SafeCall Try.prog (ro2D t D t' D') 64 args h k:=by
 intro args h k hk
 unfold spec64C at hk
 split at hk
 ·obtain ⟨rfl,hk1,hk2⟩:=hk
  refine ((safe64 t D t' D' _ _ hD).alone (by kernel_rfl) ?_ h).mono ?_
  ·rintro v (⟨_,j,rfl⟩ | ⟨_,rfl⟩) <;> rfl
  ·rintro v' h' ⟨⟨hi,j,rfl⟩ | ⟨hi,rfl⟩,rfl⟩
   ·exact hk1 hi j
   ·exact hk2 hi
 ·exact hk.elim
theorem safe48 (t:Nat) (D:List At) (t':Nat) (D':List At) (a b:Tx) (hD:D'.length <= 1000000):SafeCall Try.prog (ro2D t D t' D') 48 [.sl true 1 0 D'.length .no,.agg [.str a,.str b]] [] fun v _ => v = .bool (isIn D' a b):=by
 refine byVcd ((base_ok _).addCall (f:=64) (fi:=fi64) (by kernel_rfl) (spec64C_ok t D t' D' hD)) (f:=48) (fi:=fi48) (by kernel_rfl) 1000 (vc48 t D t' D' a b (fun v => v = .bool (isIn D' a b))) ?_
 refine ⟨rfl,fun h j => ?_,fun h => ?_⟩
 ·rw [h]
 ·rw [h]
theorem spec48_ok (t:Nat) (D:List At) (t':Nat) (D':List At) (hD:D'.length <= 1000000):∀ args h k,spec48 D' args h k -> SafeCall Try.prog (ro2D t D t' D') 48 args h k:=by
 intro args h k hk
 unfold spec48 at hk
 split at hk
 ·obtain ⟨rfl,hk⟩:=hk
  refine ((safe48 t D t' D' _ _ hD).alone (by kernel_rfl) (fun v hv => by rw [hv]; rfl) h).mono ?_
  rintro v' h' ⟨rfl,rfl⟩
  exact hk
 ·exact hk.elim
theorem v15 (nd nd':Int) (nm nm':Tx) (n m:Nat) {h:Rows} (h0:h[0]? = some (some (.lst 37 3 [entA nd nm (.sl true 0 0 n .no)]))) (h1:h[1]? = some (some (.lst 37 3 [entA nd' nm' (.sl true 1 0 m .no)]))):View some (r15 nd nd' nm nm' n m) h :=
 gnd2_view h h0 h1 (fun x hx => by cases hx; exact .gnd rfl rfl) (fun x hx => by cases hx; exact .gnd rfl rfl) rfl rfl
theorem allIn_at {D D':List At} {j:Nat} (hj:j < D.length) (h:isIn D' (D.getD j ([],[])).1 (D.getD j ([],[])).2 = false):allIn D D' = false:=by
 unfold allIn
 rw [List.all_eq_false]
 refine ⟨D[j],List.getElem_mem hj,?_⟩
 rw [show D.getD j ([],[]) = D[j] by simp [List.getD,List.getElem?_eq_getElem hj]] at h
 rw [h]; simp
theorem allIn_of {D D':List At} (h:∀ j,j < D.length -> isIn D' (D.getD j ([],[])).1 (D.getD j ([],[])).2 = true):allIn D D' = true:=by
 unfold allIn
 rw [List.all_eq_true]
 intro p hp
 obtain ⟨j,hj,rfl⟩:=List.mem_iff_getElem.1 hp
 have:=h j hj
 rwa [show D.getD j ([],[]) = D[j] by simp [List.getD,List.getElem?_eq_getElem hj]] at this
theorem loop15 (t:Nat) (D:List At) (t':Nat) (D':List At) (nd nd':Int) (nm nm':Tx) (hD:D.length <= 1000000) (hD':D'.length <= 1000000) (st0:St) (hT:VwL some 2 (tm15 D.length ((0:Nat):Int)) st0.tmps) (hr:st0.rows = r15 nd nd' nm nm' D.length D'.length) {Q:Exit -> St -> Prop}
  (h1:allIn D D' = false -> Q .ret ⟨tm15r,r15 nd nd' nm nm' D.length D'.length⟩) (h2:allIn D D' = true -> Q .normal ⟨tm15 D.length (D.length:Nat),r15 nd nd' nm nm' D.length D'.length⟩):Safe Try.prog ((base (ro2D t D t' D')).addCall 48 (spec48 D')).R (.block 0 (.loop lp15)) st0 Q:=by
 have hlen:st0.rows.length = 2:=by rw [hr]; rfl
 refine (loop_block (I:={i:Nat // i <= D.length /\ ∀ j,j < i -> isIn D' (D.getD j ([],[])).1 (D.getD j ([],[])).2 = true}) (fam:=fun i => ⟨tm15 D.length (i.1:Nat),r15 nd nd' nm nm' D.length D'.length⟩) (fun i => D.length - i.1)
  (X:=fun e stE => (e = .ret /\ allIn D D' = false /\ stE = ⟨tm15r,r15 nd nd' nm nm' D.length D'.length⟩) \/ (e = .exit 0 /\ allIn D D' = true /\ stE = ⟨tm15 D.length (D.length:Nat),r15 nd nd' nm nm' D.length D'.length⟩)) (id:=0) (i0:=⟨0,Nat.zero_le _,fun j hj => absurd hj (Nat.not_lt_zero _)⟩) (st:=st0) (f:=some) ?_ ?_ ?_ ?_).mono ?_
 ·exact ⟨by rw [hr]; exact v15 _ _ _ _ _ _ rfl rfl,hT⟩
 ·intro c hc; rfl
 ·intro k; rw [hlen]; exact Nat.le_refl _
 ·rintro ⟨i,hi,hno⟩
  rw [hlen]
  refine byRndL ((base_ok _).addCall (f:=48) (fi:=fi48) (by kernel_rfl) (spec48_ok t D t' D' hD')) (f:=15) (fi:=fi15) (by kernel_rfl) blk15 1000 (vr15 t D t' D' nd nd' nm nm' i _) ?_
  rw [wrapSucc i (by omega)]
  have hi0:0 + (i:Int).toNat = i:=by simp
  rw [hi0]
  refine hcB (fun c1 => ?_) (fun c1 => ?_)
  ·have c1:i < D.length:=by have:=of_decide_eq_true c1; omega
   refine hcT (by simp; omega) (hcT (decide_eq_true (show i < D.length from c1)) ⟨rfl,?_⟩)
   refine hcB (fun c2 => ?_) (fun c2 => ?_)
   ·exact ⟨_,⟨some,⟨v15 _ _ _ _ _ _ rfl rfl,by ((simp only [tm64,tm64r,tm15,tm15r,tm16o,tm16i]; repeat' (first | with_reducible exact VwL.nil | with_reducible refine VwL.cons ?_ ?_ | with_reducible exact Vw.anyI | with_reducible exact Vw.boolI | with_reducible exact Vw.intI | with_reducible exact Vw.intE rfl | exact Vw.ptrI (by decide) rfl | exact Vw.ptrI (by simp [r15]) rfl | exact Vw.ptrI (by simp [r16]) rfl | exact Vw.ptrI (by simp [rB]) rfl | exact Vw.gndI rfl)))⟩,fun _ _ => rfl,Nat.le_refl _⟩,.inl ⟨rfl,allIn_at c1 (by simpa using c2),rfl⟩⟩
   ·refine ⟨⟨i + 1,by omega,?_⟩,by show D.length - (i + 1) < D.length - i; omega,some,⟨v15 _ _ _ _ _ _ rfl rfl,by ((simp only [tm64,tm64r,tm15,tm15r,tm16o,tm16i]; repeat' (first | with_reducible exact VwL.nil | with_reducible refine VwL.cons ?_ ?_ | with_reducible exact Vw.anyI | with_reducible exact Vw.boolI | with_reducible exact Vw.intI | with_reducible exact Vw.intE rfl | exact Vw.ptrI (by decide) rfl | exact Vw.ptrI (by simp [r15]) rfl | exact Vw.ptrI (by simp [r16]) rfl | exact Vw.ptrI (by simp [rB]) rfl | exact Vw.gndI rfl)))⟩,fun _ _ => rfl,Nat.le_refl _⟩
    intro j hj
    by_cases e:j < i
    ·exact hno j e
    ·have:j = i:=by omega
     subst this
     simpa using c2
  ·have c1:i = D.length:=by have:=of_decide_eq_false c1; omega
   subst c1
   exact ⟨_,⟨some,⟨v15 _ _ _ _ _ _ rfl rfl,by ((simp only [tm64,tm64r,tm15,tm15r,tm16o,tm16i]; repeat' (first | with_reducible exact VwL.nil | with_reducible refine VwL.cons ?_ ?_ | with_reducible exact Vw.anyI | with_reducible exact Vw.boolI | with_reducible exact Vw.intI | with_reducible exact Vw.intE rfl | exact Vw.ptrI (by decide) rfl | exact Vw.ptrI (by simp [r15]) rfl | exact Vw.ptrI (by simp [r16]) rfl | exact Vw.ptrI (by simp [rB]) rfl | exact Vw.gndI rfl)))⟩,fun _ _ => rfl,Nat.le_refl _⟩,.inr ⟨rfl,allIn_of hno,rfl⟩⟩
 ·rintro e stE ⟨e0,rfl,⟨rfl,hi,rfl⟩ | ⟨rfl,hi,rfl⟩⟩
  ·exact h1 hi
  ·exact h2 hi
theorem spec15L_ok (t:Nat) (D:List At) (t':Nat) (D':List At) (nd nd':Int) (nm nm':Tx) (hD:D.length <= 1000000) (hD':D'.length <= 1000000) :
  ∀ st k,spec15L D D' (r15 nd nd' nm nm' D.length D'.length) st k -> Safe Try.prog ((base (ro2D t D t' D')).addCall 48 (spec48 D')).R (.block 0 (.loop lp15)) st k:=by
 rintro st k ⟨⟨t2,t3,t22,t23,t24,hl,⟨hr⟩⟩,hk1,hk2⟩
 refine loop15 t D t' D' nd nd' nm nm' hD hD' st ?_ hr hk1 hk2
 rw [tm15_spr]
 refine VwL.ofKnown hl ⟨?_,?_,?_,?_,?_,trivial⟩
 ·rw [t2]; exact Vw.ptrI (by decide) rfl
 ·rw [t3]; exact Vw.ptrI (by decide) rfl
 ·rw [t22]; exact Vw.gndI rfl
 ·rw [t23]; exact Vw.intI
 ·rw [t24]; exact Vw.intI
def alikeB (nm nm':Tx) (D D':List At):Bool:=nm == nm' && (D.length == D'.length && allIn D D')
theorem safe15 (t:Nat) (D:List At) (t':Nat) (D':List At) (nd nd':Int) (nm nm':Tx) (hD:D.length <= 1000000) (hD':D'.length <= 1000000) :
  SafeCall Try.prog (ro2D t D t' D') 15 [entA nd nm (.sl true 0 0 D.length .no),entA nd' nm' (.sl true 1 0 D'.length .no)] [] fun v _ => v = .bool (alikeB nm nm' D D'):=by
 refine byVcd (((base_ok _).addCall (f:=48) (fi:=fi48) (by kernel_rfl) (spec48_ok t D t' D' hD')).addLoop (f:=15) (fi:=fi15) (by kernel_rfl) (body:=.loop lp15) blk15 (spec15L_ok t D t' D' nd nd' nm nm' hD hD')) (f:=15) (fi:=fi15) (by kernel_rfl) 1000
  (vc15 t D t' D' nd nd' nm nm' (fun v => v = .bool (alikeB nm nm' D D'))) ?_
 unfold alikeB
 refine hcB (fun c1 => ?_) (fun c1 => ?_)
 ·have c1:(nm == nm') = false:=by simpa using c1
  rw [c1]; rfl
 ·have c1:(nm == nm') = true:=by simpa using c1
  refine hcB (fun c2 => ?_) (fun c2 => ?_)
  ·have c2:(D.length == D'.length) = false:=by rw [beq_eq_false_iff_ne]; intro e; rw [e] at c2; simp at c2
   rw [c1,c2]; rfl
  ·have c2:(D.length == D'.length) = true:=by
    rw [beq_iff_eq]
    have:((D.length:Nat):Int) = (D'.length:Nat):=by simpa using c2
    omega
   refine ⟨⟨rfl,rfl,rfl,rfl,rfl,rfl,⟨rfl⟩⟩,fun h => ?_,fun h => ?_⟩
   ·rw [c1,c2,h]; rfl
   ·rw [c1,c2,h]; rfl
end Go.Dc.Kb
end
