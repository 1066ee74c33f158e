/- Expressions: two texts with a sign between. -/
import Derived.Test.YtfajmjhijanggaaY1
section
set_option linter.unusedVariables false
set_option linter.unusedSimpArgs false
namespace Go.Dc.Ke
open Go.Proofs Go.RowKit Go.Shelf
set_option maxRecDepth 100000
theorem vt7 (R : Nat → RoRow) (t u v : Tr) (x y z : Nat) (kd : Int) (w : List UInt8) (l : List (Tr × Nat)) (q : Exit → Nat → AV → Nat → Fz → Prop) (F : Fz) : rnx (envB R l) 1000 7 (tailC 8 fi7.body) (stB t u v x y z kd w l.length) (fun e st => q e st.tmps.length (nthV st.tmps 4) st.rows.length) F = (bif true && decide (0 < (↑l.length : Int)) then bif decide (0 < ((envB R l).R 5).n) then ∃ (t_1 : Tr), ∃ (x_1 : Nat), AV.agg [AV.int IntKind.i64 (↑(l.getD (0 + Int.toNat 0) dT).fst.kind : Int), AV.str (l.getD (0 + Int.toNat 0) dT).fst.word, AV.sl true ((l.getD (0 + Int.toNat 0) dT).snd + 15) 0 (l.getD (0 + Int.toNat 0) dT).fst.kids.length Cp.no] = AV.agg [AV.int IntKind.i64 (↑t_1.kind : Int), AV.str t_1.word, AV.sl true (x_1 + 15) 0 t_1.kids.length Cp.no] ∧ TAt F t_1 x_1 ∧ NiceT t_1 ∧ ∀ (F' : Fz), Up F F' → AV.agg [AV.int IntKind.i64 (↑t.kind : Int), AV.str t.word, AV.sl true (x + 15) 0 t.kids.length Cp.no] = AV.agg [AV.int IntKind.i64 (↑t.kind : Int), AV.str t.word, AV.sl true (x + 15) 0 t.kids.length Cp.no] ∧ ∃ (t_2 : Tr), ∃ (x_2 : Nat), AV.agg [AV.int IntKind.i64 (↑t.kind : Int), AV.str t.word, AV.sl true (x + 15) 0 t.kids.length Cp.no] = AV.agg [AV.int IntKind.i64 (↑t_2.kind : Int), AV.str t_2.word, AV.sl true (x_2 + 15) 0 t_2.kids.length Cp.no] ∧ TAt F' t_2 x_2 ∧ NiceT t_2 ∧ ∀ (F'_1 : Fz), Up F' F'_1 → bif shw t_1 == shw t_2 then bif true && decide (1 < (↑l.length : Int)) then bif decide (1 < ((envB R l).R 5).n) then ∃ (t_3 : Tr), ∃ (x_3 : Nat), AV.agg [AV.int IntKind.i64 (↑(l.getD (0 + Int.toNat 1) dT).fst.kind : Int), AV.str (l.getD (0 + Int.toNat 1) dT).fst.word, AV.sl true ((l.getD (0 + Int.toNat 1) dT).snd + 15) 0 (l.getD (0 + Int.toNat 1) dT).fst.kids.length Cp.no] = AV.agg [AV.int IntKind.i64 (↑t_3.kind : Int), AV.str t_3.word, AV.sl true (x_3 + 15) 0 t_3.kids.length Cp.no] ∧ TAt F'_1 t_3 x_3 ∧ NiceT t_3 ∧ ∀ (F' : Fz), Up F'_1 F' → AV.agg [AV.int IntKind.i64 (↑u.kind : Int), AV.str u.word, AV.sl true (y + 15) 0 u.kids.length Cp.no] = AV.agg [AV.int IntKind.i64 (↑u.kind : Int), AV.str u.word, AV.sl true (y + 15) 0 u.kids.length Cp.no] ∧ ∃ (t_4 : Tr), ∃ (x_4 : Nat), AV.agg [AV.int IntKind.i64 (↑u.kind : Int), AV.str u.word, AV.sl true (y + 15) 0 u.kids.length Cp.no] = AV.agg [AV.int IntKind.i64 (↑t_4.kind : Int), AV.str t_4.word, AV.sl true (x_4 + 15) 0 t_4.kids.length Cp.no] ∧ TAt F' t_4 x_4 ∧ NiceT t_4 ∧ ∀ (F'_2 : Fz), Up F' F'_2 → bif shw t_3 == shw t_4 then ∃ (n : Nat), SzB l F'_2 (AV.agg [AV.int IntKind.i64 kd, AV.str w, AV.sl true 5 0 l.length Cp.no]) n ∧ ∀ (F' : Fz), Up F'_2 F' → AV.agg [AV.int IntKind.i64 (↑u.kind : Int), AV.str u.word, AV.sl true (y + 15) 0 u.kids.length Cp.no] = AV.agg [AV.int IntKind.i64 (↑u.kind : Int), AV.str u.word, AV.sl true (y + 15) 0 u.kids.length Cp.no] ∧ AV.agg [AV.int IntKind.i64 (↑t.kind : Int), AV.str t.word, AV.sl true (x + 15) 0 t.kids.length Cp.no] = AV.agg [AV.int IntKind.i64 (↑t.kind : Int), AV.str t.word, AV.sl true (x + 15) 0 t.kids.length Cp.no] ∧ ∃ (n_1 : Nat), SzB l F' (AV.agg [AV.int IntKind.i64 (↑t.kind : Int), AV.str t.word, AV.sl true (x + 15) 0 t.kids.length Cp.no]) n_1 ∧ ∀ (F'_3 : Fz), Up F' F'_3 → AV.agg [AV.int IntKind.i64 (↑u.kind : Int), AV.str u.word, AV.sl true (y + 15) 0 u.kids.length Cp.no] = AV.agg [AV.int IntKind.i64 (↑u.kind : Int), AV.str u.word, AV.sl true (y + 15) 0 u.kids.length Cp.no] ∧ ∃ (n_2 : Nat), SzB l F'_3 (AV.agg [AV.int IntKind.i64 (↑u.kind : Int), AV.str u.word, AV.sl true (y + 15) 0 u.kids.length Cp.no]) n_2 ∧ ∀ (F' : Fz), Up F'_3 F' → q Exit.ret 127 (AV.bool ((↑n : Int) == IntKind.i64.wrap (IntKind.i64.wrap (1 + (↑n_1 : Int)) + (↑n_2 : Int)))) 4 F' else q Exit.ret 127 (AV.bool false) 4 F'_2 else False else False else q Exit.ret 127 (AV.bool false) 4 F'_1 else False else False) := by kernel_rfl
theorem subB : subs (tailC 8 fi7.body) = [] := by kernel_rfl
structure JK (t u v : Tr) (x y z a : Nat) (F : Fz) : Prop where
  tx : TAt F t x
  uy : TAt F u y
  wa : TAt F (.mk 5 [] [t, u]) a
  nt : NiceT t
  nu : NiceT u
  st : size t ≤ 1024
  su : size u ≤ 1024
theorem tail7 {R : Nat → RoRow} (hR : Free R) (t u v : Tr) (x y z a b : Nat) (F : Fz) (HP : HPt) (tx : TAt F t x) (uy : TAt F u y) (hts : TAts F [(t, a), (u, b)]) (nt : NiceT t) (nu : NiceT u) (st : size t ≤ 1024) (su : size u ≤ 1024) :
    SafeX Try.prog (updR R 5 (kidR [(t, a), (u, b)])) [] (tailC 8 fi7.body) (stB t u v x y z 5 [] 2) F (fun e st' F' => e = .ret ∧ st' = stZ) HP := by
  have h1 : SafeX Try.prog (updR R 5 (kidR [(t, a), (u, b)])) [] (tailC 8 fi7.body) (stB t u v x y z 5 [] 2) F (fun e st' F' => e = .ret ∧ st'.tmps.length = 127 ∧ nthV st'.tmps 4 = .bool true ∧ 4 ≤ st'.rows.length) HP := by
    refine SafeX.rnx mixed (envB_ok hR [(t, a), (u, b)] HP) (f := 7) (fun p hp => by rw [subB] at hp; cases hp) 1000 ?_
    rw [show rnx (envB R [(t, a), (u, b)]) 1000 7 (tailC 8 fi7.body) (stB t u v x y z 5 [] 2) (fun e st' F' => e = .ret ∧ st'.tmps.length = 127 ∧ nthV st'.tmps 4 = .bool true ∧ 4 ≤ st'.rows.length) F = _ from vt7 R t u v x y z 5 [] [(t, a), (u, b)] (fun e n c m _ => e = .ret ∧ n = 127 ∧ c = .bool true ∧ 4 ≤ m) F]
    refine hcT rfl (hcT rfl ⟨t, a, rfl, ⟨hts.is (t, a) (by simp)⟩, nt, fun F1 u1 => ⟨rfl, t, x, rfl, tx.le u1, nt, fun F2 u2 => hcT (beq_self_eq_true _) (hcT rfl (hcT rfl ⟨u, b, rfl, ⟨(hts.le (u1.trans u2)).is (u, b) (by simp)⟩, nu, fun F3 u3 => ⟨rfl, u, y, rfl, uy.le ((u1.trans u2).trans u3), nu, fun F4 u4 => hcT (beq_self_eq_true _) ?_⟩⟩))⟩⟩)
    have uu := ((u1.trans u2).trans u3).trans u4
    refine ⟨_, .five 5 [] (by simp only [List.map_cons, List.map_nil, sizes]; omega) (hts.le uu), fun F5 u5 => ⟨rfl, rfl, _, .tok t x (tx.le (uu.trans u5)) (by omega), fun F6 u6 => ⟨rfl, _, .tok u y (uy.le ((uu.trans u5).trans u6)) (by omega), fun F7 u7 => ⟨rfl, rfl, ?_, by decide⟩⟩⟩⟩
    simp only [List.map_cons, List.map_nil, sizes]
    rw [wrapI64 (1 + _) (by omega) (by omega), wrapI64 _ (by omega) (by omega)]
    have : (((1 + (size t + (size u + 0)) : Nat)) : Int) = 1 + (size t : Int) + (size u : Int) := by omega
    rw [this, beq_self_eq_true]
  refine SafeX.post h1 ?_
  rintro e ⟨TM, rows⟩ F' _ ⟨rfl, h2, h3, h4⟩
  simp only at h2 h3 h4
  refine ToX.fit (stE := stZ) ⟨some, ⟨⟨fun c b hc hb => by cases hb; have : c < 4 := hc; simp only; omega, fun c c' b _ _ h h' => by cases h; cases h'; rfl, fun c r hc => ?_⟩, ?_⟩, fun _ _ => rfl, Nat.le_refl _⟩ (ToX.here ⟨rfl, rfl⟩)
  · match c with
    | 0 => cases hc
    | 1 => cases hc
    | 2 => cases hc
    | 3 => cases hc
    | c + 4 => simp [Rows.live] at hc
  · exact VwL.ofKnown h2 ⟨by rw [h3]; exact Vw.gndI rfl, trivial⟩
theorem rowG4 {a b c d : Row} (ha : RowG a) (hb : RowG b) (hc : RowG c) (hd : RowG d) : ∀ i r, Rows.live [some a, some b, some c, some d] i = some r → RowV some 4 r r := by
  intro i r h
  match i with
  | 0 => cases h; exact ha.vw _ _
  | 1 => cases h; exact hb.vw _ _
  | 2 => cases h; exact hc.vw _ _
  | 3 => cases h; exact hd.vw _ _
  | i + 4 => simp [Rows.live] at h
theorem exprRow_g (t : Tr) (x : Nat) : RowG (.lst 25 3 [exprV t x]) := .lst1' rfl rfl
def K7 (st : St) (F : Fz) : Prop := st.tmps.length = 127 ∧ nthV st.tmps 5 = .ptr false 0 0 0 ∧ nthV st.tmps 8 = .ptr false 1 0 0 ∧ nthV st.tmps 14 = .ptr false 3 0 0 ∧
  ∃ t u v x y z a, st.rows = [some (.lst 25 3 [exprV t x]), some (.lst 25 3 [exprV u y]), some (.lst 25 3 [exprV v z]), some (.lst 25 3 [exprV (.mk 5 [] [t, u]) a])] ∧ JK t u v x y z a F
def Q7 (e : Exit) (st : St) (F : Fz) : Prop := e = .ret ∧ nthV st.tmps 4 = .bool true
theorem tmB_spr : tmB = spr [(5, .ptr false 0 0 0), (8, .ptr false 1 0 0), (14, .ptr false 3 0 0)] 0 127 := by kernel_rfl
theorem k7_ok {R : Nat → RoRow} (hR : Free R) (HP : HPt) : ∀ st F, K7 st F → SafeX Try.prog R [] (tailC 8 fi7.body) st F Q7 HP := by
  rintro ⟨TM, rows⟩ F ⟨h0, h1, h2, h3, t, u, v, x, y, z, a, hr, hj⟩
  simp only at h0 h1 h2 h3 hr
  subst hr
  obtain ⟨l, hl, hfr, hts⟩ := hj.wa.is.kids
  obtain ⟨ka, kb, rfl⟩ : ∃ ka kb, l = [(t, ka), (u, kb)] := by
    match l, hl with
    | [(p, ka), (q, kb)], hl => cases hl; exact ⟨ka, kb, rfl⟩
  have main := SafeX.swap (by decide) hfr hR.n hR.q (tail7 hR t u v x y z ka kb F (fun _ _ _ => False) hj.tx hj.uy hts hj.nt hj.nu hj.st hj.su) (Q1 := Q7) (HP1 := HP) (by rintro e st' F' _ ⟨rfl, rfl⟩; exact ⟨by kernel_rfl, rfl, by kernel_rfl⟩) (fun v h' F' _ h => h.elim)
  refine SafeX.pre ?_
  refine ToX.fit (stE := nmSt 5 a (stB t u v x y z 5 [] 2)) ?_ (ToX.here main)
  have e : nmSt 5 a (stB t u v x y z 5 [] 2) = ⟨tmB, [some (.lst 25 3 [exprV t x]), some (.lst 25 3 [exprV u y]), some (.lst 25 3 [exprV v z]), some (.lst 25 3 [exprV (.mk 5 [] [t, u]) a])]⟩ := by kernel_rfl
  rw [e]
  exact Fit.pre (L := [some (.lst 25 3 [exprV t x]), some (.lst 25 3 [exprV u y]), some (.lst 25 3 [exprV v z]), some (.lst 25 3 [exprV (.mk 5 [] [t, u]) a])]) (tl := []) (rowG4 (exprRow_g _ _) (exprRow_g _ _) (exprRow_g _ _) (exprRow_g _ _)) (by
    rw [tmB_spr]
    exact VwL.ofKnown h0 ⟨by rw [h1]; exact Vw.ptrI (by simp) rfl, by rw [h2]; exact Vw.ptrI (by simp) rfl, by rw [h3]; exact Vw.ptrI (by simp) rfl, trivial⟩)
end Go.Dc.Ke
end
section
set_option linter.unusedVariables false
set_option linter.unusedSimpArgs false
namespace Go.Dc.Ke
open Go.Proofs Go.RowKit Go.Shelf
set_option maxRecDepth 100000
theorem res7 : fi7.results = [.tmp 4] := by kernel_rfl
theorem parse_small {s : List UInt8} {t : Tr} (h : parse s = .ok t 0) : size t ≤ 1024 := Nat.le_trans (size_sz t) (parse_fits h).2.2
theorem ne0 {c : Nat} (h : c ≠ 0) : (((c : Nat) : Int) != 0) = true := by simp; omega
theorem joins_ok (s u : List UInt8) (hs : s.length ≤ 140737488351232) (hu : u.length ≤ 140737488351232) : SafeCallX Try.prog RX 7 [.str s, .str u] [] Fz.empty (fun v _ _ => v = .bool true) (fun _ _ _ => False) := by
  refine SafeCallX.of_body (fi := fi7) (envJ_ok free_RX' (fun _ _ _ => False)).T ((envJ_ok free_RX' (fun _ _ _ => False)).F 7 fi7 (by kernel_rfl)) ?_
  have main : SafeX Try.prog RX [] fi7.body ⟨enterT [.str s, .str u] fi7.ntmps, []⟩ Fz.empty Q7 (fun _ _ _ => False) := by
    refine chain_ok (envJ_ok free_RX' (fun _ _ _ => False)) (f := 7) (K := K7) 1000 8 fi7.body _ _ (fun p hp => by unfold Env.subsOf; rw [show (envJ RX).F 7 = some fi7 by kernel_rfl]; exact hp) (k7_ok free_RX' _) ?_
    refine Eq.mpr (vh7 RX s u (fun e v F => e = .ret ∧ v = .bool true) (fun n a b c rows F => n = 127 ∧ a = .ptr false 0 0 0 ∧ b = .ptr false 1 0 0 ∧ c = .ptr false 3 0 0 ∧
      ∃ t u v x y z a, rows = [some (.lst 25 3 [exprV t x]), some (.lst 25 3 [exprV u y]), some (.lst 25 3 [exprV v z]), some (.lst 25 3 [exprV (.mk 5 [] [t, u]) a])] ∧ JK t u v x y z a F) Fz.empty) ?_
    intro F0 u0
    refine ⟨?_, ?_⟩
    · intro t ht x F1 u1 hx
      refine ⟨?_, ?_⟩
      · intro v hv y F2 u2 hy
        refine hcB (fun _ => ⟨rfl, rfl⟩) fun h1 => ⟨hs, hcB (fun _ => ⟨rfl, rfl⟩) fun h2 => ⟨hu, hcB (fun _ => ⟨rfl, rfl⟩) fun h3 => ?_⟩⟩
        have g1 := of_decide_eq_false h1
        have g2 := of_decide_eq_false h2
        have g3 := of_decide_eq_false h3
        rw [wrapI64 _ (by omega) (by omega)] at g1
        have l1 : ∀ i, lv s i ≤ 14 := fun i => by have := lv_mx s i; omega
        have l2 : ∀ i, lv u i ≤ 14 := fun i => by have := lv_mx u i; omega
        have p1 := parse_one ht l1 (by omega)
        have p2 := parse_two ht hv l1 l2 (by omega)
        have e2 : (40 :: ((s ++ [41, 124, 40]) ++ u ++ [41])) = 40 :: (s ++ 41 :: 124 :: 40 :: (u ++ [41])) := by simp
        rw [← e2] at p2
        refine hcT (decide_eq_true (by omega)) (hcT (decide_eq_true (by simp; omega)) ⟨?_, ?_⟩)
        · intro t2 ht2 x2 F3 u3 hx2
          rw [p1] at ht2
          cases ht2
          refine hcT (decide_eq_true (by omega)) (hcT (decide_eq_true (by simp; omega)) (hcT (decide_eq_true (by simp; omega)) (hcT (decide_eq_true (by simp; omega)) ⟨?_, ?_⟩)))
          · intro t3 ht3 x3 F4 u4 hx3
            rw [p2] at ht3
            cases ht3
            refine ⟨t, x2, rfl, hx2.le u4, parse_nice ht, fun F5 u5 => ⟨rfl, t, x, rfl, (((hx.le u2).le u3).le u4).le u5, parse_nice ht, fun F6 u6 => hcF (by simp) (hcF rfl (hcF rfl ⟨rfl, rfl, rfl, rfl, t, v, t, x, y, x2, x3, rfl, ?_⟩))⟩⟩
            exact ⟨((((hx.le u2).le u3).le u4).le u5).le u6, (((hy.le u3).le u4).le u5).le u6, (hx3.le u5).le u6, parse_nice ht, parse_nice hv, parse_small ht, parse_small hv⟩
          · intro a c hc
            rw [p2] at hc; cases hc
        · intro a c hc
          rw [p1] at hc; cases hc
      · intro a c hc F2 u2
        exact hcT (ne0 (parse_nz u a c hc)) ⟨rfl, rfl⟩
    · intro a c hc F1 u1
      have hz := parse_nz s a c hc
      refine ⟨?_, ?_⟩
      · intro v hv y F2 u2 hy
        exact hcT (ne0 hz) ⟨rfl, rfl⟩
      · intro a' c' hc' F2 u2
        exact hcT (ne0 hz) ⟨rfl, rfl⟩
  refine main.mono ?_ fun _ _ _ h => h
  rintro e st F' ⟨rfl, h⟩
  refine ⟨.inr rfl, [.bool true], ?_, rfl⟩
  rw [res7]
  exact ⟨_, [], rfl, h, rfl⟩
theorem joins_walk (s u : ByteArray) (hs : s.size ≤ 140737488351232) (hu : u.size ≤ 140737488351232) (w : World) : Calls Try.prog 7 #[.string s, .string u] w fun e w' => e = .returned (.bool true) ∧ Below w.heap.size w w' :=
  (joins_ok s.data.toList u.data.toList (by simpa using hs) (by simpa using hu)).law #[.string s, .string u] w (by simp [DenL, Den])
#print axioms joins_walk
end Go.Dc.Ke
end
