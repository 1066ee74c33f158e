/- slices.Insert of one element: what it does to memory, at elements of more than one cell. -/
import Derived.Test.YtlhplhncdljicaaEnv
import Derived.Test.YtlhplhncdljicaaDcIns
import Derived.Lib.JoinLaws
import Derived.Test.YtlhplhncdljicaaSh
section
set_option linter.unusedVariables false
set_option linter.unusedSimpArgs false
namespace Go.Dc.Kb
open Go.Proofs Go.RowKit Go.Lib
set_option maxRecDepth 100000

theorem zeroCells_size (z : Array Value) (k : Nat) : (Builtin.zeroCells z k).size = k * z.size := by simp [Builtin.zeroCells]

theorem SafeCall.noCp {P : Program} {R : Nat → RoRow} {f : FuncId} {h : Rows} {q n v : Nat} {i : AV} {c cv : Cp} {Q : AV → Rows → Prop} (hs : SafeCall P R f [.sl false q 0 n .no, i, .sl false v 0 1 .no] h Q) : SafeCall P R f [.sl false q 0 n c, i, .sl false v 0 1 cv] h Q := by
  intro m w m0 h0 w0 aa hd hW hst
  refine hs m w m0 h0 w0 aa ?_ hW hst
  have wk : ∀ {b k : Nat} {u : Cp} {x : Value}, Den m h.length (.sl false b 0 k u) x → Den m h.length (.sl false b 0 k .no) x := by
    intro b k u x hx
    simp only [Den] at hx ⊢
    refine ⟨hx.1, ?_⟩
    have h2 := hx.2
    unfold SlDen at h2 ⊢
    split
    · rename_i hv; rw [if_pos hv] at h2; obtain ⟨h1, ao, h3, _⟩ := h2; exact ⟨h1, ao, h3, trivial⟩
    · rename_i hv; rw [if_neg hv] at h2; obtain ⟨a, cap, h1, h3, h4, _, h6⟩ := h2; exact ⟨a, cap, h1, h3, h4, trivial, h6⟩
  simp only [DenL] at hd ⊢
  obtain ⟨a1, l1, e1, d1, a2, l2, e2, d2, a3, l3, e3, d3, e4⟩ := hd
  exact ⟨a1, l1, e1, wk d1, a2, l2, e2, d2, a3, l3, e3, wk d3, e4⟩
theorem run_copy_wide {P : Program} (w : World) (dT sT ty elem : TypeId) (z b o dLen dCap : Nat) (a : Addr) (sLen sCap : Nat) (cs : List Value) (k : Nat)
    (hu : P.underlying dT = some (.slice elem)) (hs : (P.info? elem).map (·.size) = some z) (hk : k = Nat.min sLen dLen) (hn : cs.length = k * z)
    (hsrc : ∀ j v, cs[j]? = some v → w.cell? (a.add j) = some v) (hc : ∀ j, j < cs.length → (w.cell? ⟨b, o + j, none⟩).isSome = true) (hf : ∀ j, j < cs.length → w.frozen? ⟨b, o + j, none⟩ = false) (h1 : ∀ v ∈ cs, v.oneCell' = true) :
    (Builtin.copy_ #[dT, sT] ty #[.slice (some ⟨b, o, none⟩) dLen dCap, .slice (some a) sLen sCap]).run P w = .ok (goInt k) (w.setCells b o cs) := by
  have hl := run_loadCells_list (P := P) w a cs hsrc
  have hst := run_storeCells_cells (P := P) b o cs 0 w (by simpa using hc) (by simpa using hf) h1
  cases hq : P.info? elem with
  | none => simp [hq] at hs
  | some i =>
    have hi : i.size = z := by simpa [hq] using hs
    rw [hn] at hl
    simp [Builtin.copy_, run_underlying hu, Builtin.lenOf, Builtin.firstCells, sizeOf, typeInfo, hq, hi, ← hk, hl, hst]

theorem ins53_info : (Try.prog.info? 29).map (fun i => (i.zero, i.size, i.bytes)) = some (some (.agg #[.int .i64 0, .string ⟨#[]⟩]), 2, 24) := by kernel_rfl
theorem ins53_z : ∀ w, (Go.sizeOf 29).run Try.prog w = .ok 2 w := by
  obtain ⟨i0, hi0, hz0, hzs, hzb⟩ := info_parts ins53_info
  intro w
  simp [Go.sizeOf, typeInfo, program, Sem.run, hi0, pure, hzs]
set_option maxHeartbeats 4000000 in
/-- There is room: in place. -/
theorem ins53_shift (b off n c i vb voff vc : Nat) (cs vs : List Value) (w : World) (hi : i < n) (hroom : n + 1 ≤ c) (hc63 : c ≤ 9223372036854775807) (hvb : vb ≠ b)
    (hcl : cs.length = n * 2) (hvl : vs.length = 2)
    (hcs : ∀ j v, cs[j]? = some v → w.cell? ⟨b, off + j, none⟩ = some v) (hsp : ∀ j, j < (n + 1) * 2 → (w.cell? ⟨b, off + j, none⟩).isSome = true) (hfz : ∀ j, j < (n + 1) * 2 → w.frozen? ⟨b, off + j, none⟩ = false)
    (hvs : ∀ j v, vs[j]? = some v → w.cell? ⟨vb, voff + j, none⟩ = some v) (h1c : ∀ v ∈ cs, v.oneCell' = true) (h1v : ∀ v ∈ vs, v.oneCell' = true)
    (tA tB : TypeId) (kA kB : Nat) (hsa : w.shape? vb = some (tA, kA)) (hsb : w.shape? b = some (tB, kB)) (hkB : kB ≠ 0) (hfa : w.frozen? ⟨vb, voff, none⟩ = false) (hfe : w.frozen? ⟨vb, kA, none⟩ = false) :
    Calls Try.prog 53 #[.slice (some ⟨b, off, none⟩) n c, .int .i64 i, .slice (some ⟨vb, voff, none⟩) 1 vc] w fun e w' =>
      e = .returned (.slice (some ⟨b, off, none⟩) (n + 1) c) ∧ w' = (w.drew.setCells b (off + (i + 1) * 2) (cs.drop (i * 2))).setCells b (off + i * 2) vs := by
  have mixed : Try.prog.follows .mixedOrders = true := by kernel_rfl
  have hz1 : ¬ ((1 : Int) = 0) := by omega
  have hz2 : ¬ ((i : Int) = (n : Int)) := by omega
  obtain ⟨i0, hi0, hz0, hzs, hzb⟩ := info_parts ins53_info
  have hsz : (Try.prog.info? 29).map (·.size) = some 2 := by rw [hi0]; simp [hzs]
  have omA : ∀ j, j < (n - i) * 2 → i * 2 + j < (n + 1) * 2 ∧ (i + 1) * 2 + j < (n + 1) * 2 := by clear hcl hvl hz1 hz2; omega
  have hov : ∀ lb cb, (callFunc 67 #[.slice (some ⟨vb, voff, none⟩) 1 vc, .slice (some ⟨b, off + (i + 1) * 2, none⟩) lb cb]).run Try.prog w = .ok (.value (.bool false)) w := fun lb cb => by
    rw [run_callFunc_extern Try.func67 (by kernel_rfl) (by kernel_rfl) (by kernel_rfl) (e := Extern.SlicesOverlaps.overlaps #[24, 24] #[4]) (by kernel_rfl),
      Lib.run_overlaps_apart w 24 4 29 Try.underlying24 2 ins53_z ⟨vb, voff, none⟩ ⟨b, off + (i + 1) * 2, none⟩ 1 vc lb cb hvb tA tB kA kB hsa hsb hkB hfa hfe]
    rfl
  have hdl : (cs.drop (i * 2)).length = (n - i) * 2 := by rw [List.length_drop, hcl]; omega
  have hcp1 : ∀ ty dc sc, (Builtin.copy_ #[24, 24] ty #[.slice (some ⟨b, off + (i + 1) * 2, none⟩) (n - i) dc, .slice (some ⟨b, off + i * 2, none⟩) (n + 1 - i) sc]).run Try.prog w.drew = .ok (goInt (n - i : Nat)) (w.drew.setCells b (off + (i + 1) * 2) (cs.drop (i * 2))) := fun ty dc sc =>
    run_copy_wide w.drew _ _ ty 29 2 b (off + (i + 1) * 2) (n - i) dc ⟨b, off + i * 2, none⟩ (n + 1 - i) sc (cs.drop (i * 2)) (n - i) Try.underlying24 hsz (by simp only [Nat.min_def]; split <;> omega) hdl
      (fun j v hj => by rw [Addr.add_lit, Nat.add_assoc]; exact hcs (i * 2 + j) v (by rwa [List.getElem?_drop] at hj))
      (fun j hj => by rw [hdl] at hj; rw [Nat.add_assoc]; exact hsp _ (omA j hj).2) (fun j hj => by rw [hdl] at hj; rw [Nat.add_assoc]; exact hfz _ (omA j hj).2) (fun v hv => h1c v (List.mem_of_mem_drop hv))
  obtain ⟨W1, hW1⟩ : ∃ W1, W1 = w.drew.setCells b (off + (i + 1) * 2) (cs.drop (i * 2)) := ⟨_, rfl⟩
  have hsp1 : ∀ k, k < (n + 1) * 2 → (W1.cell? ⟨b, off + k, none⟩).isSome = true := fun k hk => by
    rw [hW1]
    exact isSome_setCells b _ _ _ (fun j hj => by rw [Nat.add_assoc]; exact hsp _ (by omega)) _ (hsp k hk)
  have hcp2 : ∀ (W : World), (∀ x, W.cell? x = W1.cell? x) → (∀ x, W.frozen? x = W1.frozen? x) → ∀ ty dc, (Builtin.copy_ #[24, 24] ty #[.slice (some ⟨b, off + i * 2, none⟩) (n + 1 - i) dc, .slice (some ⟨vb, voff, none⟩) 1 vc]).run Try.prog W = .ok (goInt (1 : Nat)) (W.setCells b (off + i * 2) vs) := fun W hWc hWf ty dc =>
    run_copy_wide W _ _ ty 29 2 b (off + i * 2) (n + 1 - i) dc ⟨vb, voff, none⟩ 1 vc vs 1 Try.underlying24 hsz (by simp only [Nat.min_def]; split <;> omega) (by rw [hvl])
      (fun j v hj => by
        rw [Addr.add_lit, hWc, hW1, World.cell?_setCells_out b _ _ _ _ (fun h _ => absurd h hvb)]
        exact hvs j v hj)
      (fun j hj => by rw [hWc, Nat.add_assoc]; exact hsp1 _ (by omega)) (fun j hj => by rw [hWf, hW1, World.frozen?_setCells, Nat.add_assoc]; exact hfz _ (by omega)) h1v
  rw [← hW1] at hcp1
  have hin : i ≤ n := Nat.le_of_lt hi
  have hb2 : ¬ (c = i + 1) := by clear hcl hvl; omega
  have hb4 : ¬ (c = i) := by clear hcl hvl hb2; omega
  have hb1 : (0 : Int) ≤ (i : Int) + 1 := by clear hcl hvl hb2 hb4; omega
  have hb3 : (i : Int) ≤ (n : Int) + 1 := by clear hcl hvl hb2 hb4; omega
  have htn : ((i : Int) + 1).toNat = i + 1 := by clear hcl hvl hb2 hb4; omega
  have hw1 : IntKind.i64.wrap ((i : Int) + 1) = (i : Int) + 1 := by clear hcl hvl hb2 hb4 htn; rw [IntKind.wrap_i64]; omega
  have hw2 : wrap64 ((i : Int) + 1) = (i : Int) + 1 := by clear hcl hvl hb2 hb4 htn hw1; unfold wrap64; omega
  have hw3 : wrap64 ((n : Int) + 1) = (n : Int) + 1 := by clear hcl hvl hb2 hb4 htn hw1 hw2; unfold wrap64; omega
  clear hcl hvl hdl omA hsp hsp1 hfz hcs hvs h1c h1v hsz hzs hzb hz0 hi0
  go_enter Try.func53, Try.ntmps53
  go_wp2_with (simp only [hov])
  go_region_law_o (refine step_copy_runI rfl _ _ 24 24 rfl _ _ (by simp [Act.eval, Act.put]) (by simp [Act.eval, Act.put]) (hcp1 _ _ _) ?_)
  go_wp2_with (at_builtin; refine wpList_copy_runI _ rfl _ _ 24 24 rfl _ _ rfl rfl (hcp2 _ (fun _ => rfl) (fun _ => rfl) _ _) ?_)
  go_ret
  first | exact ⟨rfl, rfl⟩ | exact ⟨rfl, by rw [hW1]⟩

set_option maxHeartbeats 4000000 in
/-- There is no room: a new row. -/
theorem ins53_grow (b off n c i vb voff vc : Nat) (cs vs : List Value) (w : World) (hi : i < n) (hnc : n ≤ c) (hroom : c < n + 1) (hbig : (n + 1) * 24 ≤ 140737488355328)
    (hcl : cs.length = n * 2) (hvl : vs.length = 2)
    (hcs : ∀ j v, cs[j]? = some v → w.cell? ⟨b, off + j, none⟩ = some v)
    (hvs : ∀ j v, vs[j]? = some v → w.cell? ⟨vb, voff + j, none⟩ = some v) (h1c : ∀ v ∈ cs, v.oneCell' = true) (h1v : ∀ v ∈ vs, v.oneCell' = true) :
    Calls Try.prog 53 #[.slice (some ⟨b, off, none⟩) n c, .int .i64 i, .slice (some ⟨vb, voff, none⟩) 1 vc] w fun e w' =>
      e = .returned (.slice (some ⟨w.heap.size, 0, none⟩) (n + 1) (grownCap w (n + 1) c 29)) ∧
      w' = (((w.alloc (.cells ((cs.take (i * 2)).toArray ++ Builtin.zeroCells (.agg #[.int .i64 0, .string ⟨#[]⟩] : Value).cells (n + 1 - i) ++ Builtin.zeroCells (.agg #[.int .i64 0, .string ⟨#[]⟩] : Value).cells (grownCap w (n + 1) c 29 - (n + 1))) 29)).drew.setCells w.heap.size (i * 2) vs).drew).setCells w.heap.size ((i + 1) * 2) (cs.drop (i * 2)) := by
  have mixed : Try.prog.follows .mixedOrders = true := by kernel_rfl
  have hz1 : ¬ ((1 : Int) = 0) := by omega
  have hz2 : ¬ ((i : Int) = (n : Int)) := by omega
  obtain ⟨i0, hi0, hz0, hzs, hzb⟩ := info_parts ins53_info
  have hsz : (Try.prog.info? 29).map (·.size) = some 2 := by rw [hi0]; simp [hzs]
  have omA : ∀ j, j < (n - i) * 2 → i * 2 + j < (n + 1) * 2 ∧ (i + 1) * 2 + j < (n + 1) * 2 := by clear hcl hvl hz1 hz2; omega
  have hdl : (cs.drop (i * 2)).length = (n - i) * 2 := by rw [List.length_drop, hcl]; omega
  have hz3 : (c : Int) < (n : Int) + 1 := by clear hcl hvl hdl hz1 hz2; omega
  have hbw : b < w.heap.size := block_lt_of_cell (hcs 0 _ (List.getElem?_eq_getElem (by clear hz1 hz2 hz3 hdl; omega)))
  have hvw : vb < w.heap.size := block_lt_of_cell (hvs 0 _ (List.getElem?_eq_getElem (by clear hz1 hz2 hz3 hdl; omega)))
  have hkk : (n : Int) + 1 - (i : Int) = ((n + 1 - i : Nat) : Int) := by clear hcl hvl hdl hz1 hz2 hz3; omega
  have hik : i + (n + 1 - i) = n + 1 := by clear hcl hvl hdl hz1 hz2 hz3 hkk; omega
  have hold : (Builtin.firstCells i0.size i (.slice (some ⟨b, off, none⟩) i c)).run Try.prog w.drew = .ok (cs.take (i * 2)).toArray w.drew := by
    rw [hzs]
    exact run_firstCells_some w.drew 2 i ⟨b, off, none⟩ i c (cs.take (i * 2)) (by rw [List.length_take, hcl]; clear hvl hdl hz1 hz2 hz3 hkk hik; omega) (fun j v hj => by
      rw [Addr.add_lit]
      rw [List.getElem?_take] at hj
      split at hj
      · exact hcs j v hj
      · cases hj)
  have hrz : ∀ ty, (Builtin.append_ #[24, 3] ty #[.slice (some ⟨b, off, none⟩) i c, .int .i64 ((n : Int) + 1 - (i : Int))]).run Try.prog w =
      .ok (.slice (some ⟨w.heap.size, 0, none⟩) (n + 1) (grownCap w (n + 1) c 29)) (w.drew.alloc (.cells ((cs.take (i * 2)).toArray ++ Builtin.zeroCells (.agg #[.int .i64 0, .string ⟨#[]⟩] : Value).cells (n + 1 - i) ++ Builtin.zeroCells (.agg #[.int .i64 0, .string ⟨#[]⟩] : Value).cells (grownCap w (n + 1) c 29 - (n + 1))) 29)) := fun ty => by
    have h := Lib.run_append_grow_zeros w 24 3 ty 29 i0 _ .i64 .i64 Try.underlying24 Try.underlying3 hi0 hz0 (some ⟨b, off, none⟩) i c (cs.take (i * 2)) hold (n + 1 - i)
      (by clear hcl hvl hdl hz1 hz2 hz3 hkk hik; omega) (by clear hcl hvl hdl hz1 hz2 hz3 hkk hik; omega) (by clear hcl hvl hdl hz1 hz2 hz3 hkk; omega) (by clear hcl hvl hdl hz1 hz2 hz3 hkk; omega) (by rw [hzb]; clear hcl hvl hdl hz1 hz2 hz3 hkk hik; omega) (by rw [hzb, hik]; exact growslice_fits hroom hbig)
    rw [hik] at h
    rw [hkk]
    exact h
  obtain ⟨G, hG⟩ : ∃ G, G = grownCap w (n + 1) c 29 := ⟨_, rfl⟩
  obtain ⟨ROW, hROW⟩ : ∃ ROW : Array Value, ROW = (cs.take (i * 2)).toArray ++ Builtin.zeroCells (.agg #[.int .i64 0, .string ⟨#[]⟩] : Value).cells (n + 1 - i) ++ Builtin.zeroCells (.agg #[.int .i64 0, .string ⟨#[]⟩] : Value).cells (G - (n + 1)) := ⟨_, rfl⟩
  rw [← hG] at hrz ⊢
  rw [← hROW] at hrz ⊢
  have hRl : (n + 1) * 2 ≤ ROW.size := by
    rw [hROW]
    simp only [Array.size_append, List.size_toArray, List.length_take, hcl, zeroCells_size, Value.cells, List.length_cons, List.length_nil]
    clear hvl hdl hz1 hz2 hz3 hkk hik
    show (n + 1) * 2 ≤ min (i * 2) (n * 2) + (n + 1 - i) * 2 + (G - (n + 1)) * 2
    omega
  obtain ⟨W1, hW1⟩ : ∃ W1, W1 = w.drew.alloc (.cells ROW 29) := ⟨_, rfl⟩
  rw [← hW1] at hrz
  have hN : ∀ j, j < (n + 1) * 2 → (W1.cell? ⟨w.heap.size, j, none⟩).isSome = true := fun j hj => by
    rw [hW1, World.cell?_alloc_at (w := w.drew) ROW _ w.heap.size j rfl, Array.getElem?_eq_getElem (Nat.lt_of_lt_of_le hj hRl)]; rfl
  have hNf : ∀ j, W1.frozen? ⟨w.heap.size, j, none⟩ = false := fun j => by rw [hW1]; exact World.frozen?_alloc_at (w := w.drew) ROW _ w.heap.size j rfl
  have hOb : ∀ j v, w.cell? ⟨b, j, none⟩ = some v → W1.cell? ⟨b, j, none⟩ = some v := fun j v h => by rw [hW1, World.cell?_alloc_past (w := w.drew) _ b j hbw]; exact h
  have hOv : ∀ j v, w.cell? ⟨vb, j, none⟩ = some v → W1.cell? ⟨vb, j, none⟩ = some v := fun j v h => by rw [hW1, World.cell?_alloc_past (w := w.drew) _ vb j hvw]; exact h
  have omB : ∀ j, j < 2 → i * 2 + j < (n + 1) * 2 := by clear hcl hvl hdl hz1 hz2 hz3 hkk hik hRl; omega
  have hcpA : ∀ (W : World), (∀ x, W.cell? x = W1.cell? x) → (∀ x, W.frozen? x = W1.frozen? x) → ∀ ty dc, (Builtin.copy_ #[24, 24] ty #[.slice (some ⟨w.heap.size, i * 2, none⟩) (n + 1 - i) dc, .slice (some ⟨vb, voff, none⟩) 1 vc]).run Try.prog W = .ok (goInt (1 : Nat)) (W.setCells w.heap.size (i * 2) vs) := fun W hWc hWf ty dc =>
    run_copy_wide W _ _ ty 29 2 w.heap.size (i * 2) (n + 1 - i) dc ⟨vb, voff, none⟩ 1 vc vs 1 Try.underlying24 hsz (by clear hcl hvl hdl hz1 hz2 hz3 hkk hik hRl; simp only [Nat.min_def]; split <;> omega) (by rw [hvl])
      (fun j v hj => by rw [Addr.add_lit, hWc]; exact hOv _ v (hvs j v hj))
      (fun j hj => by rw [hvl] at hj; rw [hWc]; exact hN _ (omB j hj)) (fun j hj => by rw [hWf]; exact hNf _) h1v
  have hGn : n + 1 ≤ G := by rw [hG]; exact grownCap_ge w _ _ _
  have hG63 : G ≤ 9223372036854775807 := by
    have := grownCap_le_maxLen w (n + 1) c 29 (by clear hcl hvl hdl hz1 hz2 hz3 hkk hik hRl hG; unfold maxLen; omega)
    rw [← hG] at this
    unfold maxLen at this
    clear hcl hvl hdl hz1 hz2 hz3 hkk hik hRl
    omega
  have hbN : b ≠ w.heap.size := Nat.ne_of_lt hbw
  have hcpB : ∀ (W : World), (∀ x, W.cell? x = (W1.setCells w.heap.size (i * 2) vs).cell? x) → (∀ x, W.frozen? x = (W1.setCells w.heap.size (i * 2) vs).frozen? x) → ∀ ty dc sc, (Builtin.copy_ #[24, 24] ty #[.slice (some ⟨w.heap.size, (i + 1) * 2, none⟩) (n - i) dc, .slice (some ⟨b, off + i * 2, none⟩) (n - i) sc]).run Try.prog W = .ok (goInt (n - i : Nat)) (W.setCells w.heap.size ((i + 1) * 2) (cs.drop (i * 2))) := fun W hWc hWf ty dc sc =>
    run_copy_wide W _ _ ty 29 2 w.heap.size ((i + 1) * 2) (n - i) dc ⟨b, off + i * 2, none⟩ (n - i) sc (cs.drop (i * 2)) (n - i) Try.underlying24 hsz (by simp) hdl
      (fun j v hj => by
        rw [Addr.add_lit, hWc, World.cell?_setCells_out _ _ _ _ _ (fun h _ => absurd h hbN), Nat.add_assoc]
        exact hOb _ v (hcs (i * 2 + j) v (by rwa [List.getElem?_drop] at hj)))
      (fun j hj => by rw [hdl] at hj; rw [hWc]; exact isSome_setCells _ _ _ _ (fun t ht => hN _ (omB t (by rw [hvl] at ht; exact ht))) _ (hN _ (omA j hj).2))
      (fun j hj => by rw [hWf, World.frozen?_setCells]; exact hNf _) (fun v hv => h1c v (List.mem_of_mem_drop hv))
  have hGi : ¬ (G = i) := by clear hcl hvl hdl hz1 hz2 hz3 hkk hik hRl hG; omega
  have hGim : ¬ (G = i + 1) := by clear hcl hvl hdl hz1 hz2 hz3 hkk hik hRl hG hGi; omega
  have hci : ¬ (c = i) := by clear hcl hvl hdl hz1 hz2 hz3 hkk hik hRl hG hGi hGim; omega
  subst hW1
  have hE1 : ∀ x, ((w.alloc (.cells ROW 29)).drew).cell? x = (w.drew.alloc (.cells ROW 29)).cell? x := fun x => rfl
  have hE2 : ∀ x, ((w.alloc (.cells ROW 29)).drew).frozen? x = (w.drew.alloc (.cells ROW 29)).frozen? x := fun x => rfl
  have hF1 : ∀ x, (((w.alloc (.cells ROW 29)).drew.setCells w.heap.size (i * 2) vs).drew).cell? x = ((w.drew.alloc (.cells ROW 29)).setCells w.heap.size (i * 2) vs).cell? x := fun x => rfl
  have hF2 : ∀ x, (((w.alloc (.cells ROW 29)).drew.setCells w.heap.size (i * 2) vs).drew).frozen? x = ((w.drew.alloc (.cells ROW 29)).setCells w.heap.size (i * 2) vs).frozen? x := fun x => rfl
  have hw0 : wrap64 ((n : Int) + 1) = (n : Int) + 1 := by clear hcl hvl hdl hz1 hz2 hz3 hkk hik hRl hG hGi hGim hci; unfold wrap64; omega
  have hw0' : wrap64 ((n : Int) + 1 - (i : Int)) = (n : Int) + 1 - (i : Int) := by clear hcl hvl hdl hz1 hz2 hz3 hkk hik hRl hG hGi hGim hci hw0; unfold wrap64; omega
  clear hkk hik hold hROW hG hRl hvw hbw omB
  have hin : i ≤ n := Nat.le_of_lt hi
  have hb1 : (0 : Int) ≤ (i : Int) + 1 := by clear hcl hvl hdl hz1 hz2 hz3 hGi hGim hci hw0 hw0'; omega
  have hb3 : (i : Int) ≤ (n : Int) := by clear hcl hvl hdl hz1 hz2 hz3 hGi hGim hci hw0 hw0' hb1; omega
  have htn : ((i : Int) + 1).toNat = i + 1 := by clear hcl hvl hdl hz1 hz2 hz3 hGi hGim hci hw0 hw0' hb1 hb3; omega
  have hw1 : IntKind.i64.wrap ((i : Int) + 1) = (i : Int) + 1 := by clear hcl hvl hdl hz1 hz2 hz3 hGi hGim hci hw0 hw0' hb1 hb3 htn; rw [IntKind.wrap_i64]; omega
  have hw2 : wrap64 ((i : Int) + 1) = (i : Int) + 1 := by clear hcl hvl hdl hz1 hz2 hz3 hGi hGim hci hw0 hw0' hb1 hb3 htn hw1; unfold wrap64; omega
  clear hcl hvl hdl omA hcs hvs h1c h1v hsz hzs hzb hz0 hi0 hbig hN hNf hOb hOv hbN
  go_enter Try.func53, Try.ntmps53
  go_wp2_with (first
    | (at_builtin; refine Lib.wpList_append_run _ rfl _ _ _ _ rfl _ _ rfl rfl _ _ (hrz _) ?_)
    | (at_builtin; refine wpList_copy_runI _ rfl _ _ 24 24 rfl _ _ rfl rfl (hcpA _ hE1 hE2 _ _) ?_)
    | (at_builtin; refine wpList_copy_runI _ rfl _ _ 24 24 rfl _ _ rfl rfl (hcpB _ (fun _ => rfl) (fun _ => rfl) _ _ _) ?_))
  go_region_law_o (refine step_copy_runI rfl _ _ 24 24 rfl (.slice (some ⟨w.heap.size, (i + 1) * 2, none⟩) (n - i) (G - (i + 1))) (.slice (some ⟨b, off + i * 2, none⟩) (n - i) (c - i)) (by simp [Act.eval, Act.put]) (by simp [Act.eval, Act.put]) (hcpB _ hF1 hF2 3 (G - (i + 1)) (c - i)) ?_)
  go_wp2
  go_ret
  exact ⟨rfl, rfl⟩

theorem ins53_law : InsLaw Try.prog 53 29 2 24 where
  shift := fun b off n c i vb voff vc cs vs w h1 h2 h3 h4 h5 h6 h7 h8 h9 h10 h11 h12 tA tB kA kB h13 h14 h15 h16 h17 => ins53_shift b off n c i vb voff vc cs vs w h1 h2 h3 h4 h5 h6 h7 h8 h9 h10 h11 h12 tA tB kA kB h13 h14 h15 h16 h17
  grow := fun b off n c i vb voff vc cs vs w h1 h2 h3 h4 h5 h6 h7 h8 h9 h10 => (ins53_grow b off n c i vb voff vc cs vs w h1 h2 h3 h4 h5 h6 h7 h8 h9 h10).mono fun e w' h =>
    ⟨_, _, _, grownCap_ge w _ _ _, grownCap_le_maxLen w (n + 1) c 29 (by unfold maxLen; omega), zeroCells_size _ _, zeroCells_size _ _, h.1, h.2⟩

set_option maxHeartbeats 4000000 in
theorem ins53_end (base : Option Addr) (n c : Nat) (b : Addr) (vc : Nat) (r : Value) (w w' : World) (hn : n ≤ 140737488355328) (hr : (Builtin.append_ #[24, 24] 24 #[.slice base n c, .slice (some b) 1 vc]).run Try.prog w = .ok r w') :
    Calls Try.prog 53 #[.slice base n c, .int .i64 n, .slice (some b) 1 vc] w fun e w2 => e = .returned r ∧ w2 = w' := by
  have hz1 : ¬ ((1 : Int) = 0) := by omega
  go_enter Try.func53, Try.ntmps53
  cases base with
  | none =>
    go_wp2_with (at_builtin; refine Lib.wpList_append_run _ rfl _ _ _ _ rfl _ _ rfl rfl _ _ hr ?_)
    all_goals (go_ret; exact ⟨rfl, rfl⟩)
  | some a =>
    obtain ⟨ab, ao, asp⟩ := a
    go_wp2_with (at_builtin; refine Lib.wpList_append_run _ rfl _ _ _ _ rfl _ _ rfl rfl _ _ hr ?_)
    all_goals (go_ret; exact ⟨rfl, rfl⟩)
theorem ins53_safe {R : Nat → RoRow} {h : Rows} {q v n i : Nat} {F : Nat → AV} {x : AV} (hq : h.live q = some (.gen 29 2 n F)) (hv : h.live v = some (.lst 29 2 [x])) (hi : i ≤ n) (hb : (n + 1) * 24 ≤ 140737488355328) {c cv : Cp} :
    SafeCall Try.prog R 53 [.sl false q 0 n c, .int .i64 i, .sl false v 0 1 cv] h fun a h' => ∃ G : Nat → AV, (∀ j, j < n + 1 → G j = insF F i x j) ∧ a = .sl false h.length 0 (n + 1) .no ∧ h' = h.set q Option.none ++ [some (.gen 29 2 (n + 1) G)] := by
  rcases Nat.lt_or_ge i n with h1 | h1
  · exact SafeCall.insert ins53_law (by omega) hq hv h1 hb
  · obtain rfl : i = n := by omega
    refine SafeCall.noCp ?_
    exact SafeCall.insEnd tl_ok (T := lookT tl) (t := 24) (tE := 29) (z := 2) (nb := 24) rfl rfl rfl rfl (by omega) rfl (by omega) rfl ins53_end hq hv hb
end Go.Dc.Kb
end
section
set_option linter.unusedVariables false
set_option linter.unusedSimpArgs false
namespace Go.Dc.Kb
open Go.Proofs Go.RowKit Go.Lib
set_option maxRecDepth 100000


theorem ins61_info : (Try.prog.info? 37).map (fun i => (i.zero, i.size, i.bytes)) = some (some (.agg #[.int .i64 0, .string ⟨#[]⟩, .slice none 0 0]), 3, 48) := by kernel_rfl
theorem ins61_z : ∀ w, (Go.sizeOf 37).run Try.prog w = .ok 3 w := by
  obtain ⟨i0, hi0, hz0, hzs, hzb⟩ := info_parts ins61_info
  intro w
  simp [Go.sizeOf, typeInfo, program, Sem.run, hi0, pure, hzs]
set_option maxHeartbeats 4000000 in
/-- There is room: in place. -/
theorem ins61_shift (b off n c i vb voff vc : Nat) (cs vs : List Value) (w : World) (hi : i < n) (hroom : n + 1 ≤ c) (hc63 : c ≤ 9223372036854775807) (hvb : vb ≠ b)
    (hcl : cs.length = n * 3) (hvl : vs.length = 3)
    (hcs : ∀ j v, cs[j]? = some v → w.cell? ⟨b, off + j, none⟩ = some v) (hsp : ∀ j, j < (n + 1) * 3 → (w.cell? ⟨b, off + j, none⟩).isSome = true) (hfz : ∀ j, j < (n + 1) * 3 → w.frozen? ⟨b, off + j, none⟩ = false)
    (hvs : ∀ j v, vs[j]? = some v → w.cell? ⟨vb, voff + j, none⟩ = some v) (h1c : ∀ v ∈ cs, v.oneCell' = true) (h1v : ∀ v ∈ vs, v.oneCell' = true)
    (tA tB : TypeId) (kA kB : Nat) (hsa : w.shape? vb = some (tA, kA)) (hsb : w.shape? b = some (tB, kB)) (hkB : kB ≠ 0) (hfa : w.frozen? ⟨vb, voff, none⟩ = false) (hfe : w.frozen? ⟨vb, kA, none⟩ = false) :
    Calls Try.prog 61 #[.slice (some ⟨b, off, none⟩) n c, .int .i64 i, .slice (some ⟨vb, voff, none⟩) 1 vc] w fun e w' =>
      e = .returned (.slice (some ⟨b, off, none⟩) (n + 1) c) ∧ w' = (w.drew.setCells b (off + (i + 1) * 3) (cs.drop (i * 3))).setCells b (off + i * 3) vs := by
  have mixed : Try.prog.follows .mixedOrders = true := by kernel_rfl
  have hz1 : ¬ ((1 : Int) = 0) := by omega
  have hz2 : ¬ ((i : Int) = (n : Int)) := by omega
  obtain ⟨i0, hi0, hz0, hzs, hzb⟩ := info_parts ins61_info
  have hsz : (Try.prog.info? 37).map (·.size) = some 3 := by rw [hi0]; simp [hzs]
  have omA : ∀ j, j < (n - i) * 3 → i * 3 + j < (n + 1) * 3 ∧ (i + 1) * 3 + j < (n + 1) * 3 := by clear hcl hvl hz1 hz2; omega
  have hov : ∀ lb cb, (callFunc 69 #[.slice (some ⟨vb, voff, none⟩) 1 vc, .slice (some ⟨b, off + (i + 1) * 3, none⟩) lb cb]).run Try.prog w = .ok (.value (.bool false)) w := fun lb cb => by
    rw [run_callFunc_extern Try.func69 (by kernel_rfl) (by kernel_rfl) (by kernel_rfl) (e := Extern.SlicesOverlaps.overlaps #[47, 47] #[4]) (by kernel_rfl),
      Lib.run_overlaps_apart w 47 4 37 Try.underlying47 3 ins61_z ⟨vb, voff, none⟩ ⟨b, off + (i + 1) * 3, none⟩ 1 vc lb cb hvb tA tB kA kB hsa hsb hkB hfa hfe]
    rfl
  have hdl : (cs.drop (i * 3)).length = (n - i) * 3 := by rw [List.length_drop, hcl]; omega
  have hcp1 : ∀ ty dc sc, (Builtin.copy_ #[47, 47] ty #[.slice (some ⟨b, off + (i + 1) * 3, none⟩) (n - i) dc, .slice (some ⟨b, off + i * 3, none⟩) (n + 1 - i) sc]).run Try.prog w.drew = .ok (goInt (n - i : Nat)) (w.drew.setCells b (off + (i + 1) * 3) (cs.drop (i * 3))) := fun ty dc sc =>
    run_copy_wide w.drew _ _ ty 37 3 b (off + (i + 1) * 3) (n - i) dc ⟨b, off + i * 3, none⟩ (n + 1 - i) sc (cs.drop (i * 3)) (n - i) Try.underlying47 hsz (by simp only [Nat.min_def]; split <;> omega) hdl
      (fun j v hj => by rw [Addr.add_lit, Nat.add_assoc]; exact hcs (i * 3 + j) v (by rwa [List.getElem?_drop] at hj))
      (fun j hj => by rw [hdl] at hj; rw [Nat.add_assoc]; exact hsp _ (omA j hj).2) (fun j hj => by rw [hdl] at hj; rw [Nat.add_assoc]; exact hfz _ (omA j hj).2) (fun v hv => h1c v (List.mem_of_mem_drop hv))
  obtain ⟨W1, hW1⟩ : ∃ W1, W1 = w.drew.setCells b (off + (i + 1) * 3) (cs.drop (i * 3)) := ⟨_, rfl⟩
  have hsp1 : ∀ k, k < (n + 1) * 3 → (W1.cell? ⟨b, off + k, none⟩).isSome = true := fun k hk => by
    rw [hW1]
    exact isSome_setCells b _ _ _ (fun j hj => by rw [Nat.add_assoc]; exact hsp _ (by omega)) _ (hsp k hk)
  have hcp2 : ∀ (W : World), (∀ x, W.cell? x = W1.cell? x) → (∀ x, W.frozen? x = W1.frozen? x) → ∀ ty dc, (Builtin.copy_ #[47, 47] ty #[.slice (some ⟨b, off + i * 3, none⟩) (n + 1 - i) dc, .slice (some ⟨vb, voff, none⟩) 1 vc]).run Try.prog W = .ok (goInt (1 : Nat)) (W.setCells b (off + i * 3) vs) := fun W hWc hWf ty dc =>
    run_copy_wide W _ _ ty 37 3 b (off + i * 3) (n + 1 - i) dc ⟨vb, voff, none⟩ 1 vc vs 1 Try.underlying47 hsz (by simp only [Nat.min_def]; split <;> omega) (by rw [hvl])
      (fun j v hj => by
        rw [Addr.add_lit, hWc, hW1, World.cell?_setCells_out b _ _ _ _ (fun h _ => absurd h hvb)]
        exact hvs j v hj)
      (fun j hj => by rw [hWc, Nat.add_assoc]; exact hsp1 _ (by omega)) (fun j hj => by rw [hWf, hW1, World.frozen?_setCells, Nat.add_assoc]; exact hfz _ (by omega)) h1v
  rw [← hW1] at hcp1
  have hin : i ≤ n := Nat.le_of_lt hi
  have hb2 : ¬ (c = i + 1) := by clear hcl hvl; omega
  have hb4 : ¬ (c = i) := by clear hcl hvl hb2; omega
  have hb1 : (0 : Int) ≤ (i : Int) + 1 := by clear hcl hvl hb2 hb4; omega
  have hb3 : (i : Int) ≤ (n : Int) + 1 := by clear hcl hvl hb2 hb4; omega
  have htn : ((i : Int) + 1).toNat = i + 1 := by clear hcl hvl hb2 hb4; omega
  have hw1 : IntKind.i64.wrap ((i : Int) + 1) = (i : Int) + 1 := by clear hcl hvl hb2 hb4 htn; rw [IntKind.wrap_i64]; omega
  have hw2 : wrap64 ((i : Int) + 1) = (i : Int) + 1 := by clear hcl hvl hb2 hb4 htn hw1; unfold wrap64; omega
  have hw3 : wrap64 ((n : Int) + 1) = (n : Int) + 1 := by clear hcl hvl hb2 hb4 htn hw1 hw2; unfold wrap64; omega
  clear hcl hvl hdl omA hsp hsp1 hfz hcs hvs h1c h1v hsz hzs hzb hz0 hi0
  go_enter Try.func61, Try.ntmps61
  go_wp2_with (simp only [hov])
  go_region_law_o (refine step_copy_runI rfl _ _ 47 47 rfl _ _ (by simp [Act.eval, Act.put]) (by simp [Act.eval, Act.put]) (hcp1 _ _ _) ?_)
  go_wp2_with (at_builtin; refine wpList_copy_runI _ rfl _ _ 47 47 rfl _ _ rfl rfl (hcp2 _ (fun _ => rfl) (fun _ => rfl) _ _) ?_)
  go_ret
  first | exact ⟨rfl, rfl⟩ | exact ⟨rfl, by rw [hW1]⟩

set_option maxHeartbeats 4000000 in
/-- There is no room: a new row. -/
theorem ins61_grow (b off n c i vb voff vc : Nat) (cs vs : List Value) (w : World) (hi : i < n) (hnc : n ≤ c) (hroom : c < n + 1) (hbig : (n + 1) * 48 ≤ 140737488355328)
    (hcl : cs.length = n * 3) (hvl : vs.length = 3)
    (hcs : ∀ j v, cs[j]? = some v → w.cell? ⟨b, off + j, none⟩ = some v)
    (hvs : ∀ j v, vs[j]? = some v → w.cell? ⟨vb, voff + j, none⟩ = some v) (h1c : ∀ v ∈ cs, v.oneCell' = true) (h1v : ∀ v ∈ vs, v.oneCell' = true) :
    Calls Try.prog 61 #[.slice (some ⟨b, off, none⟩) n c, .int .i64 i, .slice (some ⟨vb, voff, none⟩) 1 vc] w fun e w' =>
      e = .returned (.slice (some ⟨w.heap.size, 0, none⟩) (n + 1) (grownCap w (n + 1) c 37)) ∧
      w' = (((w.alloc (.cells ((cs.take (i * 3)).toArray ++ Builtin.zeroCells (.agg #[.int .i64 0, .string ⟨#[]⟩, .slice none 0 0] : Value).cells (n + 1 - i) ++ Builtin.zeroCells (.agg #[.int .i64 0, .string ⟨#[]⟩, .slice none 0 0] : Value).cells (grownCap w (n + 1) c 37 - (n + 1))) 37)).drew.setCells w.heap.size (i * 3) vs).drew).setCells w.heap.size ((i + 1) * 3) (cs.drop (i * 3)) := by
  have mixed : Try.prog.follows .mixedOrders = true := by kernel_rfl
  have hz1 : ¬ ((1 : Int) = 0) := by omega
  have hz2 : ¬ ((i : Int) = (n : Int)) := by omega
  obtain ⟨i0, hi0, hz0, hzs, hzb⟩ := info_parts ins61_info
  have hsz : (Try.prog.info? 37).map (·.size) = some 3 := by rw [hi0]; simp [hzs]
  have omA : ∀ j, j < (n - i) * 3 → i * 3 + j < (n + 1) * 3 ∧ (i + 1) * 3 + j < (n + 1) * 3 := by clear hcl hvl hz1 hz2; omega
  have hdl : (cs.drop (i * 3)).length = (n - i) * 3 := by rw [List.length_drop, hcl]; omega
  have hz3 : (c : Int) < (n : Int) + 1 := by clear hcl hvl hdl hz1 hz2; omega
  have hbw : b < w.heap.size := block_lt_of_cell (hcs 0 _ (List.getElem?_eq_getElem (by clear hz1 hz2 hz3 hdl; omega)))
  have hvw : vb < w.heap.size := block_lt_of_cell (hvs 0 _ (List.getElem?_eq_getElem (by clear hz1 hz2 hz3 hdl; omega)))
  have hkk : (n : Int) + 1 - (i : Int) = ((n + 1 - i : Nat) : Int) := by clear hcl hvl hdl hz1 hz2 hz3; omega
  have hik : i + (n + 1 - i) = n + 1 := by clear hcl hvl hdl hz1 hz2 hz3 hkk; omega
  have hold : (Builtin.firstCells i0.size i (.slice (some ⟨b, off, none⟩) i c)).run Try.prog w.drew = .ok (cs.take (i * 3)).toArray w.drew := by
    rw [hzs]
    exact run_firstCells_some w.drew 3 i ⟨b, off, none⟩ i c (cs.take (i * 3)) (by rw [List.length_take, hcl]; clear hvl hdl hz1 hz2 hz3 hkk hik; omega) (fun j v hj => by
      rw [Addr.add_lit]
      rw [List.getElem?_take] at hj
      split at hj
      · exact hcs j v hj
      · cases hj)
  have hrz : ∀ ty, (Builtin.append_ #[47, 3] ty #[.slice (some ⟨b, off, none⟩) i c, .int .i64 ((n : Int) + 1 - (i : Int))]).run Try.prog w =
      .ok (.slice (some ⟨w.heap.size, 0, none⟩) (n + 1) (grownCap w (n + 1) c 37)) (w.drew.alloc (.cells ((cs.take (i * 3)).toArray ++ Builtin.zeroCells (.agg #[.int .i64 0, .string ⟨#[]⟩, .slice none 0 0] : Value).cells (n + 1 - i) ++ Builtin.zeroCells (.agg #[.int .i64 0, .string ⟨#[]⟩, .slice none 0 0] : Value).cells (grownCap w (n + 1) c 37 - (n + 1))) 37)) := fun ty => by
    have h := Lib.run_append_grow_zeros w 47 3 ty 37 i0 _ .i64 .i64 Try.underlying47 Try.underlying3 hi0 hz0 (some ⟨b, off, none⟩) i c (cs.take (i * 3)) hold (n + 1 - i)
      (by clear hcl hvl hdl hz1 hz2 hz3 hkk hik; omega) (by clear hcl hvl hdl hz1 hz2 hz3 hkk hik; omega) (by clear hcl hvl hdl hz1 hz2 hz3 hkk; omega) (by clear hcl hvl hdl hz1 hz2 hz3 hkk; omega) (by rw [hzb]; clear hcl hvl hdl hz1 hz2 hz3 hkk hik; omega) (by rw [hzb, hik]; exact growslice_fits hroom hbig)
    rw [hik] at h
    rw [hkk]
    exact h
  obtain ⟨G, hG⟩ : ∃ G, G = grownCap w (n + 1) c 37 := ⟨_, rfl⟩
  obtain ⟨ROW, hROW⟩ : ∃ ROW : Array Value, ROW = (cs.take (i * 3)).toArray ++ Builtin.zeroCells (.agg #[.int .i64 0, .string ⟨#[]⟩, .slice none 0 0] : Value).cells (n + 1 - i) ++ Builtin.zeroCells (.agg #[.int .i64 0, .string ⟨#[]⟩, .slice none 0 0] : Value).cells (G - (n + 1)) := ⟨_, rfl⟩
  rw [← hG] at hrz ⊢
  rw [← hROW] at hrz ⊢
  have hRl : (n + 1) * 3 ≤ ROW.size := by
    rw [hROW]
    simp only [Array.size_append, List.size_toArray, List.length_take, hcl, zeroCells_size, Value.cells, List.length_cons, List.length_nil]
    clear hvl hdl hz1 hz2 hz3 hkk hik
    show (n + 1) * 3 ≤ min (i * 3) (n * 3) + (n + 1 - i) * 3 + (G - (n + 1)) * 3
    omega
  obtain ⟨W1, hW1⟩ : ∃ W1, W1 = w.drew.alloc (.cells ROW 37) := ⟨_, rfl⟩
  rw [← hW1] at hrz
  have hN : ∀ j, j < (n + 1) * 3 → (W1.cell? ⟨w.heap.size, j, none⟩).isSome = true := fun j hj => by
    rw [hW1, World.cell?_alloc_at (w := w.drew) ROW _ w.heap.size j rfl, Array.getElem?_eq_getElem (Nat.lt_of_lt_of_le hj hRl)]; rfl
  have hNf : ∀ j, W1.frozen? ⟨w.heap.size, j, none⟩ = false := fun j => by rw [hW1]; exact World.frozen?_alloc_at (w := w.drew) ROW _ w.heap.size j rfl
  have hOb : ∀ j v, w.cell? ⟨b, j, none⟩ = some v → W1.cell? ⟨b, j, none⟩ = some v := fun j v h => by rw [hW1, World.cell?_alloc_past (w := w.drew) _ b j hbw]; exact h
  have hOv : ∀ j v, w.cell? ⟨vb, j, none⟩ = some v → W1.cell? ⟨vb, j, none⟩ = some v := fun j v h => by rw [hW1, World.cell?_alloc_past (w := w.drew) _ vb j hvw]; exact h
  have omB : ∀ j, j < 3 → i * 3 + j < (n + 1) * 3 := by clear hcl hvl hdl hz1 hz2 hz3 hkk hik hRl; omega
  have hcpA : ∀ (W : World), (∀ x, W.cell? x = W1.cell? x) → (∀ x, W.frozen? x = W1.frozen? x) → ∀ ty dc, (Builtin.copy_ #[47, 47] ty #[.slice (some ⟨w.heap.size, i * 3, none⟩) (n + 1 - i) dc, .slice (some ⟨vb, voff, none⟩) 1 vc]).run Try.prog W = .ok (goInt (1 : Nat)) (W.setCells w.heap.size (i * 3) vs) := fun W hWc hWf ty dc =>
    run_copy_wide W _ _ ty 37 3 w.heap.size (i * 3) (n + 1 - i) dc ⟨vb, voff, none⟩ 1 vc vs 1 Try.underlying47 hsz (by clear hcl hvl hdl hz1 hz2 hz3 hkk hik hRl; simp only [Nat.min_def]; split <;> omega) (by rw [hvl])
      (fun j v hj => by rw [Addr.add_lit, hWc]; exact hOv _ v (hvs j v hj))
      (fun j hj => by rw [hvl] at hj; rw [hWc]; exact hN _ (omB j hj)) (fun j hj => by rw [hWf]; exact hNf _) h1v
  have hGn : n + 1 ≤ G := by rw [hG]; exact grownCap_ge w _ _ _
  have hG63 : G ≤ 9223372036854775807 := by
    have := grownCap_le_maxLen w (n + 1) c 37 (by clear hcl hvl hdl hz1 hz2 hz3 hkk hik hRl hG; unfold maxLen; omega)
    rw [← hG] at this
    unfold maxLen at this
    clear hcl hvl hdl hz1 hz2 hz3 hkk hik hRl
    omega
  have hbN : b ≠ w.heap.size := Nat.ne_of_lt hbw
  have hcpB : ∀ (W : World), (∀ x, W.cell? x = (W1.setCells w.heap.size (i * 3) vs).cell? x) → (∀ x, W.frozen? x = (W1.setCells w.heap.size (i * 3) vs).frozen? x) → ∀ ty dc sc, (Builtin.copy_ #[47, 47] ty #[.slice (some ⟨w.heap.size, (i + 1) * 3, none⟩) (n - i) dc, .slice (some ⟨b, off + i * 3, none⟩) (n - i) sc]).run Try.prog W = .ok (goInt (n - i : Nat)) (W.setCells w.heap.size ((i + 1) * 3) (cs.drop (i * 3))) := fun W hWc hWf ty dc sc =>
    run_copy_wide W _ _ ty 37 3 w.heap.size ((i + 1) * 3) (n - i) dc ⟨b, off + i * 3, none⟩ (n - i) sc (cs.drop (i * 3)) (n - i) Try.underlying47 hsz (by simp) hdl
      (fun j v hj => by
        rw [Addr.add_lit, hWc, World.cell?_setCells_out _ _ _ _ _ (fun h _ => absurd h hbN), Nat.add_assoc]
        exact hOb _ v (hcs (i * 3 + j) v (by rwa [List.getElem?_drop] at hj)))
      (fun j hj => by rw [hdl] at hj; rw [hWc]; exact isSome_setCells _ _ _ _ (fun t ht => hN _ (omB t (by rw [hvl] at ht; exact ht))) _ (hN _ (omA j hj).2))
      (fun j hj => by rw [hWf, World.frozen?_setCells]; exact hNf _) (fun v hv => h1c v (List.mem_of_mem_drop hv))
  have hGi : ¬ (G = i) := by clear hcl hvl hdl hz1 hz2 hz3 hkk hik hRl hG; omega
  have hGim : ¬ (G = i + 1) := by clear hcl hvl hdl hz1 hz2 hz3 hkk hik hRl hG hGi; omega
  have hci : ¬ (c = i) := by clear hcl hvl hdl hz1 hz2 hz3 hkk hik hRl hG hGi hGim; omega
  subst hW1
  have hE1 : ∀ x, ((w.alloc (.cells ROW 37)).drew).cell? x = (w.drew.alloc (.cells ROW 37)).cell? x := fun x => rfl
  have hE2 : ∀ x, ((w.alloc (.cells ROW 37)).drew).frozen? x = (w.drew.alloc (.cells ROW 37)).frozen? x := fun x => rfl
  have hF1 : ∀ x, (((w.alloc (.cells ROW 37)).drew.setCells w.heap.size (i * 3) vs).drew).cell? x = ((w.drew.alloc (.cells ROW 37)).setCells w.heap.size (i * 3) vs).cell? x := fun x => rfl
  have hF2 : ∀ x, (((w.alloc (.cells ROW 37)).drew.setCells w.heap.size (i * 3) vs).drew).frozen? x = ((w.drew.alloc (.cells ROW 37)).setCells w.heap.size (i * 3) vs).frozen? x := fun x => rfl
  have hw0 : wrap64 ((n : Int) + 1) = (n : Int) + 1 := by clear hcl hvl hdl hz1 hz2 hz3 hkk hik hRl hG hGi hGim hci; unfold wrap64; omega
  have hw0' : wrap64 ((n : Int) + 1 - (i : Int)) = (n : Int) + 1 - (i : Int) := by clear hcl hvl hdl hz1 hz2 hz3 hkk hik hRl hG hGi hGim hci hw0; unfold wrap64; omega
  clear hkk hik hold hROW hG hRl hvw hbw omB
  have hin : i ≤ n := Nat.le_of_lt hi
  have hb1 : (0 : Int) ≤ (i : Int) + 1 := by clear hcl hvl hdl hz1 hz2 hz3 hGi hGim hci hw0 hw0'; omega
  have hb3 : (i : Int) ≤ (n : Int) := by clear hcl hvl hdl hz1 hz2 hz3 hGi hGim hci hw0 hw0' hb1; omega
  have htn : ((i : Int) + 1).toNat = i + 1 := by clear hcl hvl hdl hz1 hz2 hz3 hGi hGim hci hw0 hw0' hb1 hb3; omega
  have hw1 : IntKind.i64.wrap ((i : Int) + 1) = (i : Int) + 1 := by clear hcl hvl hdl hz1 hz2 hz3 hGi hGim hci hw0 hw0' hb1 hb3 htn; rw [IntKind.wrap_i64]; omega
  have hw2 : wrap64 ((i : Int) + 1) = (i : Int) + 1 := by clear hcl hvl hdl hz1 hz2 hz3 hGi hGim hci hw0 hw0' hb1 hb3 htn hw1; unfold wrap64; omega
  clear hcl hvl hdl omA hcs hvs h1c h1v hsz hzs hzb hz0 hi0 hbig hN hNf hOb hOv hbN
  go_enter Try.func61, Try.ntmps61
  go_wp2_with (first
    | (at_builtin; refine Lib.wpList_append_run _ rfl _ _ _ _ rfl _ _ rfl rfl _ _ (hrz _) ?_)
    | (at_builtin; refine wpList_copy_runI _ rfl _ _ 47 47 rfl _ _ rfl rfl (hcpA _ hE1 hE2 _ _) ?_)
    | (at_builtin; refine wpList_copy_runI _ rfl _ _ 47 47 rfl _ _ rfl rfl (hcpB _ (fun _ => rfl) (fun _ => rfl) _ _ _) ?_))
  go_region_law_o (refine step_copy_runI rfl _ _ 47 47 rfl (.slice (some ⟨w.heap.size, (i + 1) * 3, none⟩) (n - i) (G - (i + 1))) (.slice (some ⟨b, off + i * 3, none⟩) (n - i) (c - i)) (by simp [Act.eval, Act.put]) (by simp [Act.eval, Act.put]) (hcpB _ hF1 hF2 3 (G - (i + 1)) (c - i)) ?_)
  go_wp2
  go_ret
  exact ⟨rfl, rfl⟩

theorem ins61_law : InsLaw Try.prog 61 37 3 48 where
  shift := fun b off n c i vb voff vc cs vs w h1 h2 h3 h4 h5 h6 h7 h8 h9 h10 h11 h12 tA tB kA kB h13 h14 h15 h16 h17 => ins61_shift b off n c i vb voff vc cs vs w h1 h2 h3 h4 h5 h6 h7 h8 h9 h10 h11 h12 tA tB kA kB h13 h14 h15 h16 h17
  grow := fun b off n c i vb voff vc cs vs w h1 h2 h3 h4 h5 h6 h7 h8 h9 h10 => (ins61_grow b off n c i vb voff vc cs vs w h1 h2 h3 h4 h5 h6 h7 h8 h9 h10).mono fun e w' h =>
    ⟨_, _, _, grownCap_ge w _ _ _, grownCap_le_maxLen w (n + 1) c 37 (by unfold maxLen; omega), zeroCells_size _ _, zeroCells_size _ _, h.1, h.2⟩

set_option maxHeartbeats 4000000 in
theorem ins61_end (base : Option Addr) (n c : Nat) (b : Addr) (vc : Nat) (r : Value) (w w' : World) (hn : n ≤ 140737488355328) (hr : (Builtin.append_ #[47, 47] 47 #[.slice base n c, .slice (some b) 1 vc]).run Try.prog w = .ok r w') :
    Calls Try.prog 61 #[.slice base n c, .int .i64 n, .slice (some b) 1 vc] w fun e w2 => e = .returned r ∧ w2 = w' := by
  have hz1 : ¬ ((1 : Int) = 0) := by omega
  go_enter Try.func61, Try.ntmps61
  cases base with
  | none =>
    go_wp2_with (at_builtin; refine Lib.wpList_append_run _ rfl _ _ _ _ rfl _ _ rfl rfl _ _ hr ?_)
    all_goals (go_ret; exact ⟨rfl, rfl⟩)
  | some a =>
    obtain ⟨ab, ao, asp⟩ := a
    go_wp2_with (at_builtin; refine Lib.wpList_append_run _ rfl _ _ _ _ rfl _ _ rfl rfl _ _ hr ?_)
    all_goals (go_ret; exact ⟨rfl, rfl⟩)
theorem ins61_safe {R : Nat → RoRow} {h : Rows} {q v n i : Nat} {F : Nat → AV} {x : AV} (hq : h.live q = some (.gen 37 3 n F)) (hv : h.live v = some (.lst 37 3 [x])) (hi : i ≤ n) (hb : (n + 1) * 48 ≤ 140737488355328) {c cv : Cp} :
    SafeCall Try.prog R 61 [.sl false q 0 n c, .int .i64 i, .sl false v 0 1 cv] h fun a h' => ∃ G : Nat → AV, (∀ j, j < n + 1 → G j = insF F i x j) ∧ a = .sl false h.length 0 (n + 1) .no ∧ h' = h.set q Option.none ++ [some (.gen 37 3 (n + 1) G)] := by
  rcases Nat.lt_or_ge i n with h1 | h1
  · exact SafeCall.insert ins61_law (by omega) hq hv h1 hb
  · obtain rfl : i = n := by omega
    refine SafeCall.noCp ?_
    exact SafeCall.insEnd tl_ok (T := lookT tl) (t := 47) (tE := 37) (z := 3) (nb := 48) rfl rfl rfl rfl (by omega) rfl (by omega) rfl ins61_end hq hv hb
end Go.Dc.Kb
end
section
set_option linter.unusedVariables false
set_option linter.unusedSimpArgs false
namespace Go.Dc.Kb
open Go.Proofs Go.RowKit
set_option maxRecDepth 100000

/-- slices.Insert of one item. -/
def spec53 : CallSpec := fun args h k => match args with
  | [.sl false q 0 n _, .int .i64 i, .sl false v 0 1 _] => match h.live q with
    | some (.gen 29 2 m G) => match h.live v with
      | some (.lst 29 2 [x]) => (m = n ∧ decide (0 ≤ i) = true ∧ decide (i ≤ (n : Int)) = true ∧ (n + 1) * 24 ≤ 140737488355328) ∧
        ∀ H : Nat → AV, (∀ j, j < n + 1 → H j = insF G i.toNat x j) → k (.sl false h.length 0 (n + 1) .no) (h.set q none ++ [some (.gen 29 2 (n + 1) H)])
      | _ => False
    | _ => False
  | _ => False
theorem spec53_ok (R : Nat → RoRow) : ∀ args h k, spec53 args h k → SafeCall Try.prog R 53 args h k := by
  intro args h k hk
  unfold spec53 at hk
  split at hk
  · rename_i q n u i v u2
    split at hk
    · rename_i m G hq
      split at hk
      · rename_i x hv
        obtain ⟨⟨rfl, h0, h1, hb⟩, hk⟩ := hk
        have h0 := of_decide_eq_true h0
        have h1 := of_decide_eq_true h1
        obtain ⟨a, rfl⟩ : ∃ a : Nat, i = (a : Int) := ⟨i.toNat, by omega⟩
        refine (ins53_safe hq hv (i := a) (by omega) hb).mono ?_
        rintro w h' ⟨H, hH, rfl, rfl⟩
        exact hk H hH
      · exact hk.elim
    · exact hk.elim
  · exact hk.elim
def stk (q n : Nat) : Row := .lst 26 1 [.agg [.sl false q 0 n .no]]
def itG (N : Nat → Int) (S : Nat → List UInt8) : Nat → AV := fun j => itm (N j) (S j)
noncomputable abbrev env53 (R : Nat → RoRow) : EnvX := (bx R).addCall 53 (liftC spec53)
theorem env53_ok (R : Nat → RoRow) (HP : AV → Rows → Fz → Prop) : OKX Try.prog (env53 R) [] HP := (bx_ok R [] HP).addCall (f := 53) (fi := fi53) (by kernel_rfl) (liftC_ok (spec53_ok R))

end Go.Dc.Kb
end
section
set_option linter.unusedVariables false
set_option linter.unusedSimpArgs false
namespace Go.Dc.Kb
open Go.Proofs Go.RowKit
set_option maxRecDepth 100000
theorem vc11 (R : Nat → RoRow) (n : Nat) (N : Nat → Int) (S : Nat → List UInt8) (q : AV → Rows → Fz → Prop) (F : Fz)(a : Int) (s : List UInt8) : vcx (env53 R) 1000 11 fi11 [.ptr false 0 0 0, .agg [.int .i64 a, .str s]] [some (stk 1 n), some (.gen 29 2 n (itG N S))] q F = (AV.sl false 1 0 n Cp.no = AV.sl false 1 0 n Cp.no ∧ bif decide (0 + n ≤ n) && (true && (true && decide (((Src.gen n fun (j : Nat) => itG N S (0 + j)).len + 1) * 24 ≤ 140737488355328))) then q (AV.tup []) [some (Row.lst 26 1 [AV.agg [AV.sl false 4 0 ((Src.gen n fun (j : Nat) => itG N S (0 + j)).len + 1) Cp.no]]), none, some (Row.lst 29 2 [AV.agg [AV.int IntKind.i64 a, AV.str s]]), some (Row.lst 29 2 [AV.agg [AV.int IntKind.i64 a, AV.str s]]), some (Row.gen 29 2 ((Src.gen n fun (j : Nat) => itG N S (0 + j)).len + 1) fun (j : Nat) => bif j.blt (Src.gen n fun (j : Nat) => itG N S (0 + j)).len then AV.agg [AV.int IntKind.i64 (N (0 + j)), AV.str (S (0 + j))] else (Src.lst [AV.agg [AV.int IntKind.i64 a, AV.str s]]).at_ (j - (Src.gen n fun (j : Nat) => itG N S (0 + j)).len))] F else False) := by kernel_rfl
theorem vc20 (R : Nat → RoRow) (n : Nat) (N : Nat → Int) (S : Nat → List UInt8) (q : AV → Rows → Fz → Prop) (F : Fz) : vcx (env53 R) 1000 20 fi20 [.ptr false 0 0 0] [some (stk 1 n), some (.gen 29 2 n (itG N S))] q F = (bif (↑n : Int) == 0 then q (AV.tup [AV.agg [AV.int IntKind.i64 0, AV.str []], AV.bool false]) [some (Row.lst 26 1 [AV.agg [AV.sl false 1 0 n Cp.no]]), some (Row.gen 29 2 n fun (j : Nat) => itm (N j) (S j)), some (Row.lst 29 2 [AV.agg [AV.int IntKind.i64 0, AV.str []]])] F else bif decide (0 ≤ IntKind.i64.wrap ((↑n : Int) - 1)) && decide (IntKind.i64.wrap ((↑n : Int) - 1) < (↑n : Int)) then bif decide (0 + (IntKind.i64.wrap ((↑n : Int) - 1)).toNat < n) then q (AV.tup [AV.agg [AV.int IntKind.i64 (N (0 + (IntKind.i64.wrap ((↑n : Int) - 1)).toNat)), AV.str (S (0 + (IntKind.i64.wrap ((↑n : Int) - 1)).toNat))], AV.bool true]) [some (Row.lst 26 1 [AV.agg [AV.sl false 1 0 n Cp.no]]), some (Row.gen 29 2 n fun (j : Nat) => itm (N j) (S j)), some (Row.lst 29 2 [AV.agg [AV.int IntKind.i64 (N (0 + (IntKind.i64.wrap ((↑n : Int) - 1)).toNat)), AV.str (S (0 + (IntKind.i64.wrap ((↑n : Int) - 1)).toNat))]])] F else False else False) := by kernel_rfl
theorem vc21 (R : Nat → RoRow) (n : Nat) (N : Nat → Int) (S : Nat → List UInt8) (q : AV → Rows → Fz → Prop) (F : Fz) : vcx (env53 R) 1000 21 fi21 [.ptr false 0 0 0] [some (stk 1 n), some (.gen 29 2 n (itG N S))] q F = (bif (↑n : Int) == 0 then q (AV.tup [AV.agg [AV.int IntKind.i64 0, AV.str []], AV.bool false]) [some (Row.lst 26 1 [AV.agg [AV.sl false 1 0 n Cp.no]]), some (Row.gen 29 2 n fun (j : Nat) => itm (N j) (S j)), some (Row.lst 29 2 [AV.agg [AV.int IntKind.i64 0, AV.str []]]), some (Row.lst 29 2 [AV.agg [AV.int IntKind.i64 0, AV.str []]]), some (Row.lst 29 2 [AV.agg [AV.int IntKind.i64 0, AV.str []]])] F else bif decide (0 ≤ IntKind.i64.wrap ((↑n : Int) - 1)) && decide (IntKind.i64.wrap ((↑n : Int) - 1) < (↑n : Int)) then bif decide (0 + (IntKind.i64.wrap ((↑n : Int) - 1)).toNat < n) then bif slCondE none (some (IntKind.i64.wrap ((↑n : Int) - 1))) n (cpEnd Cp.no n) then q (AV.tup [AV.agg [AV.int IntKind.i64 (N (0 + (IntKind.i64.wrap ((↑n : Int) - 1)).toNat)), AV.str (S (0 + (IntKind.i64.wrap ((↑n : Int) - 1)).toNat))], AV.bool true]) [some (Row.lst 26 1 [AV.agg [AV.sl false 1 0 (slHi n (some (IntKind.i64.wrap ((↑n : Int) - 1))) - 0) (Cp.room (n - (IntKind.i64.wrap ((↑n : Int) - 1)).toNat))]]), some (Row.gen 29 2 n fun (j : Nat) => itm (N j) (S j)), some (Row.lst 29 2 [AV.agg [AV.int IntKind.i64 (N (0 + (IntKind.i64.wrap ((↑n : Int) - 1)).toNat)), AV.str (S (0 + (IntKind.i64.wrap ((↑n : Int) - 1)).toNat))]]), some (Row.lst 29 2 [AV.agg [AV.int IntKind.i64 (N (0 + (IntKind.i64.wrap ((↑n : Int) - 1)).toNat)), AV.str (S (0 + (IntKind.i64.wrap ((↑n : Int) - 1)).toNat))]]), some (Row.lst 29 2 [AV.agg [AV.int IntKind.i64 (N (0 + (IntKind.i64.wrap ((↑n : Int) - 1)).toNat)), AV.str (S (0 + (IntKind.i64.wrap ((↑n : Int) - 1)).toNat))]])] F else False else False else False) := by kernel_rfl
theorem vc22 (R : Nat → RoRow) (n : Nat) (N : Nat → Int) (S : Nat → List UInt8) (q : AV → Rows → Fz → Prop) (F : Fz)(a : Nat) : vcx (env53 R) 1000 22 fi22 [.ptr false 0 0 0, .int .i64 (a : Nat)] [some (stk 1 (n + 1)), some (.gen 29 2 (n + 1) (itG N S))] q F = (bif decide ((↑a : Int) ≥ (↑(n + 1) : Int)) then q (AV.bool false) [some (Row.lst 26 1 [AV.agg [AV.sl false 1 0 (n + 1) Cp.no]]), some (Row.gen 29 2 (n + 1) fun (j : Nat) => itm (N j) (S j))] F else bif slCond3 (↑a : Int) (IntKind.i64.wrap ((↑a : Int) + 1)) (↑(n + 1) : Int) (↑(cpEnd Cp.no (n + 1)) : Int) then bif (↑a : Int) == IntKind.i64.wrap ((↑a : Int) + 1) then q (AV.bool true) [some (Row.lst 26 1 [AV.agg [AV.sl false 1 0 (n + 1) Cp.no]]), some (Row.gen 29 2 (n + 1) fun (j : Nat) => itm (N j) (S j))] F else bif slCondE none (some (↑a : Int)) (n + 1) (cpEnd Cp.no (n + 1)) then bif slCondE (some (IntKind.i64.wrap ((↑a : Int) + 1))) none (n + 1) (cpEnd Cp.no (n + 1)) then bif decide (0 + (slHi (n + 1) (some (↑a : Int)) - 0) ≤ n + 1) && (decide (0 + slLo (some (IntKind.i64.wrap ((↑a : Int) + 1))) + (slHi (n + 1) none - slLo (some (IntKind.i64.wrap ((↑a : Int) + 1)))) ≤ n + 1) && (true && decide (((Src.gen (slHi (n + 1) (some (↑a : Int)) - 0) fun (j : Nat) => itG N S (0 + j)).len + (Src.gen (slHi (n + 1) none - slLo (some (IntKind.i64.wrap ((↑a : Int) + 1)))) fun (j : Nat) => itG N S (0 + slLo (some (IntKind.i64.wrap ((↑a : Int) + 1))) + j)).len) * 24 ≤ 140737488355328))) then bif slCondE (some (↑((Src.gen (slHi (n + 1) (some (↑a : Int)) - slLo none) fun (j : Nat) => itG N S (0 + slLo none + j)).len + (Src.gen (slHi (n + 1) none - slLo (some (IntKind.i64.wrap ((↑a : Int) + 1)))) fun (j : Nat) => itG N S (0 + slLo (some (IntKind.i64.wrap ((↑a : Int) + 1))) + j)).len) : Int)) (some (↑(n + 1) : Int)) ((Src.gen (slHi (n + 1) (some (↑a : Int)) - 0) fun (j : Nat) => itG N S (0 + j)).len + (Src.gen (slHi (n + 1) none - slLo (some (IntKind.i64.wrap ((↑a : Int) + 1)))) fun (j : Nat) => itG N S (0 + slLo (some (IntKind.i64.wrap ((↑a : Int) + 1))) + j)).len) (cpEnd (appCp (AV.sl false 1 (0 + slLo none) (slHi (n + 1) (some (↑a : Int)) - slLo none) (slCp Cp.no (n + 1) (some (↑a : Int)))) (Src.gen (slHi (n + 1) none - slLo (some (IntKind.i64.wrap ((↑a : Int) + 1)))) fun (j : Nat) => itG N S (0 + slLo (some (IntKind.i64.wrap ((↑a : Int) + 1))) + j)).len) ((Src.gen (slHi (n + 1) (some (↑a : Int)) - 0) fun (j : Nat) => itG N S (0 + j)).len + (Src.gen (slHi (n + 1) none - slLo (some (IntKind.i64.wrap ((↑a : Int) + 1)))) fun (j : Nat) => itG N S (0 + slLo (some (IntKind.i64.wrap ((↑a : Int) + 1))) + j)).len)) then bif (0 + slLo (some (↑((Src.gen (slHi (n + 1) (some (↑a : Int)) - slLo none) fun (j : Nat) => itG N S (0 + slLo none + j)).len + (Src.gen (slHi (n + 1) none - slLo (some (IntKind.i64.wrap ((↑a : Int) + 1)))) fun (j : Nat) => itG N S (0 + slLo (some (IntKind.i64.wrap ((↑a : Int) + 1))) + j)).len) : Int)) + (slHi ((Src.gen (slHi (n + 1) (some (↑a : Int)) - 0) fun (j : Nat) => itG N S (0 + j)).len + (Src.gen (slHi (n + 1) none - slLo (some (IntKind.i64.wrap ((↑a : Int) + 1)))) fun (j : Nat) => itG N S (0 + slLo (some (IntKind.i64.wrap ((↑a : Int) + 1))) + j)).len) (some (↑(n + 1) : Int)) - slLo (some (↑((Src.gen (slHi (n + 1) (some (↑a : Int)) - slLo none) fun (j : Nat) => itG N S (0 + slLo none + j)).len + (Src.gen (slHi (n + 1) none - slLo (some (IntKind.i64.wrap ((↑a : Int) + 1)))) fun (j : Nat) => itG N S (0 + slLo (some (IntKind.i64.wrap ((↑a : Int) + 1))) + j)).len) : Int)))).ble (Row.gen 29 (29, TI.mk (Kd.struct [(3, 0, 1), (9, 1, 1)]) 2 24 (AV.agg [AV.int IntKind.i64 0, AV.str []]) true).snd.size ((Src.gen (slHi (n + 1) (some (↑a : Int)) - slLo none) fun (j : Nat) => itG N S (0 + slLo none + j)).len + (Src.gen (slHi (n + 1) none - slLo (some (IntKind.i64.wrap ((↑a : Int) + 1)))) fun (j : Nat) => itG N S (0 + slLo (some (IntKind.i64.wrap ((↑a : Int) + 1))) + j)).len) fun (j : Nat) => bif j.blt (Src.gen (slHi (n + 1) (some (↑a : Int)) - slLo none) fun (j : Nat) => itG N S (0 + slLo none + j)).len then (Src.gen (slHi (n + 1) (some (↑a : Int)) - slLo none) fun (j : Nat) => itG N S (0 + slLo none + j)).at_ j else (Src.gen (slHi (n + 1) none - slLo (some (IntKind.i64.wrap ((↑a : Int) + 1)))) fun (j : Nat) => itG N S (0 + slLo (some (IntKind.i64.wrap ((↑a : Int) + 1))) + j)).at_ (j - (Src.gen (slHi (n + 1) (some (↑a : Int)) - slLo none) fun (j : Nat) => itG N S (0 + slLo none + j)).len)).len || decide ((Row.gen 29 (29, TI.mk (Kd.struct [(3, 0, 1), (9, 1, 1)]) 2 24 (AV.agg [AV.int IntKind.i64 0, AV.str []]) true).snd.size ((Src.gen (slHi (n + 1) (some (↑a : Int)) - slLo none) fun (j : Nat) => itG N S (0 + slLo none + j)).len + (Src.gen (slHi (n + 1) none - slLo (some (IntKind.i64.wrap ((↑a : Int) + 1)))) fun (j : Nat) => itG N S (0 + slLo (some (IntKind.i64.wrap ((↑a : Int) + 1))) + j)).len) fun (j : Nat) => bif j.blt (Src.gen (slHi (n + 1) (some (↑a : Int)) - slLo none) fun (j : Nat) => itG N S (0 + slLo none + j)).len then (Src.gen (slHi (n + 1) (some (↑a : Int)) - slLo none) fun (j : Nat) => itG N S (0 + slLo none + j)).at_ j else (Src.gen (slHi (n + 1) none - slLo (some (IntKind.i64.wrap ((↑a : Int) + 1)))) fun (j : Nat) => itG N S (0 + slLo (some (IntKind.i64.wrap ((↑a : Int) + 1))) + j)).at_ (j - (Src.gen (slHi (n + 1) (some (↑a : Int)) - slLo none) fun (j : Nat) => itG N S (0 + slLo none + j)).len)).len ≤ 0 + slLo (some (↑((Src.gen (slHi (n + 1) (some (↑a : Int)) - slLo none) fun (j : Nat) => itG N S (0 + slLo none + j)).len + (Src.gen (slHi (n + 1) none - slLo (some (IntKind.i64.wrap ((↑a : Int) + 1)))) fun (j : Nat) => itG N S (0 + slLo (some (IntKind.i64.wrap ((↑a : Int) + 1))) + j)).len) : Int))) then q (AV.bool true) [some (Row.lst 26 1 [AV.agg [AV.sl false 2 0 ((Src.gen (slHi (n + 1) (some (↑a : Int)) - 0) fun (j : Nat) => itG N S (0 + j)).len + (Src.gen (slHi (n + 1) none - slLo (some (IntKind.i64.wrap ((↑a : Int) + 1)))) fun (j : Nat) => itG N S (0 + slLo (some (IntKind.i64.wrap ((↑a : Int) + 1))) + j)).len) (Cp.room (n + 1 - (↑a : Int).toNat - (Src.gen (slHi (n + 1) none - slLo (some (IntKind.i64.wrap ((↑a : Int) + 1)))) fun (j : Nat) => itG N S (0 + slLo (some (IntKind.i64.wrap ((↑a : Int) + 1))) + j)).len))]]), none, some (Row.gen 29 2 ((Src.gen (slHi (n + 1) (some (↑a : Int)) - 0) fun (j : Nat) => itG N S (0 + j)).len + (Src.gen (slHi (n + 1) none - slLo (some (IntKind.i64.wrap ((↑a : Int) + 1)))) fun (j : Nat) => itG N S (0 + slLo (some (IntKind.i64.wrap ((↑a : Int) + 1))) + j)).len) fun (j : Nat) => bif (0 + slLo (some (↑((Src.gen (slHi (n + 1) (some (↑a : Int)) - slLo none) fun (j : Nat) => itG N S (0 + slLo none + j)).len + (Src.gen (slHi (n + 1) none - slLo (some (IntKind.i64.wrap ((↑a : Int) + 1)))) fun (j : Nat) => itG N S (0 + slLo (some (IntKind.i64.wrap ((↑a : Int) + 1))) + j)).len) : Int)) + (slHi ((Src.gen (slHi (n + 1) (some (↑a : Int)) - 0) fun (j : Nat) => itG N S (0 + j)).len + (Src.gen (slHi (n + 1) none - slLo (some (IntKind.i64.wrap ((↑a : Int) + 1)))) fun (j : Nat) => itG N S (0 + slLo (some (IntKind.i64.wrap ((↑a : Int) + 1))) + j)).len) (some (↑(n + 1) : Int)) - slLo (some (↑((Src.gen (slHi (n + 1) (some (↑a : Int)) - slLo none) fun (j : Nat) => itG N S (0 + slLo none + j)).len + (Src.gen (slHi (n + 1) none - slLo (some (IntKind.i64.wrap ((↑a : Int) + 1)))) fun (j : Nat) => itG N S (0 + slLo (some (IntKind.i64.wrap ((↑a : Int) + 1))) + j)).len) : Int)))).ble ((Src.gen (slHi (n + 1) (some (↑a : Int)) - 0) fun (j : Nat) => itG N S (0 + j)).len + (Src.gen (slHi (n + 1) none - slLo (some (IntKind.i64.wrap ((↑a : Int) + 1)))) fun (j : Nat) => itG N S (0 + slLo (some (IntKind.i64.wrap ((↑a : Int) + 1))) + j)).len) && ((0 + slLo (some (↑((Src.gen (slHi (n + 1) (some (↑a : Int)) - slLo none) fun (j : Nat) => itG N S (0 + slLo none + j)).len + (Src.gen (slHi (n + 1) none - slLo (some (IntKind.i64.wrap ((↑a : Int) + 1)))) fun (j : Nat) => itG N S (0 + slLo (some (IntKind.i64.wrap ((↑a : Int) + 1))) + j)).len) : Int))).ble j && j.blt (0 + slLo (some (↑((Src.gen (slHi (n + 1) (some (↑a : Int)) - slLo none) fun (j : Nat) => itG N S (0 + slLo none + j)).len + (Src.gen (slHi (n + 1) none - slLo (some (IntKind.i64.wrap ((↑a : Int) + 1)))) fun (j : Nat) => itG N S (0 + slLo (some (IntKind.i64.wrap ((↑a : Int) + 1))) + j)).len) : Int)) + (slHi ((Src.gen (slHi (n + 1) (some (↑a : Int)) - 0) fun (j : Nat) => itG N S (0 + j)).len + (Src.gen (slHi (n + 1) none - slLo (some (IntKind.i64.wrap ((↑a : Int) + 1)))) fun (j : Nat) => itG N S (0 + slLo (some (IntKind.i64.wrap ((↑a : Int) + 1))) + j)).len) (some (↑(n + 1) : Int)) - slLo (some (↑((Src.gen (slHi (n + 1) (some (↑a : Int)) - slLo none) fun (j : Nat) => itG N S (0 + slLo none + j)).len + (Src.gen (slHi (n + 1) none - slLo (some (IntKind.i64.wrap ((↑a : Int) + 1)))) fun (j : Nat) => itG N S (0 + slLo (some (IntKind.i64.wrap ((↑a : Int) + 1))) + j)).len) : Int))))) then (Src.lst (List.replicate (slHi ((Src.gen (slHi (n + 1) (some (↑a : Int)) - 0) fun (j : Nat) => itG N S (0 + j)).len + (Src.gen (slHi (n + 1) none - slLo (some (IntKind.i64.wrap ((↑a : Int) + 1)))) fun (j : Nat) => itG N S (0 + slLo (some (IntKind.i64.wrap ((↑a : Int) + 1))) + j)).len) (some (↑(n + 1) : Int)) - slLo (some (↑((Src.gen (slHi (n + 1) (some (↑a : Int)) - slLo none) fun (j : Nat) => itG N S (0 + slLo none + j)).len + (Src.gen (slHi (n + 1) none - slLo (some (IntKind.i64.wrap ((↑a : Int) + 1)))) fun (j : Nat) => itG N S (0 + slLo (some (IntKind.i64.wrap ((↑a : Int) + 1))) + j)).len) : Int))) (AV.agg [AV.int IntKind.i64 0, AV.str []]))).at_ (j - (0 + slLo (some (↑((Src.gen (slHi (n + 1) (some (↑a : Int)) - slLo none) fun (j : Nat) => itG N S (0 + slLo none + j)).len + (Src.gen (slHi (n + 1) none - slLo (some (IntKind.i64.wrap ((↑a : Int) + 1)))) fun (j : Nat) => itG N S (0 + slLo (some (IntKind.i64.wrap ((↑a : Int) + 1))) + j)).len) : Int)))) else bif j.blt (Src.gen (slHi (n + 1) (some (↑a : Int)) - 0) fun (j : Nat) => itG N S (0 + j)).len then AV.agg [AV.int IntKind.i64 (N (0 + j)), AV.str (S (0 + j))] else AV.agg [AV.int IntKind.i64 (N (0 + slLo (some (IntKind.i64.wrap ((↑a : Int) + 1))) + (j - (Src.gen (slHi (n + 1) (some (↑a : Int)) - 0) fun (j : Nat) => itG N S (0 + j)).len))), AV.str (S (0 + slLo (some (IntKind.i64.wrap ((↑a : Int) + 1))) + (j - (Src.gen (slHi (n + 1) (some (↑a : Int)) - 0) fun (j : Nat) => itG N S (0 + j)).len)))])] F else False else False else False else False else False else False) := by kernel_rfl
theorem vc23 (R : Nat → RoRow) (n : Nat) (N : Nat → Int) (S : Nat → List UInt8) (q : AV → Rows → Fz → Prop) (F : Fz)(i a : Int) (s : List UInt8) : vcx (env53 R) 1000 23 fi23 [.ptr false 0 0 0, .int .i64 i, .agg [.int .i64 a, .str s]] [some (stk 1 n), some (.gen 29 2 n (itG N S))] q F = (bif decide (i < 0) then q (AV.bool false) [some (Row.lst 26 1 [AV.agg [AV.sl false 1 0 n Cp.no]]), some (Row.gen 29 2 n fun (j : Nat) => itm (N j) (S j)), some (Row.lst 29 2 [AV.agg [AV.int IntKind.i64 a, AV.str s]])] F else bif decide (i > (↑n : Int)) then q (AV.bool false) [some (Row.lst 26 1 [AV.agg [AV.sl false 1 0 n Cp.no]]), some (Row.gen 29 2 n fun (j : Nat) => itm (N j) (S j)), some (Row.lst 29 2 [AV.agg [AV.int IntKind.i64 a, AV.str s]])] F else AV.sl false 1 0 n Cp.no = AV.sl false 1 0 n Cp.no ∧ (n = n ∧ decide (0 ≤ i) = true ∧ decide (i ≤ (↑n : Int)) = true ∧ ((n + 1) * 24).le 140737488355328) ∧ ∀ (H : Nat → AV), (∀ (j : Nat), j.succ.le (n + 1) → H j = insF (itG N S) i.toNat (AV.agg [AV.int IntKind.i64 a, AV.str s]) j) → q (AV.bool true) [some (Row.lst 26 1 [AV.agg [AV.sl false 4 0 (n + 1) Cp.no]]), none, some (Row.lst 29 2 [AV.agg [AV.int IntKind.i64 a, AV.str s]]), some (Row.lst 29 2 [AV.agg [AV.int IntKind.i64 a, AV.str s]]), some (Row.gen 29 2 (n + 1) H)] F) := by kernel_rfl
theorem vc58 (R : Nat → RoRow) (n : Nat) (N : Nat → Int) (S : Nat → List UInt8) (q : AV → Rows → Fz → Prop) (F : Fz) : vcx (env53 R) 1000 58 fi58 [.sl false 1 0 (n + 1) .no] [some (stk 1 (n + 1)), some (.gen 29 2 (n + 1) (itG N S))] q F = (bif true && (decide (0 + (n + 1) ≤ n + 1) && (true && decide ((0 + (Src.gen (n + 1) fun (j : Nat) => itG N S (0 + j)).len) * 24 ≤ 140737488355328))) then q (AV.sl false 3 0 (0 + (Src.gen (n + 1) fun (j : Nat) => itG N S (0 + j)).len) Cp.no) [some (Row.lst 26 1 [AV.agg [AV.sl false 1 0 (n + 1) Cp.no]]), some (Row.gen 29 2 (n + 1) fun (j : Nat) => itm (N j) (S j)), some (Row.lst 29 2 []), some (Row.gen 29 2 (0 + (Src.gen (n + 1) fun (j : Nat) => itG N S (0 + j)).len) fun (j : Nat) => bif false then AV.any else AV.agg [AV.int IntKind.i64 (N (0 + (j - 0))), AV.str (S (0 + (j - 0)))])] F else False) := by kernel_rfl

theorem clone58 (base : Option Addr) (c : Nat) (w : World) : Calls Try.prog 58 #[.slice base 0 c] w fun e w' => ∃ ao, e = .returned (.slice ao 0 0) ∧ (w' = w ∨ w' = w.alloc (.cells #[] 29)) := by
  have hE : ∀ (a : Addr) w, (binOp .eql 24 (.slice (some a) 0 c) (.slice none 0 0)).run Try.prog w = .ok (.bool false) w := fun a w => Lib.run_eql_slice_nil w 24 29 (some a) 0 c 0 0 Try.underlying24
  have hE0 : ∀ w, (binOp .eql 24 (.slice none 0 c) (.slice none 0 0)).run Try.prog w = .ok (.bool true) w := fun w => Lib.run_eql_slice_nil w 24 29 none 0 c 0 0 Try.underlying24
  cases base with
  | none =>
    go_enter Try.func58, Try.ntmps58
    go_wp2
    all_goals (go_ret; exact ⟨_, rfl, .inl rfl⟩)
  | some a =>
    go_enter Try.func58, Try.ntmps58
    go_wp2
    all_goals (go_ret; exact ⟨_, rfl, .inr rfl⟩)
/-- What a function does to a stack alone: the stack, its items; what is new. -/
abbrev PureM := Nat → (Nat → Int) → (Nat → List UInt8) → List AV → (AV → Rows → Rows → Prop) → Prop
abbrev stR (n : Nat) (N : Nat → Int) (S : Nat → List UInt8) : Rows := [some (stk 1 n), some (.gen 29 2 n (itG N S))]
/-- What becomes of a row's numbers, for rows of a kind. -/
def rnA (g : Nat → Nat) : AV → AV
  | .sl false q i n c => .sl false (g q) i n c
  | v => v
def rnR (g : Nat → Nat) : Row → Row
  | .lst t z [.agg [.sl false q i n c]] => .lst t z [.agg [.sl false (g q) i n c]]
  | r => r
def NiceR (o : Option Row) : Prop := ∀ g, o.map (renRow g) = o.map (rnR g)
theorem nice_none : NiceR none := fun _ => rfl
theorem nice_stk (q n : Nat) : NiceR (some (stk q n)) := fun g => by simp [stk, renRow, ren, renL, rnR]
theorem nice_gen (t z n : Nat) (N : Nat → Int) (S : Nat → List UInt8) : NiceR (some (.gen t z n (itG N S))) := fun g => by
  show some (Row.gen t z n (fun i => ren g (itG N S i))) = some (Row.gen t z n (itG N S))
  have : (fun j => ren g (itG N S j)) = itG N S := by
    funext j
    simp [itG, itm, ren, renL]
  rw [this]
def NiceV (v : AV) : Prop := ∀ g, ren g v = rnA g v
theorem nice_sl (q n : Nat) : NiceV (.sl false q 0 n .no) := fun g => by simp [ren, rnA]
theorem nice_gnd {v : AV} (h : gnd v = true) : NiceV v := fun g => by
  rw [gnd_ren g v h]
  unfold rnA
  split
  · simp [gnd] at h
  · rfl
theorem nice_map {g : Nat → Nat} : ∀ {l : Rows}, (∀ o ∈ l, NiceR o) → l.map (Option.map (renRow g)) = l.map (Option.map (rnR g))
  | [], _ => rfl
  | o :: l, h => by rw [List.map_cons, List.map_cons, h o (by simp) g, nice_map (fun o ho => h o (by simp [ho]))]
def OutM (K : AV → Rows → Rows → Prop) (F : Fz) : AV → Rows → Fz → Prop := fun v h' F' => F' = F ∧ ∃ os tl, h' = os ++ tl ∧ os.length = 2 ∧ (∀ o ∈ os ++ tl, NiceR o) ∧ NiceV v ∧ K v os tl
def PureOK (fn : FuncId) (p : PureM) : Prop := ∀ (R : Nat → RoRow) n N S as_ K F, p n N S as_ K → SafeCallX Try.prog R fn (.ptr false 0 0 0 :: as_) (stR n N S) F (OutM K F) noP
theorem itG_ren (g : Nat → Nat) (N : Nat → Int) (S : Nat → List UInt8) : (fun j => ren g (itG N S j)) = itG N S := by
  funext j
  simp [itG, itm, ren, renL]
theorem ofIsI {G : Nat → AV} {n : Nat} (h : IsI G n) (j : Nat) (hj : j < n) : G j = itG (fun j => nodeOf (G j)) (fun j => nameOf (G j)) j := h j hj
theorem itG_isI (N : Nat → Int) (S : Nat → List UInt8) (n : Nat) : IsI (itG N S) n := fun _ _ => rfl
def specM (p : PureM) : CallSpecX := fun args h k F => match args with
  | .ptr false a 0 0 :: as_ => match h.live a with
    | some (.lst 26 1 [.agg [.sl false q 0 n _]]) => match h.live q with
      | some (.gen 29 2 m G) => (m = n ∧ IsI G n ∧ as_.all gnd = true) ∧ p n (fun j => nodeOf (G j)) (fun j => nameOf (G j)) as_ fun v os tl =>
          k (rnA (gP [a, q] h.length) v) (layAt h [a, q] (os.map (Option.map (rnR (gP [a, q] h.length)))) ++ ([none, none] ++ tl.map (Option.map (rnR (gP [a, q] h.length))))) F
      | _ => False
    | _ => False
  | _ => False
theorem gndL_vwL {f : Nat → Option Nat} {N : Nat} : ∀ {l : List AV}, l.all gnd = true → VwL f N l l
  | [], _ => VwL.nil
  | x :: l, h => by
    simp only [List.all_cons, Bool.and_eq_true] at h
    exact VwL.cons (gnd_vw _ _ _ h.1) (gndL_vwL h.2)

theorem stk_ren (g : Nat → Nat) (q n : Nat) : renRow g (stk q n) = stk (g q) n := by simp [stk, renRow, ren, renL]
theorem specM_ok {fn : FuncId} {p : PureM} (hp : PureOK fn p) (R : Nat → RoRow) : ∀ args h k F, specM p args h k F → SafeCallX Try.prog R fn args h F k noP := by
  intro args h k F hk
  unfold specM at hk
  split at hk
  · rename_i a as_
    split at hk
    · rename_i q n u ha
      split at hk
      · rename_i m G hq
        obtain ⟨⟨rfl, hG, hg⟩, hk⟩ := hk
        have haq : a ≠ q := by rintro rfl; rw [ha] at hq; cases hq
        have hl := live_lt ha
        have hl2 := live_lt hq
        refine (SafeCallX.atN (Q := fun v os tl F' => (F' = F ∧ (∀ o ∈ os ++ tl, NiceR o) ∧ NiceV v) ∧ k (rnA (gP [a, q] h.length) v) (layAt h [a, q] (os.map (Option.map (rnR (gP [a, q] h.length)))) ++ ([none, none] ++ tl.map (Option.map (rnR (gP [a, q] h.length))))) F) (HP := fun _ _ _ _ => False)
          (hL := stR m (fun j => nodeOf (G j)) (fun j => nameOf (G j))) (argsL := .ptr false 0 0 0 :: as_) [a, q] rfl (by simp [haq]) (by simp; exact ⟨hl, hl2⟩) ?_ ?_ ((hp R m _ _ as_ _ F hk).mono ?_ ?_)).mono ?_ ?_
        · intro c r hc
          match c, hc with
          | 0, hc => cases hc; exact ⟨a, _, rfl, ha, .lst1 rfl (Vw.aggI (VwL.cons (Vw.slE (by simp) rfl) VwL.nil))⟩
          | 1, hc => cases hc; exact ⟨q, _, rfl, hq, .gen rfl fun j hj => ⟨rfl, by rw [hG j hj]; exact gnd_vw _ _ _ rfl⟩⟩
          | c + 2, hc => simp [Rows.live] at hc
        · exact VwL.cons (Vw.ptrI (by simp) rfl) (gndL_vwL hg)
        · rintro v h' F' _ ⟨rfl, os, tl, rfl, ho, hn1, hn2, hK⟩
          exact ⟨os, tl, rfl, ho, ⟨rfl, hn1, hn2⟩, hK⟩
        · exact fun _ _ _ _ h => h.elim
        · rintro v h' F' _ ⟨v0, os, tl, rfl, rfl, ⟨rfl, hn1, hn2⟩, hK⟩
          rw [hn2, nice_map (l := os) (fun o ho => hn1 o (by simp [ho])), nice_map (l := tl) (fun o ho => hn1 o (by simp [ho]))]
          exact hK
        · rintro v h' F' _ ⟨v0, os, tl, rfl, rfl, h⟩
          exact h.elim
      · exact hk.elim
    · exact hk.elim
  · exact hk.elim
/-- A state behind a function, told so. -/
theorem toM {R : Nat → RoRow} {K : AV → Rows → Rows → Prop} {F : Fz} (os tl : Rows) (f : Nat → Option Nat) {v0 v : AV} {rows : Rows} (ho : os.length = 2) (hV : ViewS f (os ++ tl) rows) (hv : Vw f (os ++ tl).length v0 v) (hf : ∀ c, c < 2 → f c = some c) (hK : K v0 os tl)
    (hn1 : ∀ o ∈ os ++ tl, NiceR o := by
      intro o ho
      simp only [stR, List.cons_append, List.nil_append, List.append_nil, List.mem_cons, List.not_mem_nil, or_false] at ho
      rcases ho with rfl | rfl | rfl <;> first | exact nice_stk _ _ | exact nice_none | exact nice_gen _ _ _ _ _)
    (hn2 : NiceV v0 := by first | exact nice_sl _ _ | exact nice_gnd rfl) : ToV R 2 v rows F (OutM K F) :=
  ToV.fitS f hV hv hf (by simp [ho]) (ToV.here ⟨rfl, os, tl, rfl, ho, hn1, hn2, hK⟩)
theorem byM {fn : FuncId} {R : Nat → RoRow} {args : List AV} {F : Fz} {n : Nat} {N : Nat → Int} {S : Nat → List UInt8} {K : AV → Rows → Rows → Prop} (hs : SafeCallX Try.prog R fn args (stR n N S) F (fun v h' F' => F' = F ∧ ToV R 2 v h' F (OutM K F)) noP) : SafeCallX Try.prog R fn args (stR n N S) F (OutM K F) noP :=
  hs.post (fun v h' F' _ hq => by obtain ⟨rfl, h⟩ := hq; exact h) (fun _ _ _ _ h => h.elim)
theorem stk_vw {f : Nat → Option Nat} {N q q' n : Nat} {u : Cp} (hq : q < N) (hf : f q = some q') : RowS f N (stk q n) (.lst 26 1 [.agg [.sl false q' 0 n u]]) := (RowV.lst1 rfl (Vw.aggI (VwL.cons (Vw.slE hq hf) VwL.nil))).s
theorem itm_vw {f : Nat → Option Nat} {N : Nat} {a : Int} {s : List UInt8} : Vw f N (itm a s) (itm a s) := gnd_vw _ _ _ rfl
theorem itm_vwE {f : Nat → Option Nat} {N : Nat} {a b : Int} {s t : List UInt8} (h1 : a = b) (h2 : s = t) : Vw f N (itm a s) (itm b t) := by subst h1; subst h2; exact itm_vw
/-- One item more. -/
def pure11 : PureM := fun n N S as_ K => match as_ with
  | [.agg [.int .i64 a, .str s]] => n ≤ 1000 ∧ ∀ N' S', (∀ j, j < n → N' j = N j ∧ S' j = S j) → N' n = a → S' n = s → K (.tup []) [some (stk 2 (n + 1)), none] [some (.gen 29 2 (n + 1) (itG N' S'))]
  | _ => False
theorem pure11_ok : PureOK 11 pure11 := by
  intro R n N S as_ K F hp
  unfold pure11 at hp
  split at hp
  · rename_i a s
    obtain ⟨hn, hp⟩ := hp
    refine byM (byX (env53_ok R noP) (f := 11) (fi := fi11) (by kernel_rfl) 1000 (vc11 R n N S (fun v h' F' => F' = F ∧ ToV R 2 v h' F (OutM K F)) F a s) ⟨rfl, hcT (capOK (by omega)) ⟨rfl, ?_⟩⟩)
    refine toM [some (stk 2 (n + 1)), none] [some (.gen 29 2 (n + 1) (itG (fun j => bif j.blt n then N j else a) (fun j => bif j.blt n then S j else s)))] (fun c => match c with | 0 => some 0 | 1 => some 1 | 2 => some 4 | _ + 3 => none) rfl (ViewS.of ?_ ?_) (Vw.tupI VwL.nil) (fun c hc => by match c, hc with | 0, _ => rfl | 1, _ => rfl) (hp _ _ (fun j hj => by simp [blt_t hj]) ?_ ?_)
    · intro c o ho
      match c, ho with
      | 0, ho => cases ho; exact ViewT.at_ (b := 0) rfl rfl (stk_vw (q := 2) (by simp) rfl)
      | 1, ho => cases ho; exact ViewT.none
      | 2, ho =>
        cases ho
        refine ViewT.at_ (b := 4) rfl rfl (RowS.gen (Nat.le_refl _) fun j hj => ⟨rfl, ?_⟩)
        rcases Nat.lt_or_ge j n with h | h
        · simp only [itG, Src.len, blt_t h, cond_true, Nat.zero_add]; exact itm_vw
        · obtain rfl : j = n := by omega
          have hb : Nat.blt j j = false := by rw [Bool.eq_false_iff]; simp [Nat.blt_eq]
          simp only [itG, Src.len, hb, cond_false, Nat.sub_self]; exact itm_vw
      | c + 3, ho => simp at ho
    · exact inj_of (N := 3) (by decide)
    · have hb : Nat.blt n n = false := by rw [Bool.eq_false_iff]; simp [Nat.blt_eq]
      simp only [hb, cond_false]
    · have hb : Nat.blt n n = false := by rw [Bool.eq_false_iff]; simp [Nat.blt_eq]
      simp only [hb, cond_false]
  · exact hp.elim

end Go.Dc.Kb
end
section
set_option linter.unusedVariables false
set_option linter.unusedSimpArgs false
namespace Go.Dc.Kb
open Go.Proofs Go.RowKit
set_option maxRecDepth 100000

def spec58 : CallSpec := fun args h k => match args with
  | [.sl false q 0 0 _] => k (.sl false h.length 0 0 .no) (h ++ [some (.gen 29 2 0 (itG (fun _ => 0) (fun _ => [])))])
  | _ => False
theorem spec58_ok (R : Nat → RoRow) : ∀ args h k, spec58 args h k → SafeCall Try.prog R 58 args h k := by
  intro args h k hk
  unfold spec58 at hk
  split at hk
  · refine (SafeCall.cloneNil (z := 2) clone58 (itG (fun _ => 0) (fun _ => []))).mono ?_
    rintro v h' ⟨rfl, rfl⟩
    exact hk
  · exact hk.elim
noncomputable abbrev env58 (R : Nat → RoRow) : EnvX := (bx R).addCall 58 (liftC spec58)
theorem env58_ok (R : Nat → RoRow) (HP : AV → Rows → Fz → Prop) : OKX Try.prog (env58 R) [] HP := (bx_ok R [] HP).addCall (f := 58) (fi := fi58) (by kernel_rfl) (liftC_ok (spec58_ok R))
theorem vc22m (R : Nat → RoRow) (N : Nat → Int) (S : Nat → List UInt8) (q : AV → Rows → Fz → Prop) (F : Fz)(n : Nat) : vcx (env53 R) 1000 22 fi22 [.ptr false 0 0 0, .int .i64 (-1)] (stR n N S) q F = (q (AV.bool false) [some (Row.lst 26 1 [AV.agg [AV.sl false 1 0 n Cp.no]]), some (Row.gen 29 2 n fun (j : Nat) => itm (N j) (S j))] F) := by kernel_rfl
theorem vc22n (R : Nat → RoRow) (N : Nat → Int) (S : Nat → List UInt8) (q : AV → Rows → Fz → Prop) (F : Fz)(n a : Nat) : vcx (env53 R) 1000 22 fi22 [.ptr false 0 0 0, .int .i64 (Int.negSucc (a + 1))] (stR n N S) q F = (q (AV.bool false) [some (Row.lst 26 1 [AV.agg [AV.sl false 1 0 n Cp.no]]), some (Row.gen 29 2 n fun (j : Nat) => itm (N j) (S j))] F) := by kernel_rfl
theorem vc22z (R : Nat → RoRow) (N : Nat → Int) (S : Nat → List UInt8) (q : AV → Rows → Fz → Prop) (F : Fz)(a : Nat) : vcx (env53 R) 1000 22 fi22 [.ptr false 0 0 0, .int .i64 (a : Nat)] (stR 0 N S) q F = (q (AV.bool false) [some (Row.lst 26 1 [AV.agg [AV.sl false 1 0 0 Cp.no]]), some (Row.gen 29 2 0 fun (j : Nat) => itm (N j) (S j))] F) := by kernel_rfl
theorem vc22s (R : Nat → RoRow) (N : Nat → Int) (S : Nat → List UInt8) (q : AV → Rows → Fz → Prop) (F : Fz)(n a : Nat) : vcx (env53 R) 1000 22 fi22 [.ptr false 0 0 0, .int .i64 (a : Nat)] (stR (n + 1) N S) q F = (bif decide ((↑a : Int) ≥ (↑(n + 1) : Int)) then q (AV.bool false) [some (Row.lst 26 1 [AV.agg [AV.sl false 1 0 (n + 1) Cp.no]]), some (Row.gen 29 2 (n + 1) fun (j : Nat) => itm (N j) (S j))] F else bif slCond3 (↑a : Int) (IntKind.i64.wrap ((↑a : Int) + 1)) (↑(n + 1) : Int) (↑(cpEnd Cp.no (n + 1)) : Int) then bif (↑a : Int) == IntKind.i64.wrap ((↑a : Int) + 1) then q (AV.bool true) [some (Row.lst 26 1 [AV.agg [AV.sl false 1 0 (n + 1) Cp.no]]), some (Row.gen 29 2 (n + 1) fun (j : Nat) => itm (N j) (S j))] F else bif slCondE none (some (↑a : Int)) (n + 1) (cpEnd Cp.no (n + 1)) then bif slCondE (some (IntKind.i64.wrap ((↑a : Int) + 1))) none (n + 1) (cpEnd Cp.no (n + 1)) then bif decide (0 + (slHi (n + 1) (some (↑a : Int)) - 0) ≤ n + 1) && (decide (0 + slLo (some (IntKind.i64.wrap ((↑a : Int) + 1))) + (slHi (n + 1) none - slLo (some (IntKind.i64.wrap ((↑a : Int) + 1)))) ≤ n + 1) && (true && decide (((Src.gen (slHi (n + 1) (some (↑a : Int)) - 0) fun (j : Nat) => itG N S (0 + j)).len + (Src.gen (slHi (n + 1) none - slLo (some (IntKind.i64.wrap ((↑a : Int) + 1)))) fun (j : Nat) => itG N S (0 + slLo (some (IntKind.i64.wrap ((↑a : Int) + 1))) + j)).len) * 24 ≤ 140737488355328))) then bif slCondE (some (↑((Src.gen (slHi (n + 1) (some (↑a : Int)) - slLo none) fun (j : Nat) => itG N S (0 + slLo none + j)).len + (Src.gen (slHi (n + 1) none - slLo (some (IntKind.i64.wrap ((↑a : Int) + 1)))) fun (j : Nat) => itG N S (0 + slLo (some (IntKind.i64.wrap ((↑a : Int) + 1))) + j)).len) : Int)) (some (↑(n + 1) : Int)) ((Src.gen (slHi (n + 1) (some (↑a : Int)) - 0) fun (j : Nat) => itG N S (0 + j)).len + (Src.gen (slHi (n + 1) none - slLo (some (IntKind.i64.wrap ((↑a : Int) + 1)))) fun (j : Nat) => itG N S (0 + slLo (some (IntKind.i64.wrap ((↑a : Int) + 1))) + j)).len) (cpEnd (appCp (AV.sl false 1 (0 + slLo none) (slHi (n + 1) (some (↑a : Int)) - slLo none) (slCp Cp.no (n + 1) (some (↑a : Int)))) (Src.gen (slHi (n + 1) none - slLo (some (IntKind.i64.wrap ((↑a : Int) + 1)))) fun (j : Nat) => itG N S (0 + slLo (some (IntKind.i64.wrap ((↑a : Int) + 1))) + j)).len) ((Src.gen (slHi (n + 1) (some (↑a : Int)) - 0) fun (j : Nat) => itG N S (0 + j)).len + (Src.gen (slHi (n + 1) none - slLo (some (IntKind.i64.wrap ((↑a : Int) + 1)))) fun (j : Nat) => itG N S (0 + slLo (some (IntKind.i64.wrap ((↑a : Int) + 1))) + j)).len)) then bif (0 + slLo (some (↑((Src.gen (slHi (n + 1) (some (↑a : Int)) - slLo none) fun (j : Nat) => itG N S (0 + slLo none + j)).len + (Src.gen (slHi (n + 1) none - slLo (some (IntKind.i64.wrap ((↑a : Int) + 1)))) fun (j : Nat) => itG N S (0 + slLo (some (IntKind.i64.wrap ((↑a : Int) + 1))) + j)).len) : Int)) + (slHi ((Src.gen (slHi (n + 1) (some (↑a : Int)) - 0) fun (j : Nat) => itG N S (0 + j)).len + (Src.gen (slHi (n + 1) none - slLo (some (IntKind.i64.wrap ((↑a : Int) + 1)))) fun (j : Nat) => itG N S (0 + slLo (some (IntKind.i64.wrap ((↑a : Int) + 1))) + j)).len) (some (↑(n + 1) : Int)) - slLo (some (↑((Src.gen (slHi (n + 1) (some (↑a : Int)) - slLo none) fun (j : Nat) => itG N S (0 + slLo none + j)).len + (Src.gen (slHi (n + 1) none - slLo (some (IntKind.i64.wrap ((↑a : Int) + 1)))) fun (j : Nat) => itG N S (0 + slLo (some (IntKind.i64.wrap ((↑a : Int) + 1))) + j)).len) : Int)))).ble (Row.gen 29 (29, TI.mk (Kd.struct [(3, 0, 1), (9, 1, 1)]) 2 24 (AV.agg [AV.int IntKind.i64 0, AV.str []]) true).snd.size ((Src.gen (slHi (n + 1) (some (↑a : Int)) - slLo none) fun (j : Nat) => itG N S (0 + slLo none + j)).len + (Src.gen (slHi (n + 1) none - slLo (some (IntKind.i64.wrap ((↑a : Int) + 1)))) fun (j : Nat) => itG N S (0 + slLo (some (IntKind.i64.wrap ((↑a : Int) + 1))) + j)).len) fun (j : Nat) => bif j.blt (Src.gen (slHi (n + 1) (some (↑a : Int)) - slLo none) fun (j : Nat) => itG N S (0 + slLo none + j)).len then (Src.gen (slHi (n + 1) (some (↑a : Int)) - slLo none) fun (j : Nat) => itG N S (0 + slLo none + j)).at_ j else (Src.gen (slHi (n + 1) none - slLo (some (IntKind.i64.wrap ((↑a : Int) + 1)))) fun (j : Nat) => itG N S (0 + slLo (some (IntKind.i64.wrap ((↑a : Int) + 1))) + j)).at_ (j - (Src.gen (slHi (n + 1) (some (↑a : Int)) - slLo none) fun (j : Nat) => itG N S (0 + slLo none + j)).len)).len || decide ((Row.gen 29 (29, TI.mk (Kd.struct [(3, 0, 1), (9, 1, 1)]) 2 24 (AV.agg [AV.int IntKind.i64 0, AV.str []]) true).snd.size ((Src.gen (slHi (n + 1) (some (↑a : Int)) - slLo none) fun (j : Nat) => itG N S (0 + slLo none + j)).len + (Src.gen (slHi (n + 1) none - slLo (some (IntKind.i64.wrap ((↑a : Int) + 1)))) fun (j : Nat) => itG N S (0 + slLo (some (IntKind.i64.wrap ((↑a : Int) + 1))) + j)).len) fun (j : Nat) => bif j.blt (Src.gen (slHi (n + 1) (some (↑a : Int)) - slLo none) fun (j : Nat) => itG N S (0 + slLo none + j)).len then (Src.gen (slHi (n + 1) (some (↑a : Int)) - slLo none) fun (j : Nat) => itG N S (0 + slLo none + j)).at_ j else (Src.gen (slHi (n + 1) none - slLo (some (IntKind.i64.wrap ((↑a : Int) + 1)))) fun (j : Nat) => itG N S (0 + slLo (some (IntKind.i64.wrap ((↑a : Int) + 1))) + j)).at_ (j - (Src.gen (slHi (n + 1) (some (↑a : Int)) - slLo none) fun (j : Nat) => itG N S (0 + slLo none + j)).len)).len ≤ 0 + slLo (some (↑((Src.gen (slHi (n + 1) (some (↑a : Int)) - slLo none) fun (j : Nat) => itG N S (0 + slLo none + j)).len + (Src.gen (slHi (n + 1) none - slLo (some (IntKind.i64.wrap ((↑a : Int) + 1)))) fun (j : Nat) => itG N S (0 + slLo (some (IntKind.i64.wrap ((↑a : Int) + 1))) + j)).len) : Int))) then q (AV.bool true) [some (Row.lst 26 1 [AV.agg [AV.sl false 2 0 ((Src.gen (slHi (n + 1) (some (↑a : Int)) - 0) fun (j : Nat) => itG N S (0 + j)).len + (Src.gen (slHi (n + 1) none - slLo (some (IntKind.i64.wrap ((↑a : Int) + 1)))) fun (j : Nat) => itG N S (0 + slLo (some (IntKind.i64.wrap ((↑a : Int) + 1))) + j)).len) (Cp.room (n + 1 - (↑a : Int).toNat - (Src.gen (slHi (n + 1) none - slLo (some (IntKind.i64.wrap ((↑a : Int) + 1)))) fun (j : Nat) => itG N S (0 + slLo (some (IntKind.i64.wrap ((↑a : Int) + 1))) + j)).len))]]), none, some (Row.gen 29 2 ((Src.gen (slHi (n + 1) (some (↑a : Int)) - 0) fun (j : Nat) => itG N S (0 + j)).len + (Src.gen (slHi (n + 1) none - slLo (some (IntKind.i64.wrap ((↑a : Int) + 1)))) fun (j : Nat) => itG N S (0 + slLo (some (IntKind.i64.wrap ((↑a : Int) + 1))) + j)).len) fun (j : Nat) => bif (0 + slLo (some (↑((Src.gen (slHi (n + 1) (some (↑a : Int)) - slLo none) fun (j : Nat) => itG N S (0 + slLo none + j)).len + (Src.gen (slHi (n + 1) none - slLo (some (IntKind.i64.wrap ((↑a : Int) + 1)))) fun (j : Nat) => itG N S (0 + slLo (some (IntKind.i64.wrap ((↑a : Int) + 1))) + j)).len) : Int)) + (slHi ((Src.gen (slHi (n + 1) (some (↑a : Int)) - 0) fun (j : Nat) => itG N S (0 + j)).len + (Src.gen (slHi (n + 1) none - slLo (some (IntKind.i64.wrap ((↑a : Int) + 1)))) fun (j : Nat) => itG N S (0 + slLo (some (IntKind.i64.wrap ((↑a : Int) + 1))) + j)).len) (some (↑(n + 1) : Int)) - slLo (some (↑((Src.gen (slHi (n + 1) (some (↑a : Int)) - slLo none) fun (j : Nat) => itG N S (0 + slLo none + j)).len + (Src.gen (slHi (n + 1) none - slLo (some (IntKind.i64.wrap ((↑a : Int) + 1)))) fun (j : Nat) => itG N S (0 + slLo (some (IntKind.i64.wrap ((↑a : Int) + 1))) + j)).len) : Int)))).ble ((Src.gen (slHi (n + 1) (some (↑a : Int)) - 0) fun (j : Nat) => itG N S (0 + j)).len + (Src.gen (slHi (n + 1) none - slLo (some (IntKind.i64.wrap ((↑a : Int) + 1)))) fun (j : Nat) => itG N S (0 + slLo (some (IntKind.i64.wrap ((↑a : Int) + 1))) + j)).len) && ((0 + slLo (some (↑((Src.gen (slHi (n + 1) (some (↑a : Int)) - slLo none) fun (j : Nat) => itG N S (0 + slLo none + j)).len + (Src.gen (slHi (n + 1) none - slLo (some (IntKind.i64.wrap ((↑a : Int) + 1)))) fun (j : Nat) => itG N S (0 + slLo (some (IntKind.i64.wrap ((↑a : Int) + 1))) + j)).len) : Int))).ble j && j.blt (0 + slLo (some (↑((Src.gen (slHi (n + 1) (some (↑a : Int)) - slLo none) fun (j : Nat) => itG N S (0 + slLo none + j)).len + (Src.gen (slHi (n + 1) none - slLo (some (IntKind.i64.wrap ((↑a : Int) + 1)))) fun (j : Nat) => itG N S (0 + slLo (some (IntKind.i64.wrap ((↑a : Int) + 1))) + j)).len) : Int)) + (slHi ((Src.gen (slHi (n + 1) (some (↑a : Int)) - 0) fun (j : Nat) => itG N S (0 + j)).len + (Src.gen (slHi (n + 1) none - slLo (some (IntKind.i64.wrap ((↑a : Int) + 1)))) fun (j : Nat) => itG N S (0 + slLo (some (IntKind.i64.wrap ((↑a : Int) + 1))) + j)).len) (some (↑(n + 1) : Int)) - slLo (some (↑((Src.gen (slHi (n + 1) (some (↑a : Int)) - slLo none) fun (j : Nat) => itG N S (0 + slLo none + j)).len + (Src.gen (slHi (n + 1) none - slLo (some (IntKind.i64.wrap ((↑a : Int) + 1)))) fun (j : Nat) => itG N S (0 + slLo (some (IntKind.i64.wrap ((↑a : Int) + 1))) + j)).len) : Int))))) then (Src.lst (List.replicate (slHi ((Src.gen (slHi (n + 1) (some (↑a : Int)) - 0) fun (j : Nat) => itG N S (0 + j)).len + (Src.gen (slHi (n + 1) none - slLo (some (IntKind.i64.wrap ((↑a : Int) + 1)))) fun (j : Nat) => itG N S (0 + slLo (some (IntKind.i64.wrap ((↑a : Int) + 1))) + j)).len) (some (↑(n + 1) : Int)) - slLo (some (↑((Src.gen (slHi (n + 1) (some (↑a : Int)) - slLo none) fun (j : Nat) => itG N S (0 + slLo none + j)).len + (Src.gen (slHi (n + 1) none - slLo (some (IntKind.i64.wrap ((↑a : Int) + 1)))) fun (j : Nat) => itG N S (0 + slLo (some (IntKind.i64.wrap ((↑a : Int) + 1))) + j)).len) : Int))) (AV.agg [AV.int IntKind.i64 0, AV.str []]))).at_ (j - (0 + slLo (some (↑((Src.gen (slHi (n + 1) (some (↑a : Int)) - slLo none) fun (j : Nat) => itG N S (0 + slLo none + j)).len + (Src.gen (slHi (n + 1) none - slLo (some (IntKind.i64.wrap ((↑a : Int) + 1)))) fun (j : Nat) => itG N S (0 + slLo (some (IntKind.i64.wrap ((↑a : Int) + 1))) + j)).len) : Int)))) else bif j.blt (Src.gen (slHi (n + 1) (some (↑a : Int)) - 0) fun (j : Nat) => itG N S (0 + j)).len then AV.agg [AV.int IntKind.i64 (N (0 + j)), AV.str (S (0 + j))] else AV.agg [AV.int IntKind.i64 (N (0 + slLo (some (IntKind.i64.wrap ((↑a : Int) + 1))) + (j - (Src.gen (slHi (n + 1) (some (↑a : Int)) - 0) fun (j : Nat) => itG N S (0 + j)).len))), AV.str (S (0 + slLo (some (IntKind.i64.wrap ((↑a : Int) + 1))) + (j - (Src.gen (slHi (n + 1) (some (↑a : Int)) - 0) fun (j : Nat) => itG N S (0 + j)).len)))])] F else False else False else False else False else False else False) := by kernel_rfl
theorem vc31z (R : Nat → RoRow) (N : Nat → Int) (S : Nat → List UInt8) (q : AV → Rows → Fz → Prop) (F : Fz) : vcx (env58 R) 1000 31 fi31 [.ptr false 0 0 0] (stR 0 N S) q F = (q (AV.sl false 2 0 0 Cp.no) [some (Row.lst 26 1 [AV.agg [AV.sl false 1 0 0 Cp.no]]), some (Row.gen 29 2 0 fun (j : Nat) => itm (N j) (S j)), some (Row.gen 29 2 0 fun (j : Nat) => itm 0 [])] F) := by kernel_rfl
theorem vc31s (R : Nat → RoRow) (N : Nat → Int) (S : Nat → List UInt8) (q : AV → Rows → Fz → Prop) (F : Fz)(n : Nat) : vcx (env53 R) 1000 31 fi31 [.ptr false 0 0 0] (stR (n + 1) N S) q F = (bif true && (decide (0 + (n + 1) ≤ n + 1) && (true && decide ((0 + (Src.gen (n + 1) fun (j : Nat) => itG N S (0 + j)).len) * 24 ≤ 140737488355328))) then q (AV.sl false 3 0 (0 + (Src.gen (n + 1) fun (j : Nat) => itG N S (0 + j)).len) Cp.no) [some (Row.lst 26 1 [AV.agg [AV.sl false 1 0 (n + 1) Cp.no]]), some (Row.gen 29 2 (n + 1) fun (j : Nat) => itm (N j) (S j)), some (Row.lst 29 2 []), some (Row.gen 29 2 (0 + (Src.gen (n + 1) fun (j : Nat) => itG N S (0 + j)).len) fun (j : Nat) => bif false then AV.any else AV.agg [AV.int IntKind.i64 (N (0 + (j - 0))), AV.str (S (0 + (j - 0)))])] F else False) := by kernel_rfl

theorem idV2 {n : Nat} {N : Nat → Int} {S : Nat → List UInt8} {tl : Rows} {u : Cp} : ViewS some (stR n N S ++ []) (some (Row.lst 26 1 [AV.agg [AV.sl false 1 0 n u]]) :: some (Row.gen 29 2 n (itG N S)) :: tl) := by
  refine ViewS.of ?_ (inj_of (N := 2) (f := some) (by decide))
  intro c o ho
  match c, ho with
  | 0, ho => cases ho; exact ViewT.at_ (b := 0) rfl rfl (stk_vw (q := 1) (by simp) rfl)
  | 1, ho => cases ho; exact ViewT.at_ (b := 1) rfl rfl (RowS.gen (Nat.le_refl _) fun j hj => ⟨rfl, itm_vw⟩)
  | c + 2, ho => simp at ho
/-- The stack as it was. -/
theorem toSame {R : Nat → RoRow} {K : AV → Rows → Rows → Prop} {F : Fz} {n : Nat} {N : Nat → Int} {S : Nat → List UInt8} {tl : Rows} {u : Cp} {v : AV} (hv : gnd v = true) (hK : K v (stR n N S) []) :
    ToV R 2 v (some (Row.lst 26 1 [AV.agg [AV.sl false 1 0 n u]]) :: some (Row.gen 29 2 n (itG N S)) :: tl) F (OutM K F) :=
  toM (stR n N S) [] some rfl idV2 (gnd_vw _ _ _ hv) (fun _ _ => rfl) hK (by intro o ho; simp only [stR, List.cons_append, List.nil_append, List.append_nil, List.mem_cons, List.not_mem_nil, or_false] at ho; rcases ho with rfl | rfl <;> first | exact nice_stk _ _ | exact nice_gen _ _ _ _ _) (nice_gnd hv)
def pure20 : PureM := fun n N S as_ K => match as_ with
  | [] => n ≤ 1000 ∧ (n = 0 → K (.tup [itm 0 [], .bool false]) (stR n N S) []) ∧ (∀ m, n = m + 1 → K (.tup [itm (N m) (S m), .bool true]) (stR n N S) [])
  | _ => False
theorem pure20_ok : PureOK 20 pure20 := by
  intro R n N S as_ K F hp
  unfold pure20 at hp
  split at hp
  · obtain ⟨hn, h0, h1⟩ := hp
    refine byM (byX (env53_ok R noP) (f := 20) (fi := fi20) (by kernel_rfl) 1000 (vc20 R n N S (fun v h' F' => F' = F ∧ ToV R 2 v h' F (OutM K F)) F) ?_)
    cases n with
    | zero => exact hcT rfl ⟨rfl, toSame rfl (h0 rfl)⟩
    | succ m =>
      have ew := wrapPred m (by omega)
      refine hcF (by simp; omega) ?_
      rw [ew]
      refine hcT (by rw [Bool.and_eq_true]; exact ⟨decide_eq_true (Int.natCast_nonneg m), decide_eq_true (by omega)⟩) (hcT (dlt (Nat.lt_succ_self m)) ⟨rfl, ?_⟩)
      have e1 : (0 + (m : Int).toNat) = m := by simp
      rw [e1]
      exact toSame rfl (h1 m rfl)
  · exact hp.elim
def pure21 : PureM := fun n N S as_ K => match as_ with
  | [] => n ≤ 1000 ∧ (n = 0 → K (.tup [itm 0 [], .bool false]) (stR n N S) []) ∧ (∀ m, n = m + 1 → K (.tup [itm (N m) (S m), .bool true]) (stR m N S) [])
  | _ => False
/-- The stack, cut shorter. -/
theorem toShort {R : Nat → RoRow} {K : AV → Rows → Rows → Prop} {F : Fz} {n m k : Nat} {N : Nat → Int} {S : Nat → List UInt8} {tl : Rows} {u : Cp} {v : AV} (hm : m = k) (hmn : m ≤ n) (hv : gnd v = true) (hK : K v (stR m N S) []) :
    ToV R 2 v (some (Row.lst 26 1 [AV.agg [AV.sl false 1 0 k u]]) :: some (Row.gen 29 2 n (itG N S)) :: tl) F (OutM K F) := by
  subst hm
  refine toM (stR m N S) [] some rfl (ViewS.of ?_ (inj_of (N := 2) (f := some) (by decide))) (gnd_vw _ _ _ hv) (fun _ _ => rfl) hK (by intro o ho; simp only [stR, List.cons_append, List.nil_append, List.append_nil, List.mem_cons, List.not_mem_nil, or_false] at ho; rcases ho with rfl | rfl <;> first | exact nice_stk _ _ | exact nice_gen _ _ _ _ _) (nice_gnd hv)
  intro c o ho
  match c, ho with
  | 0, ho => cases ho; exact ViewT.at_ (b := 0) rfl rfl (stk_vw (q := 1) (by simp) rfl)
  | 1, ho => cases ho; exact ViewT.at_ (b := 1) rfl rfl (RowS.gen hmn fun j hj => ⟨rfl, itm_vw⟩)
  | c + 2, ho => simp at ho
theorem pure21_ok : PureOK 21 pure21 := by
  intro R n N S as_ K F hp
  unfold pure21 at hp
  split at hp
  · obtain ⟨hn, h0, h1⟩ := hp
    refine byM (byX (env53_ok R noP) (f := 21) (fi := fi21) (by kernel_rfl) 1000 (vc21 R n N S (fun v h' F' => F' = F ∧ ToV R 2 v h' F (OutM K F)) F) ?_)
    cases n with
    | zero => exact hcT rfl ⟨rfl, toSame rfl (h0 rfl)⟩
    | succ m =>
      have ew := wrapPred m (by omega)
      refine hcF (by simp; omega) ?_
      rw [ew]
      refine hcT (by rw [Bool.and_eq_true]; exact ⟨decide_eq_true (Int.natCast_nonneg m), decide_eq_true (by omega)⟩) (hcT (dlt (Nat.lt_succ_self m)) (hcT ?_ ⟨rfl, ?_⟩))
      · show (decide (0 ≤ (m : Int)) && decide ((m : Int) ≤ ((m + 1 : Nat) : Int))) = true
        rw [Bool.and_eq_true]
        exact ⟨decide_eq_true (Int.natCast_nonneg m), decide_eq_true (by omega)⟩
      have e1 : (0 + (m : Int).toNat) = m := by simp
      rw [e1]
      exact toShort (by simp [slHi]) (Nat.le_succ m) rfl (h1 m rfl)
  · exact hp.elim
def insN {α : Type} (F : Nat → α) (i : Nat) (x : α) : Nat → α := fun j => if j < i then F j else if j = i then x else F (j - 1)
theorem insF_itG (N : Nat → Int) (S : Nat → List UInt8) (i : Nat) (a : Int) (s : List UInt8) (j : Nat) : insF (itG N S) i (itm a s) j = itm (insN N i a j) (insN S i s j) := by
  unfold insN
  rcases Nat.lt_trichotomy j i with h | rfl | h
  · rw [insF_lt h, if_pos h, if_pos h]; rfl
  · rw [insF_eq, if_neg (Nat.lt_irrefl _), if_pos rfl, if_neg (Nat.lt_irrefl _), if_pos rfl]
  · rw [insF_gt h, if_neg (by omega), if_neg (by omega), if_neg (by omega), if_neg (by omega)]; rfl
def pure23 : PureM := fun n N S as_ K => match as_ with
  | [.int .i64 i, .agg [.int .i64 a, .str s]] => n ≤ 1000 ∧ (i < 0 ∨ (n : Int) < i → K (.bool false) (stR n N S) []) ∧ (0 ≤ i ∧ i ≤ (n : Int) → ∀ N' S', (∀ j, j < n + 1 → N' j = insN N i.toNat a j ∧ S' j = insN S i.toNat s j) → K (.bool true) [some (stk 2 (n + 1)), none] [some (.gen 29 2 (n + 1) (itG N' S'))])
  | _ => False
theorem pure23_ok : PureOK 23 pure23 := by
  intro R n N S as_ K F hp
  unfold pure23 at hp
  split at hp
  · rename_i i a s
    obtain ⟨hn, h0, h1⟩ := hp
    refine byM (byX (env53_ok R noP) (f := 23) (fi := fi23) (by kernel_rfl) 1000 (vc23 R n N S (fun v h' F' => F' = F ∧ ToV R 2 v h' F (OutM K F)) F i a s) ?_)
    refine hcB (fun hd => ?_) (fun hd => ?_)
    · exact ⟨rfl, toSame rfl (h0 (.inl (by simpa using hd)))⟩
    · refine hcB (fun hd2 => ?_) (fun hd2 => ?_)
      · exact ⟨rfl, toSame rfl (h0 (.inr (by simpa using hd2)))⟩
      · have hd : ¬ i < 0 := by simpa using hd
        have hd2 : ¬ i > (n : Int) := by simpa using hd2
        refine ⟨rfl, ⟨rfl, decide_eq_true (by omega), decide_eq_true (by omega), (show (n + 1) * 24 ≤ 140737488355328 from by omega)⟩, fun H hH => ⟨rfl, ?_⟩⟩
        refine toM [some (stk 2 (n + 1)), none] [some (.gen 29 2 (n + 1) (itG (insN N i.toNat a) (insN S i.toNat s)))] (fun c => match c with | 0 => some 0 | 1 => some 1 | 2 => some 4 | _ + 3 => none) rfl (ViewS.of ?_ (inj_of (N := 3) (by decide))) (Vw.boolI) (fun c hc => by match c, hc with | 0, _ => rfl | 1, _ => rfl) (h1 ⟨by omega, by omega⟩ _ _ (fun j hj => ⟨rfl, rfl⟩))
        intro c o ho
        match c, ho with
        | 0, ho => cases ho; exact ViewT.at_ (b := 0) rfl rfl (stk_vw (q := 2) (by simp) rfl)
        | 1, ho => cases ho; exact ViewT.none
        | 2, ho =>
          cases ho
          refine ViewT.at_ (b := 4) rfl rfl (RowS.gen (Nat.le_refl _) fun j hj => ⟨rfl, ?_⟩)
          rw [hH j hj]
          have := insF_itG N S i.toNat a s j
          unfold itm at this
          rw [this]
          exact itm_vw
        | c + 3, ho => simp at ho
  · exact hp.elim
def pure31 : PureM := fun n N S as_ K => match as_ with
  | [] => n ≤ 1000 ∧ K (.sl false 2 0 n .no) (stR n N S) [some (.gen 29 2 n (itG N S))]
  | _ => False
theorem toCopy {R : Nat → RoRow} {K : AV → Rows → Rows → Prop} {F : Fz} {n k d : Nat} {N : Nat → Int} {S : Nat → List UInt8} {rows : Rows} {G : Nat → AV} (hk : k = n) (h0 : rows.live 0 = some (.lst 26 1 [.agg [.sl false 1 0 n .no]])) (h1 : rows.live 1 = some (.gen 29 2 n (itG N S))) (hd : 2 ≤ d) (h2 : rows.live d = some (.gen 29 2 k G)) (hG : ∀ j, j < n → G j = itG N S j)
    (hK : K (.sl false 2 0 n .no) (stR n N S) [some (.gen 29 2 n (itG N S))]) : ToV R 2 (.sl false d 0 k .no) rows F (OutM K F) := by
  subst hk
  refine toM (stR k N S) [some (.gen 29 2 k (itG N S))] (fun c => match c with | 0 => some 0 | 1 => some 1 | 2 => some d | _ + 3 => none) rfl (ViewS.of ?_ ?_) (Vw.slI (by simp) rfl) (fun c hc => by match c, hc with | 0, _ => rfl | 1, _ => rfl) hK
  · intro c o ho
    match c, ho with
    | 0, ho => cases ho; exact ViewT.at_ (b := 0) rfl h0 (stk_vw (q := 1) (by simp) rfl)
    | 1, ho => cases ho; exact ViewT.at_ (b := 1) rfl h1 (RowS.gen (Nat.le_refl _) fun j hj => ⟨rfl, itm_vw⟩)
    | 2, ho => cases ho; exact ViewT.at_ (b := d) rfl h2 (RowS.gen (Nat.le_refl _) fun j hj => ⟨rfl, by rw [hG j hj]; exact itm_vw⟩)
    | c + 3, ho => simp at ho
  · intro c c' b hc hc' e1 e2
    simp at hc hc'
    match c, c', hc, hc' with
    | 0, 0, _, _ => rfl
    | 1, 1, _, _ => rfl
    | 2, 2, _, _ => rfl
    | 0, 1, _, _ => cases e1; cases e2
    | 1, 0, _, _ => cases e1; cases e2
    | 0, 2, _, _ => cases e1; cases e2; omega
    | 1, 2, _, _ => cases e1; cases e2; omega
    | 2, 0, _, _ => cases e1; cases e2; omega
    | 2, 1, _, _ => cases e1; cases e2; omega
theorem pure31_ok : PureOK 31 pure31 := by
  intro R n N S as_ K F hp
  unfold pure31 at hp
  split at hp
  · obtain ⟨hn, hK⟩ := hp
    cases n with
    | zero =>
      refine byM (byX (env58_ok R noP) (f := 31) (fi := fi31) (by kernel_rfl) 1000 (vc31z R N S (fun v h' F' => F' = F ∧ ToV R 2 v h' F (OutM K F)) F) ⟨rfl, ?_⟩)
      exact toCopy (d := 2) rfl rfl rfl (by omega) rfl (fun j hj => by omega) hK
    | succ n =>
      refine byM (byX (env53_ok R noP) (f := 31) (fi := fi31) (by kernel_rfl) 1000 (vc31s R N S (fun v h' F' => F' = F ∧ ToV R 2 v h' F (OutM K F)) F n) (hcT ?_ ⟨rfl, ?_⟩))
      · simp [Src.len]; omega
      exact toCopy (d := 3) (by simp [Src.len]) rfl rfl (by omega) rfl (fun j hj => by simp [itG, itm]) hK
  · exact hp.elim

end Go.Dc.Kb
end
section
set_option linter.unusedVariables false
set_option linter.unusedSimpArgs false
namespace Go.Dc.Kb
open Go.Proofs Go.RowKit
set_option maxRecDepth 100000

def delN {α : Type} (F : Nat → α) (i : Nat) : Nat → α := fun j => if j < i then F j else F (j + 1)
def pure22 : PureM := fun n N S as_ K => match as_ with
  | [.int .i64 i] => n ≤ 1000 ∧ (i < 0 ∨ (n : Int) ≤ i → K (.bool false) (stR n N S) []) ∧ (0 ≤ i ∧ i < (n : Int) → ∀ m N' S', n = m + 1 → (∀ j, j < m → N' j = delN N i.toNat j ∧ S' j = delN S i.toNat j) → K (.bool true) [some (stk 2 m), none] [some (.gen 29 2 m (itG N' S'))])
  | _ => False
theorem dc {p : Prop} [Decidable p] (h : p) : decide p = true := decide_eq_true h
theorem pure22_ok : PureOK 22 pure22 := by
  intro R n N S as_ K F hp
  unfold pure22 at hp
  split at hp
  · rename_i i
    obtain ⟨hn, h0, h1⟩ := hp
    match i with
    | .negSucc 0 => exact byM (byX (env53_ok R noP) (f := 22) (fi := fi22) (by kernel_rfl) 1000 (vc22m R N S (fun v h' F' => F' = F ∧ ToV R 2 v h' F (OutM K F)) F n) ⟨rfl, toSame rfl (h0 (.inl (by decide)))⟩)
    | .negSucc (a + 1) => exact byM (byX (env53_ok R noP) (f := 22) (fi := fi22) (by kernel_rfl) 1000 (vc22n R N S (fun v h' F' => F' = F ∧ ToV R 2 v h' F (OutM K F)) F n a) ⟨rfl, toSame rfl (h0 (.inl (by omega)))⟩)
    | .ofNat a =>
      have h0 : (a : Int) < 0 ∨ (n : Int) ≤ (a : Int) → K (.bool false) (stR n N S) [] := h0
      have h1 : 0 ≤ (a : Int) ∧ (a : Int) < (n : Int) → ∀ m N' S', n = m + 1 → (∀ j, j < m → N' j = delN N a j ∧ S' j = delN S a j) → K (.bool true) [some (stk 2 m), none] [some (.gen 29 2 m (itG N' S'))] := h1
      cases n with
      | zero => exact byM (byX (env53_ok R noP) (f := 22) (fi := fi22) (by kernel_rfl) 1000 (vc22z R N S (fun v h' F' => F' = F ∧ ToV R 2 v h' F (OutM K F)) F a) ⟨rfl, toSame rfl (h0 (.inr (by omega)))⟩)
      | succ n =>
        refine byM (byX (env53_ok R noP) (f := 22) (fi := fi22) (by kernel_rfl) 1000 (vc22s R N S (fun v h' F' => F' = F ∧ ToV R 2 v h' F (OutM K F)) F n a) ?_)
        refine hcB (fun hd => ?_) (fun hd => ?_)
        · exact ⟨rfl, toSame rfl (h0 (.inr (by simpa using hd)))⟩
        · have hd : ¬ (a : Int) ≥ ((n + 1 : Nat) : Int) := by simpa using hd
          have hlt : a < n + 1 := by omega
          have ew := wrapSucc a (by omega)
          rw [ew]
          have e3 : n + 1 - (a + 1) = n - a := by omega
          have e4 : a + (n - a) = n := by omega
          have e5 : n + 1 - a - (n - a) = 1 := by omega
          refine hcT ?_ (hcF ?_ (hcT ?_ (hcT ?_ (hcT ?_ (hcT ?_ (hcT ?_ ⟨rfl, ?_⟩))))))
          · show (decide (0 ≤ (a : Int)) && (decide ((a : Int) ≤ ((a + 1 : Nat) : Int)) && (decide (((a + 1 : Nat) : Int) ≤ ((n + 1 : Nat) : Int)) && decide (((n + 1 : Nat) : Int) ≤ ((n + 1 : Nat) : Int))))) = true
            rw [dc (by omega), dc (by omega), dc (by omega), dc (by omega)]; rfl
          · rw [beq_eq_false_iff_ne]; omega
          · show (decide (0 ≤ (a : Int)) && decide ((a : Int) ≤ ((n + 1 : Nat) : Int))) = true
            rw [dc (by omega), dc (by omega)]; rfl
          · show (decide (0 ≤ ((a + 1 : Nat) : Int)) && decide (((a + 1 : Nat) : Int) ≤ ((n + 1 : Nat) : Int))) = true
            rw [dc (by omega), dc (by omega)]; rfl
          · simp only [slHi, slLo, Src.len, Int.toNat_natCast, Nat.sub_zero, Nat.zero_add, e3, e4]
            rw [dc (by omega), dc (by omega), dc (by omega)]; rfl
          · simp only [slCondE, slCond, cpEnd, appCp, slCp, slHi, slLo, Src.len, Int.toNat_natCast, Nat.sub_zero, Nat.zero_add, e3, e4, e5]
            rw [dc (by omega), dc (by omega), dc (by omega), dc (by omega)]; rfl
          · simp only [Row.len, slCondE, slCond, cpEnd, appCp, slCp, slHi, slLo, Src.len, Int.toNat_natCast, Nat.sub_zero, Nat.zero_add, e3, e4, e5]
            rw [dc (Nat.le_refl n), Bool.or_true]
          · refine toM [some (stk 2 n), none] [some (.gen 29 2 n (itG (delN N a) (delN S a)))] (fun c => match c with | 0 => some 0 | 1 => some 1 | 2 => some 2 | _ + 3 => none) rfl (ViewS.of ?_ (inj_of (N := 3) (by decide))) (Vw.boolI) (fun c hc => by match c, hc with | 0, _ => rfl | 1, _ => rfl) (h1 ⟨by omega, by omega⟩ n _ _ rfl (fun j hj => ⟨rfl, rfl⟩))
            intro c o ho
            match c, ho with
            | 0, ho =>
              cases ho
              refine ViewT.at_ (b := 0) rfl rfl ?_
              simp only [slHi, slLo, Src.len, Int.toNat_natCast, Nat.sub_zero, e3, e4]
              exact stk_vw (q := 2) (by simp) rfl
            | 1, ho => cases ho; exact ViewT.none
            | 2, ho =>
              cases ho
              refine ViewT.at_ (b := 2) rfl rfl (RowS.gen (by simp only [slHi, slLo, Src.len, Int.toNat_natCast, Nat.sub_zero, e3, e4]; exact Nat.le_refl _) fun j hj => ⟨rfl, ?_⟩)
              have hb : Nat.ble (n + (n + 1 - n)) n = false := by rw [Bool.eq_false_iff]; simp
              simp only [slHi, slLo, Src.len, Int.toNat_natCast, Nat.sub_zero, Nat.zero_add, e3, e4, hb, Bool.false_and, cond_false]
              rcases Nat.lt_or_ge j a with h | h
              · rw [blt_t h, cond_true]
                exact itm_vwE (by simp [delN, h]) (by simp [delN, h])
              · have hb2 : Nat.blt j a = false := by rw [Bool.eq_false_iff]; simp [Nat.blt_eq]; omega
                have e6 : a + 1 + (j - a) = j + 1 := by omega
                rw [hb2, cond_false]
                exact itm_vwE (by simp [delN, Nat.not_lt.2 h, e6]) (by simp [delN, Nat.not_lt.2 h, e6])
            | c + 3, ho => simp at ho
  · exact hp.elim

end Go.Dc.Kb
end
section
set_option linter.unusedVariables false
set_option linter.unusedSimpArgs false
namespace Go.Dc.Kb
open Go.Proofs Go.RowKit
set_option maxRecDepth 100000
theorem vc55 (R : Nat → RoRow) (a : Int) (x s : List UInt8) (q : AV → Rows → Fz → Prop) (F : Fz) : vcx (bx R) 1000 55 fi55 [.agg [.int .i64 a, .str x], .ptr false 0 0 0] [some (.lst 9 1 [.str s])] q F = (q (AV.bool !x == s) [some (Row.lst 9 1 [AV.str s]), some (Row.lst 29 2 [AV.agg [AV.int IntKind.i64 a, AV.str x]])] F) := by kernel_rfl
theorem vc57 (R : Nat → RoRow) (a : Int) (x s : List UInt8) (q : AV → Rows → Fz → Prop) (F : Fz) : vcx (bx R) 1000 57 fi57 [.agg [.int .i64 a, .str x], .ptr false 0 0 0] [some (.lst 9 1 [.str s])] q F = (bif x == [100, 100] then q (AV.bool !x == s) [some (Row.lst 9 1 [AV.str s]), some (Row.lst 29 2 [AV.agg [AV.int IntKind.i64 a, AV.str x]])] F else bif x == [100, 116] then q (AV.bool !x == s) [some (Row.lst 9 1 [AV.str s]), some (Row.lst 29 2 [AV.agg [AV.int IntKind.i64 a, AV.str x]])] F else bif x == [108, 105] then q (AV.bool !x == s) [some (Row.lst 9 1 [AV.str s]), some (Row.lst 29 2 [AV.agg [AV.int IntKind.i64 a, AV.str x]])] F else bif x == [111, 112, 116, 105, 111, 110] then q (AV.bool !x == s) [some (Row.lst 9 1 [AV.str s]), some (Row.lst 29 2 [AV.agg [AV.int IntKind.i64 a, AV.str x]])] F else bif x == [111, 112, 116, 103, 114, 111, 117, 112] then q (AV.bool !x == s) [some (Row.lst 9 1 [AV.str s]), some (Row.lst 29 2 [AV.agg [AV.int IntKind.i64 a, AV.str x]])] F else bif x == [112] then q (AV.bool !x == s) [some (Row.lst 9 1 [AV.str s]), some (Row.lst 29 2 [AV.agg [AV.int IntKind.i64 a, AV.str x]])] F else bif x == [114, 98] then q (AV.bool !x == s) [some (Row.lst 9 1 [AV.str s]), some (Row.lst 29 2 [AV.agg [AV.int IntKind.i64 a, AV.str x]])] F else bif x == [114, 112] then q (AV.bool !x == s) [some (Row.lst 9 1 [AV.str s]), some (Row.lst 29 2 [AV.agg [AV.int IntKind.i64 a, AV.str x]])] F else bif x == [114, 116] then q (AV.bool !x == s) [some (Row.lst 9 1 [AV.str s]), some (Row.lst 29 2 [AV.agg [AV.int IntKind.i64 a, AV.str x]])] F else bif x == [114, 116, 99] then q (AV.bool !x == s) [some (Row.lst 9 1 [AV.str s]), some (Row.lst 29 2 [AV.agg [AV.int IntKind.i64 a, AV.str x]])] F else q (AV.bool false) [some (Row.lst 9 1 [AV.str s]), some (Row.lst 29 2 [AV.agg [AV.int IntKind.i64 a, AV.str x]])] F) := by kernel_rfl

def goesB (g : FuncId) (s x : List UInt8) : Bool := bif Nat.beq g 55 then !(x == s) else !(x == s) && impB x
theorem nrow_g (s : List UInt8) : RowG (.lst 9 1 [.str s]) := .lst1' rfl rfl
theorem condK {Q : AV → Prop} (c x y : Bool) : (bif c then Q (.bool x) else Q (.bool y)) = Q (.bool (bif c then x else y)) := by cases c <;> rfl
def specG (g : FuncId) : CallSpecX := fun args h k F => match args with
  | [.agg [.int .i64 a, .str x], .ptr false c 0 0] => match h.live c with
    | some (.lst 9 1 [.str s]) => ∀ b, b = goesB g s x → k (.bool b) h F
    | _ => False
  | _ => False
theorem specG_of {g : FuncId} {R : Nat → RoRow} (hs : ∀ a x s F, SafeCallX Try.prog R g [.agg [.int .i64 a, .str x], .ptr false 0 0 0] [some (.lst 9 1 [.str s])] F (fun v h' F' => F' = F ∧ ∃ tl, h' = some (.lst 9 1 [.str s]) :: tl ∧ v = .bool (goesB g s x)) noP) : ∀ args h k F, specG g args h k F → SafeCallX Try.prog R g args h F k noP := by
  intro args h k F hk
  unfold specG at hk
  split at hk
  · rename_i a x c
    split at hk
    · rename_i s hc
      refine (SafeCallX.at1 (Q := fun v r' F' => F' = F ∧ r' = .lst 9 1 [.str s] ∧ v = .bool (goesB g s x)) (HP := fun _ _ _ => False) (argsL := [.agg [.int .i64 a, .str x], .ptr false 0 0 0]) hc (nrow_g s) (VwL.cons (gnd_vw _ _ _ rfl) (VwL.cons (Vw.ptrI (by simp) rfl) VwL.nil)) ((hs a x s F).mono ?_ (fun _ _ _ _ h => h.elim))).mono ?_ ?_
      · rintro v h' F' _ ⟨rfl, tl, rfl, rfl⟩
        exact ⟨_, tl, rfl, rfl, nrow_g s, rfl, rfl, rfl⟩
      · rintro v h' F' _ ⟨r', rfl, rfl, rfl, rfl⟩
        rw [live_set_self hc]
        exact hk _ rfl
      · rintro v h' F' _ ⟨r', _, h⟩
        exact h.elim
    · exact hk.elim
  · exact hk.elim
theorem impB_chain (x : List UInt8) : impB x = (bif x == [100, 100] then true else bif x == [100, 116] then true else bif x == [108, 105] then true else bif x == [111, 112, 116, 105, 111, 110] then true else bif x == [111, 112, 116, 103, 114, 111, 117, 112] then true else bif x == [112] then true else bif x == [114, 98] then true else bif x == [114, 112] then true else bif x == [114, 116] then true else x == [114, 116, 99]) := by
  simp only [impB, anyE, anyS, impL, List.getD_cons_zero, List.getD_cons_succ, strOf, bcomm x, Bool.cond_true_left, Bool.false_or, Bool.or_assoc]

theorem g55 (R : Nat → RoRow) : ∀ args h k F, specG 55 args h k F → SafeCallX Try.prog R 55 args h F k noP :=
  specG_of fun a x s F => byX (bx_ok R [] noP) (f := 55) (fi := fi55) (by kernel_rfl) 1000 (vc55 R a x s (fun v h' F' => F' = F ∧ ∃ tl, h' = some (.lst 9 1 [.str s]) :: tl ∧ v = .bool (goesB 55 s x)) F) ⟨rfl, _, rfl, rfl⟩
theorem g57 (R : Nat → RoRow) : ∀ args h k F, specG 57 args h k F → SafeCallX Try.prog R 57 args h F k noP :=
  specG_of fun a x s F => by
    refine byX (bx_ok R [] noP) (f := 57) (fi := fi57) (by kernel_rfl) 1000 (vc57 R a x s (fun v h' F' => F' = F ∧ ∃ tl, h' = some (.lst 9 1 [.str s]) :: tl ∧ v = .bool (goesB 57 s x)) F) ?_
    have key : ∀ A : Bool, A = goesB 57 s x → (F = F ∧ ∃ tl, ([some (Row.lst 9 1 [AV.str s]), some (Row.lst 29 2 [AV.agg [AV.int IntKind.i64 a, AV.str x]])] : Rows) = some (.lst 9 1 [.str s]) :: tl ∧ AV.bool A = .bool (goesB 57 s x)) := fun A h => ⟨rfl, _, rfl, by rw [h]⟩
    have e : goesB 57 s x = (!(x == s) && impB x) := rfl
    rw [e, impB_chain] at key
    cases hs : x == s with
    | true =>
      simp only [hs, Bool.not_true, Bool.false_and] at key
      have k0 := key false rfl
      rw [e, hs]
      simp only [Bool.not_true, Bool.false_and] at k0 ⊢
      repeat' (first | exact k0 | refine hcB (fun _ => ?_) (fun _ => ?_))
    | false =>
      rw [e, hs, impB_chain]
      simp only [hs, Bool.not_false, Bool.true_and] at key ⊢
      refine hcB (fun h => ?_) (fun h1 => ?_)
      · exact key true (by rw [h]; rfl)
      refine hcB (fun h => ?_) (fun h2 => ?_)
      · exact key true (by rw [h1, h]; rfl)
      refine hcB (fun h => ?_) (fun h3 => ?_)
      · exact key true (by rw [h1, h2, h]; rfl)
      refine hcB (fun h => ?_) (fun h4 => ?_)
      · exact key true (by rw [h1, h2, h3, h]; rfl)
      refine hcB (fun h => ?_) (fun h5 => ?_)
      · exact key true (by rw [h1, h2, h3, h4, h]; rfl)
      refine hcB (fun h => ?_) (fun h6 => ?_)
      · exact key true (by rw [h1, h2, h3, h4, h5, h]; rfl)
      refine hcB (fun h => ?_) (fun h7 => ?_)
      · exact key true (by rw [h1, h2, h3, h4, h5, h6, h]; rfl)
      refine hcB (fun h => ?_) (fun h8 => ?_)
      · exact key true (by rw [h1, h2, h3, h4, h5, h6, h7, h]; rfl)
      refine hcB (fun h => ?_) (fun h9 => ?_)
      · exact key true (by rw [h1, h2, h3, h4, h5, h6, h7, h8, h]; rfl)
      refine hcB (fun h => ?_) (fun h10 => ?_)
      · exact key true (by rw [h1, h2, h3, h4, h5, h6, h7, h8, h9, h]; rfl)
      · exact key false (by rw [h1, h2, h3, h4, h5, h6, h7, h8, h9, h10]; rfl)
noncomputable abbrev envW (R : Nat → RoRow) : EnvX := ((bx R).addCall 55 (specG 55)).addCall 57 (specG 57)
theorem envW_ok (R : Nat → RoRow) : OKX Try.prog (envW R) [] noP := ((bx_ok R [] noP).addCall (f := 55) (fi := fi55) (by kernel_rfl) (g55 R)).addCall (f := 57) (fi := fi57) (by kernel_rfl) (g57 R)
def rev (n : Nat) (N : Nat → Int) (S : Nat → List UInt8) : Nat → AV := itG (fun j => N (n - 1 - j)) (fun j => S (n - 1 - j))
def tm54 (g : FuncId) (m : Nat) (b : Bool) : List AV := [.ptr false 0 0 0, .fn g [] [.ptr false 2 0 0], .any, .any, .any, .sl false 6 0 m .no, .ptr false 5 0 0, .bool b, .any, .any, .any, .any, .any, .any, .any, .any, .any, .any, .any, .any, .any, .any, .any, .any, .any, .any, .any, .any, .any, .any, .any, .any]
theorem tm54_spr (g : FuncId) (m : Nat) (b : Bool) : tm54 g m b = spr [(0, .ptr false 0 0 0), (1, .fn g [] [.ptr false 2 0 0]), (5, .sl false 6 0 m .no), (6, .ptr false 5 0 0), (7, .bool b)] 0 32 := by kernel_rfl

def rw54 (n k m : Nat) (N : Nat → Int) (S : Nat → List UInt8) (s : List UInt8) (x : AV) : Rows := [some (stk 1 k), some (.gen 29 2 n (itG N S)), some (.lst 9 1 [.str s]), none, none, some (.lst 29 2 [x]), some (.gen 29 2 m (rev n N S))]

end Go.Dc.Kb
end
section
set_option linter.unusedVariables false
set_option linter.unusedSimpArgs false
namespace Go.Dc.Kb
open Go.Proofs Go.RowKit
set_option maxRecDepth 100000
theorem vs55 (R : Nat → RoRow) (n k m : Nat) (N : Nat → Int) (S : Nat → List UInt8) (s : List UInt8) (q : Exit → List AV → Rows → Fz → Prop) (F : Fz) : rnx (envW R) 1000 54 (loopOf fi54 0) ⟨tm54 55 m true, rw54 n (k + 1) m N S s (itm (N k) (S k))⟩ (fun e st => q e st.tmps st.rows) F = (∀ (b : Bool), b = goesB 55 s (S k) → bif b then bif decide (0 ≤ IntKind.i64.wrap ((↑(k + 1) : Int) - 1)) && decide (IntKind.i64.wrap ((↑(k + 1) : Int) - 1) < (↑(k + 1) : Int)) then bif decide (0 + (IntKind.i64.wrap ((↑(k + 1) : Int) - 1)).toNat < n) then bif slCondE none (some (IntKind.i64.wrap ((↑(k + 1) : Int) - 1))) (k + 1) (cpEnd Cp.no (k + 1)) then bif decide (0 + m ≤ m) && (true && (true && decide (((Src.gen m fun (j : Nat) => rev n N S (0 + j)).len + 1) * 24 ≤ 140737488355328))) then bif (↑(slHi (k + 1) (some (IntKind.i64.wrap ((↑(k + 1) : Int) - 1))) - 0) : Int) == 0 then q Exit.normal [AV.ptr false 0 0 0, AV.fn 55 [] [AV.ptr false 2 0 0], AV.any, AV.any, AV.any, AV.sl false 11 0 ((Src.gen m fun (j : Nat) => rev n N S (0 + j)).len + 1) Cp.no, AV.ptr false 12 0 0, AV.bool false, AV.any, AV.any, AV.any, AV.any, AV.any, AV.bool true, AV.bool true, AV.fn 55 [] [AV.ptr false 2 0 0], AV.agg [AV.int IntKind.i64 (N k), AV.str (S k)], AV.bool b, AV.bool true, AV.tup [AV.agg [AV.int IntKind.i64 0, AV.str []], AV.bool false], AV.ptr false 0 0 0, AV.tup [AV.agg [AV.int IntKind.i64 0, AV.str []], AV.bool false], AV.agg [AV.int IntKind.i64 0, AV.str []], AV.bool false, AV.ptr false 0 0 0, AV.tup [AV.agg [AV.int IntKind.i64 (N (0 + (IntKind.i64.wrap ((↑(k + 1) : Int) - 1)).toNat)), AV.str (S (0 + (IntKind.i64.wrap ((↑(k + 1) : Int) - 1)).toNat))], AV.bool true], AV.sl false 6 0 m Cp.no, AV.agg [AV.int IntKind.i64 (N k), AV.str (S k)], AV.sl false 10 0 1 Cp.tight, AV.sl false 11 0 ((Src.gen m fun (j : Nat) => rev n N S (0 + j)).len + 1) Cp.no, AV.agg [AV.int IntKind.i64 (N k), AV.str (S k)], AV.any] [some (Row.lst 26 1 [AV.agg [AV.sl false 1 0 (slHi (k + 1) (some (IntKind.i64.wrap ((↑(k + 1) : Int) - 1))) - 0) (Cp.room (k + 1 - (IntKind.i64.wrap ((↑(k + 1) : Int) - 1)).toNat))]]), some (Row.gen 29 2 n fun (j : Nat) => itm (N j) (S j)), some (Row.lst 9 1 [AV.str s]), none, none, some (Row.lst 29 2 [AV.agg [AV.int IntKind.i64 (N k), AV.str (S k)]]), none, some (Row.lst 29 2 [AV.agg [AV.int IntKind.i64 (N (0 + (IntKind.i64.wrap ((↑(k + 1) : Int) - 1)).toNat)), AV.str (S (0 + (IntKind.i64.wrap ((↑(k + 1) : Int) - 1)).toNat))]]), some (Row.lst 29 2 [AV.agg [AV.int IntKind.i64 (N (0 + (IntKind.i64.wrap ((↑(k + 1) : Int) - 1)).toNat)), AV.str (S (0 + (IntKind.i64.wrap ((↑(k + 1) : Int) - 1)).toNat))]]), some (Row.lst 29 2 [AV.agg [AV.int IntKind.i64 (N (0 + (IntKind.i64.wrap ((↑(k + 1) : Int) - 1)).toNat)), AV.str (S (0 + (IntKind.i64.wrap ((↑(k + 1) : Int) - 1)).toNat))]]), some (Row.lst 29 2 [AV.agg [AV.int IntKind.i64 (N k), AV.str (S k)]]), some (Row.gen 29 2 ((Src.gen m fun (j : Nat) => rev n N S (0 + j)).len + 1) fun (j : Nat) => bif j.blt (Src.gen m fun (j : Nat) => rev n N S (0 + j)).len then AV.agg [AV.int IntKind.i64 (N (n - 1 - (0 + j))), AV.str (S (n - 1 - (0 + j)))] else (Src.lst [AV.agg [AV.int IntKind.i64 (N k), AV.str (S k)]]).at_ (j - (Src.gen m fun (j : Nat) => rev n N S (0 + j)).len)), some (Row.lst 29 2 [AV.agg [AV.int IntKind.i64 0, AV.str []]]), some (Row.lst 29 2 [AV.agg [AV.int IntKind.i64 0, AV.str []]])] F else bif decide (0 ≤ IntKind.i64.wrap ((↑(slHi (k + 1) (some (IntKind.i64.wrap ((↑(k + 1) : Int) - 1))) - 0) : Int) - 1)) && decide (IntKind.i64.wrap ((↑(slHi (k + 1) (some (IntKind.i64.wrap ((↑(k + 1) : Int) - 1))) - 0) : Int) - 1) < (↑(slHi (k + 1) (some (IntKind.i64.wrap ((↑(k + 1) : Int) - 1))) - 0) : Int)) then bif decide (0 + (IntKind.i64.wrap ((↑(slHi (k + 1) (some (IntKind.i64.wrap ((↑(k + 1) : Int) - 1))) - 0) : Int) - 1)).toNat < n) then q Exit.normal [AV.ptr false 0 0 0, AV.fn 55 [] [AV.ptr false 2 0 0], AV.any, AV.any, AV.any, AV.sl false 11 0 ((Src.gen m fun (j : Nat) => rev n N S (0 + j)).len + 1) Cp.no, AV.ptr false 12 0 0, AV.bool true, AV.any, AV.any, AV.any, AV.any, AV.any, AV.bool true, AV.bool true, AV.fn 55 [] [AV.ptr false 2 0 0], AV.agg [AV.int IntKind.i64 (N k), AV.str (S k)], AV.bool b, AV.bool true, AV.tup [AV.agg [AV.int IntKind.i64 (N (0 + (IntKind.i64.wrap ((↑(slHi (k + 1) (some (IntKind.i64.wrap ((↑(k + 1) : Int) - 1))) - 0) : Int) - 1)).toNat)), AV.str (S (0 + (IntKind.i64.wrap ((↑(slHi (k + 1) (some (IntKind.i64.wrap ((↑(k + 1) : Int) - 1))) - 0) : Int) - 1)).toNat))], AV.bool true], AV.ptr false 0 0 0, AV.tup [AV.agg [AV.int IntKind.i64 (N (0 + (IntKind.i64.wrap ((↑(slHi (k + 1) (some (IntKind.i64.wrap ((↑(k + 1) : Int) - 1))) - 0) : Int) - 1)).toNat)), AV.str (S (0 + (IntKind.i64.wrap ((↑(slHi (k + 1) (some (IntKind.i64.wrap ((↑(k + 1) : Int) - 1))) - 0) : Int) - 1)).toNat))], AV.bool true], AV.agg [AV.int IntKind.i64 (N (0 + (IntKind.i64.wrap ((↑(slHi (k + 1) (some (IntKind.i64.wrap ((↑(k + 1) : Int) - 1))) - 0) : Int) - 1)).toNat)), AV.str (S (0 + (IntKind.i64.wrap ((↑(slHi (k + 1) (some (IntKind.i64.wrap ((↑(k + 1) : Int) - 1))) - 0) : Int) - 1)).toNat))], AV.bool true, AV.ptr false 0 0 0, AV.tup [AV.agg [AV.int IntKind.i64 (N (0 + (IntKind.i64.wrap ((↑(k + 1) : Int) - 1)).toNat)), AV.str (S (0 + (IntKind.i64.wrap ((↑(k + 1) : Int) - 1)).toNat))], AV.bool true], AV.sl false 6 0 m Cp.no, AV.agg [AV.int IntKind.i64 (N k), AV.str (S k)], AV.sl false 10 0 1 Cp.tight, AV.sl false 11 0 ((Src.gen m fun (j : Nat) => rev n N S (0 + j)).len + 1) Cp.no, AV.agg [AV.int IntKind.i64 (N k), AV.str (S k)], AV.any] [some (Row.lst 26 1 [AV.agg [AV.sl false 1 0 (slHi (k + 1) (some (IntKind.i64.wrap ((↑(k + 1) : Int) - 1))) - 0) (Cp.room (k + 1 - (IntKind.i64.wrap ((↑(k + 1) : Int) - 1)).toNat))]]), some (Row.gen 29 2 n fun (j : Nat) => itm (N j) (S j)), some (Row.lst 9 1 [AV.str s]), none, none, some (Row.lst 29 2 [AV.agg [AV.int IntKind.i64 (N k), AV.str (S k)]]), none, some (Row.lst 29 2 [AV.agg [AV.int IntKind.i64 (N (0 + (IntKind.i64.wrap ((↑(k + 1) : Int) - 1)).toNat)), AV.str (S (0 + (IntKind.i64.wrap ((↑(k + 1) : Int) - 1)).toNat))]]), some (Row.lst 29 2 [AV.agg [AV.int IntKind.i64 (N (0 + (IntKind.i64.wrap ((↑(k + 1) : Int) - 1)).toNat)), AV.str (S (0 + (IntKind.i64.wrap ((↑(k + 1) : Int) - 1)).toNat))]]), some (Row.lst 29 2 [AV.agg [AV.int IntKind.i64 (N (0 + (IntKind.i64.wrap ((↑(k + 1) : Int) - 1)).toNat)), AV.str (S (0 + (IntKind.i64.wrap ((↑(k + 1) : Int) - 1)).toNat))]]), some (Row.lst 29 2 [AV.agg [AV.int IntKind.i64 (N k), AV.str (S k)]]), some (Row.gen 29 2 ((Src.gen m fun (j : Nat) => rev n N S (0 + j)).len + 1) fun (j : Nat) => bif j.blt (Src.gen m fun (j : Nat) => rev n N S (0 + j)).len then AV.agg [AV.int IntKind.i64 (N (n - 1 - (0 + j))), AV.str (S (n - 1 - (0 + j)))] else (Src.lst [AV.agg [AV.int IntKind.i64 (N k), AV.str (S k)]]).at_ (j - (Src.gen m fun (j : Nat) => rev n N S (0 + j)).len)), some (Row.lst 29 2 [AV.agg [AV.int IntKind.i64 (N (0 + (IntKind.i64.wrap ((↑(slHi (k + 1) (some (IntKind.i64.wrap ((↑(k + 1) : Int) - 1))) - 0) : Int) - 1)).toNat)), AV.str (S (0 + (IntKind.i64.wrap ((↑(slHi (k + 1) (some (IntKind.i64.wrap ((↑(k + 1) : Int) - 1))) - 0) : Int) - 1)).toNat))]]), some (Row.lst 29 2 [AV.agg [AV.int IntKind.i64 (N (0 + (IntKind.i64.wrap ((↑(slHi (k + 1) (some (IntKind.i64.wrap ((↑(k + 1) : Int) - 1))) - 0) : Int) - 1)).toNat)), AV.str (S (0 + (IntKind.i64.wrap ((↑(slHi (k + 1) (some (IntKind.i64.wrap ((↑(k + 1) : Int) - 1))) - 0) : Int) - 1)).toNat))]])] F else False else False else False else False else False else False else q (Exit.exit 0) [AV.ptr false 0 0 0, AV.fn 55 [] [AV.ptr false 2 0 0], AV.any, AV.any, AV.any, AV.sl false 6 0 m Cp.no, AV.ptr false 5 0 0, AV.bool true, AV.any, AV.any, AV.any, AV.any, AV.any, AV.bool true, AV.bool true, AV.fn 55 [] [AV.ptr false 2 0 0], AV.agg [AV.int IntKind.i64 (N k), AV.str (S k)], AV.bool b, AV.bool false, AV.any, AV.any, AV.any, AV.any, AV.any, AV.any, AV.any, AV.any, AV.any, AV.any, AV.any, AV.any, AV.any] [some (Row.lst 26 1 [AV.agg [AV.sl false 1 0 (k + 1) Cp.no]]), some (Row.gen 29 2 n fun (j : Nat) => itm (N j) (S j)), some (Row.lst 9 1 [AV.str s]), none, none, some (Row.lst 29 2 [AV.agg [AV.int IntKind.i64 (N k), AV.str (S k)]]), some (Row.gen 29 2 m fun (j : Nat) => itm (N (n - 1 - j)) (S (n - 1 - j)))] F) := by kernel_rfl
theorem vz55 (R : Nat → RoRow) (n k m : Nat) (N : Nat → Int) (S : Nat → List UInt8) (s : List UInt8) (q : Exit → List AV → Rows → Fz → Prop) (F : Fz) : rnx (envW R) 1000 54 (loopOf fi54 0) ⟨tm54 55 m false, rw54 n 0 m N S s (itm 0 [])⟩ (fun e st => q e st.tmps st.rows) F = (q (Exit.exit 0) [AV.ptr false 0 0 0, AV.fn 55 [] [AV.ptr false 2 0 0], AV.any, AV.any, AV.any, AV.sl false 6 0 m Cp.no, AV.ptr false 5 0 0, AV.bool false, AV.any, AV.any, AV.any, AV.any, AV.any, AV.bool false, AV.bool false, AV.tup [], AV.tup [], AV.tup [], AV.bool false, AV.any, AV.any, AV.any, AV.any, AV.any, AV.any, AV.any, AV.any, AV.any, AV.any, AV.any, AV.any, AV.any] [some (Row.lst 26 1 [AV.agg [AV.sl false 1 0 0 Cp.no]]), some (Row.gen 29 2 n fun (j : Nat) => itm (N j) (S j)), some (Row.lst 9 1 [AV.str s]), none, none, some (Row.lst 29 2 [AV.agg [AV.int IntKind.i64 0, AV.str []]]), some (Row.gen 29 2 m fun (j : Nat) => itm (N (n - 1 - j)) (S (n - 1 - j)))] F) := by kernel_rfl
theorem vs57 (R : Nat → RoRow) (n k m : Nat) (N : Nat → Int) (S : Nat → List UInt8) (s : List UInt8) (q : Exit → List AV → Rows → Fz → Prop) (F : Fz) : rnx (envW R) 1000 54 (loopOf fi54 0) ⟨tm54 57 m true, rw54 n (k + 1) m N S s (itm (N k) (S k))⟩ (fun e st => q e st.tmps st.rows) F = (∀ (b : Bool), b = goesB 57 s (S k) → bif b then bif decide (0 ≤ IntKind.i64.wrap ((↑(k + 1) : Int) - 1)) && decide (IntKind.i64.wrap ((↑(k + 1) : Int) - 1) < (↑(k + 1) : Int)) then bif decide (0 + (IntKind.i64.wrap ((↑(k + 1) : Int) - 1)).toNat < n) then bif slCondE none (some (IntKind.i64.wrap ((↑(k + 1) : Int) - 1))) (k + 1) (cpEnd Cp.no (k + 1)) then bif decide (0 + m ≤ m) && (true && (true && decide (((Src.gen m fun (j : Nat) => rev n N S (0 + j)).len + 1) * 24 ≤ 140737488355328))) then bif (↑(slHi (k + 1) (some (IntKind.i64.wrap ((↑(k + 1) : Int) - 1))) - 0) : Int) == 0 then q Exit.normal [AV.ptr false 0 0 0, AV.fn 57 [] [AV.ptr false 2 0 0], AV.any, AV.any, AV.any, AV.sl false 11 0 ((Src.gen m fun (j : Nat) => rev n N S (0 + j)).len + 1) Cp.no, AV.ptr false 12 0 0, AV.bool false, AV.any, AV.any, AV.any, AV.any, AV.any, AV.bool true, AV.bool true, AV.fn 57 [] [AV.ptr false 2 0 0], AV.agg [AV.int IntKind.i64 (N k), AV.str (S k)], AV.bool b, AV.bool true, AV.tup [AV.agg [AV.int IntKind.i64 0, AV.str []], AV.bool false], AV.ptr false 0 0 0, AV.tup [AV.agg [AV.int IntKind.i64 0, AV.str []], AV.bool false], AV.agg [AV.int IntKind.i64 0, AV.str []], AV.bool false, AV.ptr false 0 0 0, AV.tup [AV.agg [AV.int IntKind.i64 (N (0 + (IntKind.i64.wrap ((↑(k + 1) : Int) - 1)).toNat)), AV.str (S (0 + (IntKind.i64.wrap ((↑(k + 1) : Int) - 1)).toNat))], AV.bool true], AV.sl false 6 0 m Cp.no, AV.agg [AV.int IntKind.i64 (N k), AV.str (S k)], AV.sl false 10 0 1 Cp.tight, AV.sl false 11 0 ((Src.gen m fun (j : Nat) => rev n N S (0 + j)).len + 1) Cp.no, AV.agg [AV.int IntKind.i64 (N k), AV.str (S k)], AV.any] [some (Row.lst 26 1 [AV.agg [AV.sl false 1 0 (slHi (k + 1) (some (IntKind.i64.wrap ((↑(k + 1) : Int) - 1))) - 0) (Cp.room (k + 1 - (IntKind.i64.wrap ((↑(k + 1) : Int) - 1)).toNat))]]), some (Row.gen 29 2 n fun (j : Nat) => itm (N j) (S j)), some (Row.lst 9 1 [AV.str s]), none, none, some (Row.lst 29 2 [AV.agg [AV.int IntKind.i64 (N k), AV.str (S k)]]), none, some (Row.lst 29 2 [AV.agg [AV.int IntKind.i64 (N (0 + (IntKind.i64.wrap ((↑(k + 1) : Int) - 1)).toNat)), AV.str (S (0 + (IntKind.i64.wrap ((↑(k + 1) : Int) - 1)).toNat))]]), some (Row.lst 29 2 [AV.agg [AV.int IntKind.i64 (N (0 + (IntKind.i64.wrap ((↑(k + 1) : Int) - 1)).toNat)), AV.str (S (0 + (IntKind.i64.wrap ((↑(k + 1) : Int) - 1)).toNat))]]), some (Row.lst 29 2 [AV.agg [AV.int IntKind.i64 (N (0 + (IntKind.i64.wrap ((↑(k + 1) : Int) - 1)).toNat)), AV.str (S (0 + (IntKind.i64.wrap ((↑(k + 1) : Int) - 1)).toNat))]]), some (Row.lst 29 2 [AV.agg [AV.int IntKind.i64 (N k), AV.str (S k)]]), some (Row.gen 29 2 ((Src.gen m fun (j : Nat) => rev n N S (0 + j)).len + 1) fun (j : Nat) => bif j.blt (Src.gen m fun (j : Nat) => rev n N S (0 + j)).len then AV.agg [AV.int IntKind.i64 (N (n - 1 - (0 + j))), AV.str (S (n - 1 - (0 + j)))] else (Src.lst [AV.agg [AV.int IntKind.i64 (N k), AV.str (S k)]]).at_ (j - (Src.gen m fun (j : Nat) => rev n N S (0 + j)).len)), some (Row.lst 29 2 [AV.agg [AV.int IntKind.i64 0, AV.str []]]), some (Row.lst 29 2 [AV.agg [AV.int IntKind.i64 0, AV.str []]])] F else bif decide (0 ≤ IntKind.i64.wrap ((↑(slHi (k + 1) (some (IntKind.i64.wrap ((↑(k + 1) : Int) - 1))) - 0) : Int) - 1)) && decide (IntKind.i64.wrap ((↑(slHi (k + 1) (some (IntKind.i64.wrap ((↑(k + 1) : Int) - 1))) - 0) : Int) - 1) < (↑(slHi (k + 1) (some (IntKind.i64.wrap ((↑(k + 1) : Int) - 1))) - 0) : Int)) then bif decide (0 + (IntKind.i64.wrap ((↑(slHi (k + 1) (some (IntKind.i64.wrap ((↑(k + 1) : Int) - 1))) - 0) : Int) - 1)).toNat < n) then q Exit.normal [AV.ptr false 0 0 0, AV.fn 57 [] [AV.ptr false 2 0 0], AV.any, AV.any, AV.any, AV.sl false 11 0 ((Src.gen m fun (j : Nat) => rev n N S (0 + j)).len + 1) Cp.no, AV.ptr false 12 0 0, AV.bool true, AV.any, AV.any, AV.any, AV.any, AV.any, AV.bool true, AV.bool true, AV.fn 57 [] [AV.ptr false 2 0 0], AV.agg [AV.int IntKind.i64 (N k), AV.str (S k)], AV.bool b, AV.bool true, AV.tup [AV.agg [AV.int IntKind.i64 (N (0 + (IntKind.i64.wrap ((↑(slHi (k + 1) (some (IntKind.i64.wrap ((↑(k + 1) : Int) - 1))) - 0) : Int) - 1)).toNat)), AV.str (S (0 + (IntKind.i64.wrap ((↑(slHi (k + 1) (some (IntKind.i64.wrap ((↑(k + 1) : Int) - 1))) - 0) : Int) - 1)).toNat))], AV.bool true], AV.ptr false 0 0 0, AV.tup [AV.agg [AV.int IntKind.i64 (N (0 + (IntKind.i64.wrap ((↑(slHi (k + 1) (some (IntKind.i64.wrap ((↑(k + 1) : Int) - 1))) - 0) : Int) - 1)).toNat)), AV.str (S (0 + (IntKind.i64.wrap ((↑(slHi (k + 1) (some (IntKind.i64.wrap ((↑(k + 1) : Int) - 1))) - 0) : Int) - 1)).toNat))], AV.bool true], AV.agg [AV.int IntKind.i64 (N (0 + (IntKind.i64.wrap ((↑(slHi (k + 1) (some (IntKind.i64.wrap ((↑(k + 1) : Int) - 1))) - 0) : Int) - 1)).toNat)), AV.str (S (0 + (IntKind.i64.wrap ((↑(slHi (k + 1) (some (IntKind.i64.wrap ((↑(k + 1) : Int) - 1))) - 0) : Int) - 1)).toNat))], AV.bool true, AV.ptr false 0 0 0, AV.tup [AV.agg [AV.int IntKind.i64 (N (0 + (IntKind.i64.wrap ((↑(k + 1) : Int) - 1)).toNat)), AV.str (S (0 + (IntKind.i64.wrap ((↑(k + 1) : Int) - 1)).toNat))], AV.bool true], AV.sl false 6 0 m Cp.no, AV.agg [AV.int IntKind.i64 (N k), AV.str (S k)], AV.sl false 10 0 1 Cp.tight, AV.sl false 11 0 ((Src.gen m fun (j : Nat) => rev n N S (0 + j)).len + 1) Cp.no, AV.agg [AV.int IntKind.i64 (N k), AV.str (S k)], AV.any] [some (Row.lst 26 1 [AV.agg [AV.sl false 1 0 (slHi (k + 1) (some (IntKind.i64.wrap ((↑(k + 1) : Int) - 1))) - 0) (Cp.room (k + 1 - (IntKind.i64.wrap ((↑(k + 1) : Int) - 1)).toNat))]]), some (Row.gen 29 2 n fun (j : Nat) => itm (N j) (S j)), some (Row.lst 9 1 [AV.str s]), none, none, some (Row.lst 29 2 [AV.agg [AV.int IntKind.i64 (N k), AV.str (S k)]]), none, some (Row.lst 29 2 [AV.agg [AV.int IntKind.i64 (N (0 + (IntKind.i64.wrap ((↑(k + 1) : Int) - 1)).toNat)), AV.str (S (0 + (IntKind.i64.wrap ((↑(k + 1) : Int) - 1)).toNat))]]), some (Row.lst 29 2 [AV.agg [AV.int IntKind.i64 (N (0 + (IntKind.i64.wrap ((↑(k + 1) : Int) - 1)).toNat)), AV.str (S (0 + (IntKind.i64.wrap ((↑(k + 1) : Int) - 1)).toNat))]]), some (Row.lst 29 2 [AV.agg [AV.int IntKind.i64 (N (0 + (IntKind.i64.wrap ((↑(k + 1) : Int) - 1)).toNat)), AV.str (S (0 + (IntKind.i64.wrap ((↑(k + 1) : Int) - 1)).toNat))]]), some (Row.lst 29 2 [AV.agg [AV.int IntKind.i64 (N k), AV.str (S k)]]), some (Row.gen 29 2 ((Src.gen m fun (j : Nat) => rev n N S (0 + j)).len + 1) fun (j : Nat) => bif j.blt (Src.gen m fun (j : Nat) => rev n N S (0 + j)).len then AV.agg [AV.int IntKind.i64 (N (n - 1 - (0 + j))), AV.str (S (n - 1 - (0 + j)))] else (Src.lst [AV.agg [AV.int IntKind.i64 (N k), AV.str (S k)]]).at_ (j - (Src.gen m fun (j : Nat) => rev n N S (0 + j)).len)), some (Row.lst 29 2 [AV.agg [AV.int IntKind.i64 (N (0 + (IntKind.i64.wrap ((↑(slHi (k + 1) (some (IntKind.i64.wrap ((↑(k + 1) : Int) - 1))) - 0) : Int) - 1)).toNat)), AV.str (S (0 + (IntKind.i64.wrap ((↑(slHi (k + 1) (some (IntKind.i64.wrap ((↑(k + 1) : Int) - 1))) - 0) : Int) - 1)).toNat))]]), some (Row.lst 29 2 [AV.agg [AV.int IntKind.i64 (N (0 + (IntKind.i64.wrap ((↑(slHi (k + 1) (some (IntKind.i64.wrap ((↑(k + 1) : Int) - 1))) - 0) : Int) - 1)).toNat)), AV.str (S (0 + (IntKind.i64.wrap ((↑(slHi (k + 1) (some (IntKind.i64.wrap ((↑(k + 1) : Int) - 1))) - 0) : Int) - 1)).toNat))]])] F else False else False else False else False else False else False else q (Exit.exit 0) [AV.ptr false 0 0 0, AV.fn 57 [] [AV.ptr false 2 0 0], AV.any, AV.any, AV.any, AV.sl false 6 0 m Cp.no, AV.ptr false 5 0 0, AV.bool true, AV.any, AV.any, AV.any, AV.any, AV.any, AV.bool true, AV.bool true, AV.fn 57 [] [AV.ptr false 2 0 0], AV.agg [AV.int IntKind.i64 (N k), AV.str (S k)], AV.bool b, AV.bool false, AV.any, AV.any, AV.any, AV.any, AV.any, AV.any, AV.any, AV.any, AV.any, AV.any, AV.any, AV.any, AV.any] [some (Row.lst 26 1 [AV.agg [AV.sl false 1 0 (k + 1) Cp.no]]), some (Row.gen 29 2 n fun (j : Nat) => itm (N j) (S j)), some (Row.lst 9 1 [AV.str s]), none, none, some (Row.lst 29 2 [AV.agg [AV.int IntKind.i64 (N k), AV.str (S k)]]), some (Row.gen 29 2 m fun (j : Nat) => itm (N (n - 1 - j)) (S (n - 1 - j)))] F) := by kernel_rfl
theorem vz57 (R : Nat → RoRow) (n k m : Nat) (N : Nat → Int) (S : Nat → List UInt8) (s : List UInt8) (q : Exit → List AV → Rows → Fz → Prop) (F : Fz) : rnx (envW R) 1000 54 (loopOf fi54 0) ⟨tm54 57 m false, rw54 n 0 m N S s (itm 0 [])⟩ (fun e st => q e st.tmps st.rows) F = (q (Exit.exit 0) [AV.ptr false 0 0 0, AV.fn 57 [] [AV.ptr false 2 0 0], AV.any, AV.any, AV.any, AV.sl false 6 0 m Cp.no, AV.ptr false 5 0 0, AV.bool false, AV.any, AV.any, AV.any, AV.any, AV.any, AV.bool false, AV.bool false, AV.tup [], AV.tup [], AV.tup [], AV.bool false, AV.any, AV.any, AV.any, AV.any, AV.any, AV.any, AV.any, AV.any, AV.any, AV.any, AV.any, AV.any, AV.any] [some (Row.lst 26 1 [AV.agg [AV.sl false 1 0 0 Cp.no]]), some (Row.gen 29 2 n fun (j : Nat) => itm (N j) (S j)), some (Row.lst 9 1 [AV.str s]), none, none, some (Row.lst 29 2 [AV.agg [AV.int IntKind.i64 0, AV.str []]]), some (Row.gen 29 2 m fun (j : Nat) => itm (N (n - 1 - j)) (S (n - 1 - j)))] F) := by kernel_rfl
def tm54x (m : Nat) : List AV := [.ptr false 0 0 0, .any, .any, .any, .any, .sl false 6 0 m .no, .any, .any, .any, .any, .any, .any, .any, .any, .any, .any, .any, .any, .any, .any, .any, .any, .any, .any, .any, .any, .any, .any, .any, .any, .any, .any]
theorem tm54x_spr (m : Nat) : tm54x m = spr [(0, .ptr false 0 0 0), (5, .sl false 6 0 m .no)] 0 32 := by kernel_rfl

theorem fn1 {f : Nat → Option Nat} {N : Nat} {g : FuncId} {b b' : Nat} (hb : b < N) (hf : f b = some b') : Vw f N (.fn g [] [.ptr false b 0 0]) (.fn g [] [.ptr false b' 0 0]) := by
  simp only [Vw, VwL]
  exact ⟨_, _, rfl, rfl, _, _, rfl, Vw.ptrI hb hf, rfl⟩
theorem blk54 : blockOf fi54 0 = some (.loop (loopOf fi54 0)) := by kernel_rfl
theorem byW {R : Nat → RoRow} {f : FuncId} {fi : FI} (hF : lookF fl f = some fi) {i : Nat} {c : Code} (hb : blockOf fi i = some (.loop c)) {st : St} {F : Fz} {k : Exit → St → Fz → Prop} {C : Prop} (n : Nat) (he : Dc.rnx (envW R) n f c st k F = C) (hc : C) : SafeX Try.prog R [] c st F k noP :=
  SafeX.by mixed (envW_ok R) (f := f) hF hb (subs_loop c) n he hc
def whileF (g : FuncId) (s : List UInt8) (S : Nat → List UInt8) : Nat → Nat
  | 0 => 0
  | n + 1 => bif goesB g s (S n) then whileF g s S n else n + 1
theorem whileF_le (g : FuncId) (s : List UInt8) (S : Nat → List UInt8) : ∀ n, whileF g s S n ≤ n
  | 0 => Nat.le_refl _
  | n + 1 => by
    unfold whileF
    cases goesB g s (S n)
    · exact Nat.le_refl _
    · exact Nat.le_succ_of_le (whileF_le g s S n)
def rx54 (n k m : Nat) (N : Nat → Int) (S : Nat → List UInt8) (s : List UInt8) : Rows := [some (stk 1 k), some (.gen 29 2 n (itG N S)), some (.lst 9 1 [.str s]), none, none, none, some (.gen 29 2 m (rev n N S))]
def spec54L (g : FuncId) (n : Nat) (N : Nat → Int) (S : Nat → List UInt8) (s : List UInt8) : LoopSpX := fun st k F =>
  (n ≤ 1000 ∧ nthV st.tmps 0 = .ptr false 0 0 0 ∧ nthV st.tmps 1 = .fn g [] [.ptr false 2 0 0] ∧ nthV st.tmps 5 = .nils ∧ nthV st.tmps 6 = .ptr false 4 0 0 ∧ nthV st.tmps 7 = .bool true ∧ st.tmps.length = 32 ∧
    st.rows.length = 5 ∧ st.rows.live 0 = some (stk 1 (n + 1)) ∧ st.rows.live 1 = some (.gen 29 2 (n + 1) (itG N S)) ∧ st.rows.live 2 = some (.lst 9 1 [.str s]) ∧ st.rows.live 4 = some (.lst 29 2 [itm (N n) (S n)])) ∧
  ∀ k' m, k' = whileF g s S (n + 1) → k' + m = n + 1 → k .normal ⟨tm54x m, rx54 (n + 1) k' m N S s⟩ F
theorem dup_of {h L : Rows} {f : Nat → Option Nat} (hl : ∀ c o, L[c]? = some o → ViewT f L.length h c o) (hi : ∀ c c' b r r', L.live c = some r → L.live c' = some r' → f c = some b → f c' = some b → c = c') : ViewS f L h where
  inj := hi
  row := fun c r hc => by
    have hlt := live_lt hc
    refine (hl c (L[c]) (List.getElem?_eq_getElem hlt)).row r ?_
    unfold Rows.live at hc
    rw [List.getElem?_eq_getElem hlt] at hc
    simpa using hc
def f54 (a b : Option Nat) : Nat → Option Nat := fun c => match c with | 5 => a | 6 => b | c => some c
/-- Rows of a round, told so. -/
theorem fit54 {R : Nat → RoRow} {n k m a : Nat} {b : Option Nat} {N : Nat → Int} {S : Nat → List UInt8} {s : List UInt8} {x x' : AV} {u : Cp} {k' : Nat} {T T' : List AV} {rows : Rows} {F : Fz} {P : St → Fz → Prop} (hk : k' = k)
    (h0 : rows.live 0 = some (.lst 26 1 [.agg [.sl false 1 0 k' u]])) (h1 : rows.live 1 = some (.gen 29 2 n (itG N S))) (h2 : rows.live 2 = some (.lst 9 1 [.str s])) (ha : rows.live a = some (.lst 29 2 [x'])) (hx : x' = x) (hxo : ones x = true) (hxg : gnd x = true) (ha4 : 4 ≤ a)
    (hb : (b = none ∧ m = 0) ∨ ∃ q m' G, b = some q ∧ 5 ≤ q ∧ q ≠ a ∧ rows.live q = some (.gen 29 2 m' G) ∧ m' = m ∧ ∀ j, j < m → G j = rev n N S j)
    (hT : VwL (f54 (some a) b) 7 T T') (hP : P ⟨T, rw54 n k m N S s x⟩ F) : ToX R [] 5 ⟨T', rows⟩ F P := by
  subst hk; subst hx
  refine ToX.fitS (stE := ⟨T, rw54 n k' m N S s x'⟩) (f54 (some a) b) (dup_of ?_ ?_) hT (fun c hc => by match c, hc with | 0, _ => rfl | 1, _ => rfl | 2, _ => rfl | 3, _ => rfl | 4, _ => rfl) (by simp [rw54]) (ToX.here hP)
  · intro c o ho
    match c, ho with
    | 0, ho => cases ho; exact ViewT.at_ (b := 0) rfl h0 (stk_vw (q := 1) (by simp [rw54]) rfl)
    | 1, ho => cases ho; exact ViewT.at_ (b := 1) rfl h1 (RowS.gen (Nat.le_refl _) fun j hj => ⟨rfl, itm_vw⟩)
    | 2, ho => cases ho; exact ViewT.at_ (b := 2) rfl h2 (RowV.gnd rfl rfl).s
    | 3, ho => cases ho; exact ViewT.none
    | 4, ho => cases ho; exact ViewT.none
    | 5, ho => cases ho; exact ViewT.at_ (b := a) rfl ha (RowV.gnd hxo hxg).s
    | 6, ho =>
      cases ho
      rcases hb with ⟨rfl, rfl⟩ | ⟨q, m', G, rfl, hq5, hqa, hq, rfl, hG⟩
      · exact ViewT.void rfl rfl
      · exact ViewT.at_ (b := q) rfl hq (RowS.gen (Nat.le_refl _) fun j hj => ⟨rfl, by rw [hG j hj]; exact itm_vw⟩)
    | c + 7, ho => simp [rw54] at ho
  · intro c c' b' r r' hc hc' e e'
    have key : ∀ c r, Rows.live (rw54 n k' m N S s x') c = some r → c = 0 ∨ c = 1 ∨ c = 2 ∨ c = 5 ∨ c = 6 := by
      intro c r hc
      match c, hc with
      | 0, _ => exact .inl rfl
      | 1, _ => exact .inr (.inl rfl)
      | 2, _ => exact .inr (.inr (.inl rfl))
      | 3, hc => simp [rw54, Rows.live] at hc
      | 4, hc => simp [rw54, Rows.live] at hc
      | 5, _ => exact .inr (.inr (.inr (.inl rfl)))
      | 6, _ => exact .inr (.inr (.inr (.inr rfl)))
      | c + 7, hc => simp [rw54, Rows.live] at hc
    rcases hb with ⟨rfl, rfl⟩ | ⟨q, m', G, rfl, hq5, hqa, hq, rfl, hG⟩
    · rcases key c r hc with rfl | rfl | rfl | rfl | rfl <;> rcases key c' r' hc' with rfl | rfl | rfl | rfl | rfl <;> simp [f54] at e e' <;> first | rfl | omega
    · rcases key c r hc with rfl | rfl | rfl | rfl | rfl <;> rcases key c' r' hc' with rfl | rfl | rfl | rfl | rfl <;> simp [f54] at e e' <;> first | rfl | omega
theorem exit54 {R : Nat → RoRow} {n k m : Nat} {N : Nat → Int} {S : Nat → List UInt8} {s : List UInt8} {T T' : List AV} {rows : Rows} {F : Fz} {P : St → Fz → Prop}
    (h0 : rows.live 0 = some (stk 1 k)) (h1 : rows.live 1 = some (.gen 29 2 n (itG N S))) (h2 : rows.live 2 = some (.lst 9 1 [.str s])) (h6 : rows.live 6 = some (.gen 29 2 m (rev n N S)))
    (hT : VwL some 7 T T') (hP : P ⟨T, rx54 n k m N S s⟩ F) : ToX R [] 5 ⟨T', rows⟩ F P := by
  refine ToX.fitS (stE := ⟨T, rx54 n k m N S s⟩) some (ViewS.of ?_ (fun c c' b _ _ e e' => by cases e; cases e'; rfl)) hT (fun _ _ => rfl) (by simp [rx54]) (ToX.here hP)
  intro c o ho
  match c, ho with
  | 0, ho => cases ho; exact ViewT.at_ (b := 0) rfl h0 (stk_vw (q := 1) (by simp [rx54]) rfl)
  | 1, ho => cases ho; exact ViewT.at_ (b := 1) rfl h1 (RowS.gen (Nat.le_refl _) fun j hj => ⟨rfl, itm_vw⟩)
  | 2, ho => cases ho; exact ViewT.at_ (b := 2) rfl h2 (RowV.gnd rfl rfl).s
  | 3, ho => cases ho; exact ViewT.none
  | 4, ho => cases ho; exact ViewT.none
  | 5, ho => cases ho; exact ViewT.none
  | 6, ho => cases ho; exact ViewT.at_ (b := 6) rfl h6 (RowS.gen (Nat.le_refl _) fun j hj => ⟨rfl, itm_vw⟩)
  | c + 7, ho => simp [rx54] at ho

theorem spec54L_55 (R : Nat → RoRow) (n : Nat) (N : Nat → Int) (S : Nat → List UInt8) (s : List UInt8) (st : St) (K : Exit → St → Fz → Prop) (F : Fz) (h : spec54L 55 n N S s st K F) : SafeX Try.prog (envW R).R [] (.block 0 (.loop (loopOf fi54 0))) st F K noP := by
  obtain ⟨⟨hn, h0, h1, h5, h6, h7, hl, hrl, r0, r1, r2, r4⟩, hk⟩ := h
  obtain ⟨T, rows⟩ := st
  simp only at h0 h1 h5 h6 h7 hl hrl r0 r1 r2 r4
  refine SafeX.loop_block (Inv := fun mm st' F' => F' = F ∧ ∃ k m, mm = k ∧ k + m = n + 1 ∧ whileF 55 s S k = whileF 55 s S (n + 1) ∧
    ((k = 0 ∧ st' = ⟨tm54 55 m false, rw54 (n + 1) 0 m N S s (itm 0 [])⟩) ∨ ∃ k', k = k' + 1 ∧ st' = ⟨tm54 55 m true, rw54 (n + 1) (k' + 1) m N S s (itm (N k') (S k'))⟩)) ?_ ?_
  · simp only [hrl]
    refine fit54 (T := tm54 55 0 true) (k := n + 1) (m := 0) (a := 4) (b := none) (x := itm (N n) (S n)) rfl r0 r1 r2 r4 rfl rfl rfl (by omega) (.inl ⟨rfl, rfl⟩) ?_ ⟨n + 1, rfl, n + 1, 0, rfl, rfl, rfl, .inr ⟨n, rfl, rfl⟩⟩
    rw [tm54_spr]
    exact VwL.ofKnown hl ⟨by rw [h0]; exact Vw.ptrI (by simp) rfl, by rw [h1]; exact fn1 (by simp) rfl, by rw [h5]; exact Vw.slN (by simp) rfl, by rw [h6]; exact Vw.ptrI (by simp) rfl, by rw [h7]; exact Vw.boolI, trivial⟩
  · simp only [hrl]
    rintro k st' F' ⟨rfl, k0, m, rfl, hkm, hw, ⟨rfl, rfl⟩ | ⟨k, rfl, rfl⟩⟩
    · refine byW (R := R) (f := 54) (fi := fi54) (by kernel_rfl) blk54 1000 (vz55 R (n + 1) 0 m N S s (fun e T rows F2 => match e with
        | .normal => ToX R [] 5 ⟨T, rows⟩ F2 fun st3 F3 => ∃ n', n' < 0 ∧ F3 = F' ∧ ∃ k m, n' = k ∧ k + m = n + 1 ∧ whileF 55 s S k = whileF 55 s S (n + 1) ∧
            ((k = 0 ∧ st3 = ⟨tm54 55 m false, rw54 (n + 1) 0 m N S s (itm 0 [])⟩) ∨ ∃ k', k = k' + 1 ∧ st3 = ⟨tm54 55 m true, rw54 (n + 1) (k' + 1) m N S s (itm (N k') (S k'))⟩)
        | e => ToX R [] 5 ⟨T, rows⟩ F2 fun st3 F3 => K (blockExit 0 e) st3 F3) F') ?_
      refine exit54 (T := tm54x m) (k := 0) rfl rfl rfl rfl ?_ (hk 0 m hw hkm)
      unfold tm54x
      (repeat' (first | with_reducible exact VwL.nil | with_reducible refine VwL.cons ?_ ?_ | with_reducible exact Vw.anyI | with_reducible exact Vw.strI | with_reducible exact Vw.boolI | with_reducible exact Vw.intI | with_reducible exact Vw.nilsI | exact Vw.ptrI (by simp) rfl | exact Vw.slI (by simp) rfl | with_reducible refine Vw.aggI ?_ | exact Vw.gndI rfl))
    · have ew := wrapPred k (by omega)
      have e1 : (0 + (k : Int).toNat) = k := by simp
      refine byW (R := R) (f := 54) (fi := fi54) (by kernel_rfl) blk54 1000 (vs55 R (n + 1) k m N S s (fun e T rows F2 => match e with
        | .normal => ToX R [] 5 ⟨T, rows⟩ F2 fun st3 F3 => ∃ n', n' < k + 1 ∧ F3 = F' ∧ ∃ k m, n' = k ∧ k + m = n + 1 ∧ whileF 55 s S k = whileF 55 s S (n + 1) ∧
            ((k = 0 ∧ st3 = ⟨tm54 55 m false, rw54 (n + 1) 0 m N S s (itm 0 [])⟩) ∨ ∃ k', k = k' + 1 ∧ st3 = ⟨tm54 55 m true, rw54 (n + 1) (k' + 1) m N S s (itm (N k') (S k'))⟩)
        | e => ToX R [] 5 ⟨T, rows⟩ F2 fun st3 F3 => K (blockExit 0 e) st3 F3) F') ?_
      intro b hb
      have ho : whileF 55 s S (k + 1) = (bif goesB 55 s (S k) then whileF 55 s S k else k + 1) := rfl
      rw [ho, ← hb] at hw
      refine hcB (fun hb1 => ?_) (fun hb1 => ?_)
      · rw [hb1, cond_true] at hw
        rw [ew]
        refine hcT (by rw [Bool.and_eq_true]; exact ⟨decide_eq_true (Int.natCast_nonneg k), decide_eq_true (by omega)⟩) (hcT (dlt (by omega)) (hcT ?_ (hcT (capOK (by omega)) ?_)))
        · show (decide (0 ≤ (k : Int)) && decide ((k : Int) ≤ ((k + 1 : Nat) : Int))) = true
          rw [Bool.and_eq_true]
          exact ⟨decide_eq_true (Int.natCast_nonneg k), decide_eq_true (by omega)⟩
        · have e2 : slHi (k + 1) (some (k : Int)) - 0 = k := by simp [slHi]
          have hG : ∀ j, j < m + 1 → (bif j.blt (Src.gen m fun j => rev (n + 1) N S (0 + j)).len then AV.agg [AV.int IntKind.i64 (N (n + 1 - 1 - (0 + j))), AV.str (S (n + 1 - 1 - (0 + j)))] else (Src.lst [AV.agg [AV.int IntKind.i64 (N k), AV.str (S k)]]).at_ (j - (Src.gen m fun j => rev (n + 1) N S (0 + j)).len)) = rev (n + 1) N S j := by
            intro j hj
            rcases Nat.lt_or_ge j m with h | h
            · simp only [Src.len, blt_t h, cond_true, Nat.zero_add]; rfl
            · obtain rfl : j = m := by omega
              have hb : Nat.blt j j = false := by rw [Bool.eq_false_iff]; simp [Nat.blt_eq]
              have e3 : n + 1 - 1 - j = k := by omega
              simp only [Src.len, hb, cond_false, Nat.sub_self]
              show AV.agg [AV.int IntKind.i64 (N k), AV.str (S k)] = AV.agg [AV.int IntKind.i64 (N (n + 1 - 1 - j)), AV.str (S (n + 1 - 1 - j))]
              rw [e3]
          rw [e2]
          cases k with
          | zero =>
            refine hcT rfl ?_
            refine fit54 (T := tm54 55 (m + 1) false) (k := 0) (m := m + 1) (a := 12) (b := some 11) (x := itm 0 []) rfl rfl rfl rfl rfl rfl rfl rfl (by omega) (.inr ⟨11, _, _, rfl, by omega, by omega, rfl, rfl, hG⟩) ?_ ⟨0, by omega, rfl, 0, m + 1, rfl, by omega, hw, .inl ⟨rfl, rfl⟩⟩
            unfold tm54
            (repeat' (first | with_reducible exact VwL.nil | with_reducible refine VwL.cons ?_ ?_ | with_reducible exact Vw.anyI | with_reducible exact Vw.strI | with_reducible exact Vw.boolI | with_reducible exact Vw.intI | with_reducible exact Vw.nilsI | exact Vw.ptrI (by simp) rfl | exact Vw.slI (by simp) rfl | with_reducible refine Vw.aggI ?_ | exact Vw.gndI rfl))
            all_goals exact fn1 (by simp) rfl
          | succ k =>
            have ew2 := wrapPred k (by omega)
            have e5 : (0 + (k : Int).toNat) = k := by simp
            refine hcF (by rw [beq_eq_false_iff_ne]; omega) ?_
            rw [ew2]
            refine hcT (by rw [Bool.and_eq_true]; exact ⟨decide_eq_true (Int.natCast_nonneg k), decide_eq_true (by omega)⟩) (hcT (dlt (by omega)) ?_)
            rw [e5]
            refine fit54 (T := tm54 55 (m + 1) true) (k := k + 1) (m := m + 1) (a := 12) (b := some 11) (x := itm (N k) (S k)) rfl rfl rfl rfl rfl rfl rfl rfl (by omega) (.inr ⟨11, _, _, rfl, by omega, by omega, rfl, rfl, hG⟩) ?_ ⟨k + 1, by omega, rfl, k + 1, m + 1, rfl, by omega, hw, .inr ⟨k, rfl, rfl⟩⟩
            unfold tm54
            (repeat' (first | with_reducible exact VwL.nil | with_reducible refine VwL.cons ?_ ?_ | with_reducible exact Vw.anyI | with_reducible exact Vw.strI | with_reducible exact Vw.boolI | with_reducible exact Vw.intI | with_reducible exact Vw.nilsI | exact Vw.ptrI (by simp) rfl | exact Vw.slI (by simp) rfl | with_reducible refine Vw.aggI ?_ | exact Vw.gndI rfl))
            all_goals exact fn1 (by simp) rfl
      · rw [hb1, cond_false] at hw
        refine exit54 (T := tm54x m) (k := k + 1) rfl rfl rfl rfl ?_ (hk (k + 1) m hw hkm)
        unfold tm54x
        (repeat' (first | with_reducible exact VwL.nil | with_reducible refine VwL.cons ?_ ?_ | with_reducible exact Vw.anyI | with_reducible exact Vw.strI | with_reducible exact Vw.boolI | with_reducible exact Vw.intI | with_reducible exact Vw.nilsI | exact Vw.ptrI (by simp) rfl | exact Vw.slI (by simp) rfl | with_reducible refine Vw.aggI ?_ | exact Vw.gndI rfl))

theorem spec54L_57 (R : Nat → RoRow) (n : Nat) (N : Nat → Int) (S : Nat → List UInt8) (s : List UInt8) (st : St) (K : Exit → St → Fz → Prop) (F : Fz) (h : spec54L 57 n N S s st K F) : SafeX Try.prog (envW R).R [] (.block 0 (.loop (loopOf fi54 0))) st F K noP := by
  obtain ⟨⟨hn, h0, h1, h5, h6, h7, hl, hrl, r0, r1, r2, r4⟩, hk⟩ := h
  obtain ⟨T, rows⟩ := st
  simp only at h0 h1 h5 h6 h7 hl hrl r0 r1 r2 r4
  refine SafeX.loop_block (Inv := fun mm st' F' => F' = F ∧ ∃ k m, mm = k ∧ k + m = n + 1 ∧ whileF 57 s S k = whileF 57 s S (n + 1) ∧
    ((k = 0 ∧ st' = ⟨tm54 57 m false, rw54 (n + 1) 0 m N S s (itm 0 [])⟩) ∨ ∃ k', k = k' + 1 ∧ st' = ⟨tm54 57 m true, rw54 (n + 1) (k' + 1) m N S s (itm (N k') (S k'))⟩)) ?_ ?_
  · simp only [hrl]
    refine fit54 (T := tm54 57 0 true) (k := n + 1) (m := 0) (a := 4) (b := none) (x := itm (N n) (S n)) rfl r0 r1 r2 r4 rfl rfl rfl (by omega) (.inl ⟨rfl, rfl⟩) ?_ ⟨n + 1, rfl, n + 1, 0, rfl, rfl, rfl, .inr ⟨n, rfl, rfl⟩⟩
    rw [tm54_spr]
    exact VwL.ofKnown hl ⟨by rw [h0]; exact Vw.ptrI (by simp) rfl, by rw [h1]; exact fn1 (by simp) rfl, by rw [h5]; exact Vw.slN (by simp) rfl, by rw [h6]; exact Vw.ptrI (by simp) rfl, by rw [h7]; exact Vw.boolI, trivial⟩
  · simp only [hrl]
    rintro k st' F' ⟨rfl, k0, m, rfl, hkm, hw, ⟨rfl, rfl⟩ | ⟨k, rfl, rfl⟩⟩
    · refine byW (R := R) (f := 54) (fi := fi54) (by kernel_rfl) blk54 1000 (vz57 R (n + 1) 0 m N S s (fun e T rows F2 => match e with
        | .normal => ToX R [] 5 ⟨T, rows⟩ F2 fun st3 F3 => ∃ n', n' < 0 ∧ F3 = F' ∧ ∃ k m, n' = k ∧ k + m = n + 1 ∧ whileF 57 s S k = whileF 57 s S (n + 1) ∧
            ((k = 0 ∧ st3 = ⟨tm54 57 m false, rw54 (n + 1) 0 m N S s (itm 0 [])⟩) ∨ ∃ k', k = k' + 1 ∧ st3 = ⟨tm54 57 m true, rw54 (n + 1) (k' + 1) m N S s (itm (N k') (S k'))⟩)
        | e => ToX R [] 5 ⟨T, rows⟩ F2 fun st3 F3 => K (blockExit 0 e) st3 F3) F') ?_
      refine exit54 (T := tm54x m) (k := 0) rfl rfl rfl rfl ?_ (hk 0 m hw hkm)
      unfold tm54x
      (repeat' (first | with_reducible exact VwL.nil | with_reducible refine VwL.cons ?_ ?_ | with_reducible exact Vw.anyI | with_reducible exact Vw.strI | with_reducible exact Vw.boolI | with_reducible exact Vw.intI | with_reducible exact Vw.nilsI | exact Vw.ptrI (by simp) rfl | exact Vw.slI (by simp) rfl | with_reducible refine Vw.aggI ?_ | exact Vw.gndI rfl))
    · have ew := wrapPred k (by omega)
      have e1 : (0 + (k : Int).toNat) = k := by simp
      refine byW (R := R) (f := 54) (fi := fi54) (by kernel_rfl) blk54 1000 (vs57 R (n + 1) k m N S s (fun e T rows F2 => match e with
        | .normal => ToX R [] 5 ⟨T, rows⟩ F2 fun st3 F3 => ∃ n', n' < k + 1 ∧ F3 = F' ∧ ∃ k m, n' = k ∧ k + m = n + 1 ∧ whileF 57 s S k = whileF 57 s S (n + 1) ∧
            ((k = 0 ∧ st3 = ⟨tm54 57 m false, rw54 (n + 1) 0 m N S s (itm 0 [])⟩) ∨ ∃ k', k = k' + 1 ∧ st3 = ⟨tm54 57 m true, rw54 (n + 1) (k' + 1) m N S s (itm (N k') (S k'))⟩)
        | e => ToX R [] 5 ⟨T, rows⟩ F2 fun st3 F3 => K (blockExit 0 e) st3 F3) F') ?_
      intro b hb
      have ho : whileF 57 s S (k + 1) = (bif goesB 57 s (S k) then whileF 57 s S k else k + 1) := rfl
      rw [ho, ← hb] at hw
      refine hcB (fun hb1 => ?_) (fun hb1 => ?_)
      · rw [hb1, cond_true] at hw
        rw [ew]
        refine hcT (by rw [Bool.and_eq_true]; exact ⟨decide_eq_true (Int.natCast_nonneg k), decide_eq_true (by omega)⟩) (hcT (dlt (by omega)) (hcT ?_ (hcT (capOK (by omega)) ?_)))
        · show (decide (0 ≤ (k : Int)) && decide ((k : Int) ≤ ((k + 1 : Nat) : Int))) = true
          rw [Bool.and_eq_true]
          exact ⟨decide_eq_true (Int.natCast_nonneg k), decide_eq_true (by omega)⟩
        · have e2 : slHi (k + 1) (some (k : Int)) - 0 = k := by simp [slHi]
          have hG : ∀ j, j < m + 1 → (bif j.blt (Src.gen m fun j => rev (n + 1) N S (0 + j)).len then AV.agg [AV.int IntKind.i64 (N (n + 1 - 1 - (0 + j))), AV.str (S (n + 1 - 1 - (0 + j)))] else (Src.lst [AV.agg [AV.int IntKind.i64 (N k), AV.str (S k)]]).at_ (j - (Src.gen m fun j => rev (n + 1) N S (0 + j)).len)) = rev (n + 1) N S j := by
            intro j hj
            rcases Nat.lt_or_ge j m with h | h
            · simp only [Src.len, blt_t h, cond_true, Nat.zero_add]; rfl
            · obtain rfl : j = m := by omega
              have hb : Nat.blt j j = false := by rw [Bool.eq_false_iff]; simp [Nat.blt_eq]
              have e3 : n + 1 - 1 - j = k := by omega
              simp only [Src.len, hb, cond_false, Nat.sub_self]
              show AV.agg [AV.int IntKind.i64 (N k), AV.str (S k)] = AV.agg [AV.int IntKind.i64 (N (n + 1 - 1 - j)), AV.str (S (n + 1 - 1 - j))]
              rw [e3]
          rw [e2]
          cases k with
          | zero =>
            refine hcT rfl ?_
            refine fit54 (T := tm54 57 (m + 1) false) (k := 0) (m := m + 1) (a := 12) (b := some 11) (x := itm 0 []) rfl rfl rfl rfl rfl rfl rfl rfl (by omega) (.inr ⟨11, _, _, rfl, by omega, by omega, rfl, rfl, hG⟩) ?_ ⟨0, by omega, rfl, 0, m + 1, rfl, by omega, hw, .inl ⟨rfl, rfl⟩⟩
            unfold tm54
            (repeat' (first | with_reducible exact VwL.nil | with_reducible refine VwL.cons ?_ ?_ | with_reducible exact Vw.anyI | with_reducible exact Vw.strI | with_reducible exact Vw.boolI | with_reducible exact Vw.intI | with_reducible exact Vw.nilsI | exact Vw.ptrI (by simp) rfl | exact Vw.slI (by simp) rfl | with_reducible refine Vw.aggI ?_ | exact Vw.gndI rfl))
            all_goals exact fn1 (by simp) rfl
          | succ k =>
            have ew2 := wrapPred k (by omega)
            have e5 : (0 + (k : Int).toNat) = k := by simp
            refine hcF (by rw [beq_eq_false_iff_ne]; omega) ?_
            rw [ew2]
            refine hcT (by rw [Bool.and_eq_true]; exact ⟨decide_eq_true (Int.natCast_nonneg k), decide_eq_true (by omega)⟩) (hcT (dlt (by omega)) ?_)
            rw [e5]
            refine fit54 (T := tm54 57 (m + 1) true) (k := k + 1) (m := m + 1) (a := 12) (b := some 11) (x := itm (N k) (S k)) rfl rfl rfl rfl rfl rfl rfl rfl (by omega) (.inr ⟨11, _, _, rfl, by omega, by omega, rfl, rfl, hG⟩) ?_ ⟨k + 1, by omega, rfl, k + 1, m + 1, rfl, by omega, hw, .inr ⟨k, rfl, rfl⟩⟩
            unfold tm54
            (repeat' (first | with_reducible exact VwL.nil | with_reducible refine VwL.cons ?_ ?_ | with_reducible exact Vw.anyI | with_reducible exact Vw.strI | with_reducible exact Vw.boolI | with_reducible exact Vw.intI | with_reducible exact Vw.nilsI | exact Vw.ptrI (by simp) rfl | exact Vw.slI (by simp) rfl | with_reducible refine Vw.aggI ?_ | exact Vw.gndI rfl))
            all_goals exact fn1 (by simp) rfl
      · rw [hb1, cond_false] at hw
        refine exit54 (T := tm54x m) (k := k + 1) rfl rfl rfl rfl ?_ (hk (k + 1) m hw hkm)
        unfold tm54x
        (repeat' (first | with_reducible exact VwL.nil | with_reducible refine VwL.cons ?_ ?_ | with_reducible exact Vw.anyI | with_reducible exact Vw.strI | with_reducible exact Vw.boolI | with_reducible exact Vw.intI | with_reducible exact Vw.nilsI | exact Vw.ptrI (by simp) rfl | exact Vw.slI (by simp) rfl | with_reducible refine Vw.aggI ?_ | exact Vw.gndI rfl))

end Go.Dc.Kb
end
section
set_option linter.unusedVariables false
set_option linter.unusedSimpArgs false
namespace Go.Dc.Kb
open Go.Proofs Go.RowKit
set_option maxRecDepth 100000
def tq27 (q n : Nat) (fr : Int) (m : Nat) (k : Int) : List AV := [.sl false 0 0 n .no, .int .i64 fr, .any, .any, .any, .sl false q 0 m .no, .int .i64 k, .any, .any, .any, .any, .any, .any, .any, .any, .any, .any, .any, .any, .any, .any, .any, .any]
theorem tq27_spr (q n : Nat) (fr : Int) (m : Nat) (k : Int) : tq27 q n fr m k = spr [(0, .sl false 0 0 n .no), (1, .int .i64 fr), (5, .sl false q 0 m .no), (6, .int .i64 k)] 0 23 := by kernel_rfl

end Go.Dc.Kb
end
section
set_option linter.unusedVariables false
set_option linter.unusedSimpArgs false
namespace Go.Dc.Kb
open Go.Proofs Go.RowKit
set_option maxRecDepth 100000
theorem vc26 (R : Nat → RoRow) (N : Nat → Int) (S : Nat → List UInt8) (s : List UInt8) (q : AV → Rows → Fz → Prop) (F : Fz) (n : Nat) : vcx ((envW R).addLoop 54 0 (spec54L 55 n N S s)) 1000 26 fi26 [.ptr false 0 0 0, .str s] (stR (n + 1) N S) q F = (bif decide (0 ≤ IntKind.i64.wrap ((↑(n + 1) : Int) - 1)) && decide (IntKind.i64.wrap ((↑(n + 1) : Int) - 1) < (↑(n + 1) : Int)) then bif decide (0 + (IntKind.i64.wrap ((↑(n + 1) : Int) - 1)).toNat < n + 1) then (n.le 1000 ∧ AV.ptr false 0 0 0 = AV.ptr false 0 0 0 ∧ AV.fn 55 [] [AV.ptr false 2 0 0] = AV.fn 55 [] [AV.ptr false 2 0 0] ∧ AV.nils = AV.nils ∧ AV.ptr false 4 0 0 = AV.ptr false 4 0 0 ∧ AV.bool true = AV.bool true ∧ 32 = 32 ∧ 5 = 5 ∧ some (Row.lst 26 1 [AV.agg [AV.sl false 1 0 (n + 1) Cp.no]]) = some (Row.lst 26 1 [AV.agg [AV.sl false 1 0 (n + 1) Cp.no]]) ∧ some (Row.gen 29 2 (n + 1) fun (j : Nat) => itm (N j) (S j)) = some (Row.gen 29 2 (n + 1) fun (j : Nat) => itm (N j) (S j)) ∧ some (Row.lst 9 1 [AV.str s]) = some (Row.lst 9 1 [AV.str s]) ∧ some (Row.lst 29 2 [AV.agg [AV.int IntKind.i64 (N (0 + (IntKind.i64.wrap ((↑(n + 1) : Int) - 1)).toNat)), AV.str (S (0 + (IntKind.i64.wrap ((↑(n + 1) : Int) - 1)).toNat))]]) = some (Row.lst 29 2 [AV.agg [AV.int IntKind.i64 (N n), AV.str (S n)]])) ∧ ∀ (k' m : Nat), k' = whileF 55 s S (n + 1) → k' + m = n + 1 → bif (↑k' : Int) == 0 then q (AV.sl false 6 0 m Cp.no) [some (Row.lst 26 1 [AV.agg [AV.sl false 1 0 k' Cp.no]]), some (Row.gen 29 2 (n + 1) fun (j : Nat) => itm (N j) (S j)), some (Row.lst 9 1 [AV.str s]), none, none, none, some (Row.gen 29 2 m fun (j : Nat) => itm (N (n + 1 - 1 - j)) (S (n + 1 - 1 - j))), some (Row.lst 29 2 [AV.agg [AV.int IntKind.i64 0, AV.str []]]), some (Row.lst 29 2 [AV.agg [AV.int IntKind.i64 0, AV.str []]]), some (Row.lst 29 2 [AV.agg [AV.int IntKind.i64 0, AV.str []]]), some (Row.lst 29 2 [AV.agg [AV.int IntKind.i64 0, AV.str []]])] F else bif decide (0 ≤ IntKind.i64.wrap ((↑k' : Int) - 1)) && decide (IntKind.i64.wrap ((↑k' : Int) - 1) < (↑k' : Int)) then bif decide (0 + (IntKind.i64.wrap ((↑k' : Int) - 1)).toNat < n + 1) then bif slCondE none (some (IntKind.i64.wrap ((↑k' : Int) - 1))) k' (cpEnd Cp.no k') then bif decide (0 + m ≤ m) && (true && (true && decide (((Src.gen m fun (j : Nat) => rev (n + 1) N S (0 + j)).len + 1) * 24 ≤ 140737488355328))) then q (AV.sl false 12 0 ((Src.gen m fun (j : Nat) => rev (n + 1) N S (0 + j)).len + 1) Cp.no) [some (Row.lst 26 1 [AV.agg [AV.sl false 1 0 (slHi k' (some (IntKind.i64.wrap ((↑k' : Int) - 1))) - 0) (Cp.room (k' - (IntKind.i64.wrap ((↑k' : Int) - 1)).toNat))]]), some (Row.gen 29 2 (n + 1) fun (j : Nat) => itm (N j) (S j)), some (Row.lst 9 1 [AV.str s]), none, none, none, none, some (Row.lst 29 2 [AV.agg [AV.int IntKind.i64 (N (0 + (IntKind.i64.wrap ((↑k' : Int) - 1)).toNat)), AV.str (S (0 + (IntKind.i64.wrap ((↑k' : Int) - 1)).toNat))]]), some (Row.lst 29 2 [AV.agg [AV.int IntKind.i64 (N (0 + (IntKind.i64.wrap ((↑k' : Int) - 1)).toNat)), AV.str (S (0 + (IntKind.i64.wrap ((↑k' : Int) - 1)).toNat))]]), some (Row.lst 29 2 [AV.agg [AV.int IntKind.i64 (N (0 + (IntKind.i64.wrap ((↑k' : Int) - 1)).toNat)), AV.str (S (0 + (IntKind.i64.wrap ((↑k' : Int) - 1)).toNat))]]), some (Row.lst 29 2 [AV.agg [AV.int IntKind.i64 (N (0 + (IntKind.i64.wrap ((↑k' : Int) - 1)).toNat)), AV.str (S (0 + (IntKind.i64.wrap ((↑k' : Int) - 1)).toNat))]]), some (Row.lst 29 2 [AV.agg [AV.int IntKind.i64 (N (0 + (IntKind.i64.wrap ((↑k' : Int) - 1)).toNat)), AV.str (S (0 + (IntKind.i64.wrap ((↑k' : Int) - 1)).toNat))]]), some (Row.gen 29 2 ((Src.gen m fun (j : Nat) => rev (n + 1) N S (0 + j)).len + 1) fun (j : Nat) => bif j.blt (Src.gen m fun (j : Nat) => rev (n + 1) N S (0 + j)).len then AV.agg [AV.int IntKind.i64 (N (n + 1 - 1 - (0 + j))), AV.str (S (n + 1 - 1 - (0 + j)))] else (Src.lst [AV.agg [AV.int IntKind.i64 (N (0 + (IntKind.i64.wrap ((↑k' : Int) - 1)).toNat)), AV.str (S (0 + (IntKind.i64.wrap ((↑k' : Int) - 1)).toNat))]]).at_ (j - (Src.gen m fun (j : Nat) => rev (n + 1) N S (0 + j)).len))] F else False else False else False else False else False else False) := by kernel_rfl
theorem vc26z (R : Nat → RoRow) (N : Nat → Int) (S : Nat → List UInt8) (s : List UInt8) (q : AV → Rows → Fz → Prop) (F : Fz) : vcx (envW R) 1000 26 fi26 [.ptr false 0 0 0, .str s] (stR 0 N S) q F = (q AV.nils [some (Row.lst 26 1 [AV.agg [AV.sl false 1 0 0 Cp.no]]), some (Row.gen 29 2 0 fun (j : Nat) => itm (N j) (S j)), some (Row.lst 9 1 [AV.str s]), some (Row.lst 29 2 [AV.agg [AV.int IntKind.i64 0, AV.str []]]), some (Row.lst 29 2 [AV.agg [AV.int IntKind.i64 0, AV.str []]]), some (Row.lst 29 2 [AV.agg [AV.int IntKind.i64 0, AV.str []]]), some (Row.lst 29 2 [AV.agg [AV.int IntKind.i64 0, AV.str []]]), some (Row.lst 29 2 [AV.agg [AV.int IntKind.i64 0, AV.str []]]), some (Row.lst 29 2 [AV.agg [AV.int IntKind.i64 0, AV.str []]])] F) := by kernel_rfl
theorem vc29 (R : Nat → RoRow) (N : Nat → Int) (S : Nat → List UInt8) (s : List UInt8) (q : AV → Rows → Fz → Prop) (F : Fz) (n : Nat) : vcx ((envW R).addLoop 54 0 (spec54L 57 n N S s)) 1000 29 fi29 [.ptr false 0 0 0, .str s] (stR (n + 1) N S) q F = (bif decide (0 ≤ IntKind.i64.wrap ((↑(n + 1) : Int) - 1)) && decide (IntKind.i64.wrap ((↑(n + 1) : Int) - 1) < (↑(n + 1) : Int)) then bif decide (0 + (IntKind.i64.wrap ((↑(n + 1) : Int) - 1)).toNat < n + 1) then (n.le 1000 ∧ AV.ptr false 0 0 0 = AV.ptr false 0 0 0 ∧ AV.fn 57 [] [AV.ptr false 2 0 0] = AV.fn 57 [] [AV.ptr false 2 0 0] ∧ AV.nils = AV.nils ∧ AV.ptr false 4 0 0 = AV.ptr false 4 0 0 ∧ AV.bool true = AV.bool true ∧ 32 = 32 ∧ 5 = 5 ∧ some (Row.lst 26 1 [AV.agg [AV.sl false 1 0 (n + 1) Cp.no]]) = some (Row.lst 26 1 [AV.agg [AV.sl false 1 0 (n + 1) Cp.no]]) ∧ some (Row.gen 29 2 (n + 1) fun (j : Nat) => itm (N j) (S j)) = some (Row.gen 29 2 (n + 1) fun (j : Nat) => itm (N j) (S j)) ∧ some (Row.lst 9 1 [AV.str s]) = some (Row.lst 9 1 [AV.str s]) ∧ some (Row.lst 29 2 [AV.agg [AV.int IntKind.i64 (N (0 + (IntKind.i64.wrap ((↑(n + 1) : Int) - 1)).toNat)), AV.str (S (0 + (IntKind.i64.wrap ((↑(n + 1) : Int) - 1)).toNat))]]) = some (Row.lst 29 2 [AV.agg [AV.int IntKind.i64 (N n), AV.str (S n)]])) ∧ ∀ (k' m : Nat), k' = whileF 57 s S (n + 1) → k' + m = n + 1 → q (AV.sl false 6 0 m Cp.no) [some (Row.lst 26 1 [AV.agg [AV.sl false 1 0 k' Cp.no]]), some (Row.gen 29 2 (n + 1) fun (j : Nat) => itm (N j) (S j)), some (Row.lst 9 1 [AV.str s]), none, none, none, some (Row.gen 29 2 m fun (j : Nat) => itm (N (n + 1 - 1 - j)) (S (n + 1 - 1 - j)))] F else False else False) := by kernel_rfl
theorem vc29z (R : Nat → RoRow) (N : Nat → Int) (S : Nat → List UInt8) (s : List UInt8) (q : AV → Rows → Fz → Prop) (F : Fz) : vcx (envW R) 1000 29 fi29 [.ptr false 0 0 0, .str s] (stR 0 N S) q F = (q AV.nils [some (Row.lst 26 1 [AV.agg [AV.sl false 1 0 0 Cp.no]]), some (Row.gen 29 2 0 fun (j : Nat) => itm (N j) (S j)), some (Row.lst 9 1 [AV.str s]), some (Row.lst 29 2 [AV.agg [AV.int IntKind.i64 0, AV.str []]]), some (Row.lst 29 2 [AV.agg [AV.int IntKind.i64 0, AV.str []]])] F) := by kernel_rfl
theorem vz27 (R : Nat → RoRow) (n : Nat) (N : Nat → Int) (S : Nat → List UInt8) (m : Nat) (q : Exit → List AV → Rows → Fz → Prop) (F : Fz) : rnx (bx R) 1000 27 (loopOf fi27 0) ⟨tq27 1 n 0 m (-1), [some (.gen 57 2 n (itG N S)), some (.gen 57 2 m (itG (fun j => N (n - 1 - j)) (fun j => S (n - 1 - j))))]⟩ (fun e st => q e st.tmps st.rows) F = (q (Exit.exit 0) [AV.sl false 0 0 n Cp.no, AV.int IntKind.i64 0, AV.any, AV.any, AV.any, AV.sl false 1 0 m Cp.no, AV.int IntKind.i64 (-1), AV.any, AV.any, AV.any, AV.int IntKind.i64 (-1), AV.int IntKind.i64 0, AV.bool false, AV.any, AV.any, AV.any, AV.any, AV.any, AV.any, AV.any, AV.any, AV.any, AV.any] [some (Row.gen 57 2 n fun (j : Nat) => itm (N j) (S j)), some (Row.gen 57 2 m fun (j : Nat) => itm (N (n - 1 - j)) (S (n - 1 - j)))] F) := by kernel_rfl
theorem vr27 (R : Nat → RoRow) (n : Nat) (N : Nat → Int) (S : Nat → List UInt8) (m fr k : Nat) (q : Exit → List AV → Rows → Fz → Prop) (F : Fz) : rnx (bx R) 1000 27 (loopOf fi27 0) ⟨tq27 1 n (fr : Nat) m (k : Nat), [some (.gen 57 2 n (itG N S)), some (.gen 57 2 m (itG (fun j => N (n - 1 - j)) (fun j => S (n - 1 - j))))]⟩ (fun e st => q e st.tmps st.rows) F = (bif decide ((↑k : Int) ≥ (↑fr : Int)) then bif true && decide ((↑k : Int) < (↑n : Int)) then bif decide (0 + (↑k : Int).toNat < n) then bif decide (0 + m ≤ m) && (true && (true && decide (((Src.gen m fun (j : Nat) => itG (fun (j : Nat) => N (n - 1 - j)) (fun (j : Nat) => S (n - 1 - j)) (0 + j)).len + 1) * 24 ≤ 140737488355328))) then q Exit.normal [AV.sl false 0 0 n Cp.no, AV.int IntKind.i64 (↑fr : Int), AV.any, AV.any, AV.any, AV.sl false 3 0 ((Src.gen m fun (j : Nat) => itG (fun (j : Nat) => N (n - 1 - j)) (fun (j : Nat) => S (n - 1 - j)) (0 + j)).len + 1) Cp.no, AV.int IntKind.i64 (IntKind.i64.wrap ((↑k : Int) - 1)), AV.any, AV.any, AV.any, AV.int IntKind.i64 (↑k : Int), AV.int IntKind.i64 (↑fr : Int), AV.bool true, AV.int IntKind.i64 (↑k : Int), AV.int IntKind.i64 (IntKind.i64.wrap ((↑k : Int) - 1)), AV.sl false 1 0 m Cp.no, AV.sl false 0 0 n Cp.no, AV.int IntKind.i64 (↑k : Int), AV.ptr false 0 (0 + (↑k : Int).toNat) 0, AV.agg [AV.int IntKind.i64 (N (0 + (↑k : Int).toNat)), AV.str (S (0 + (↑k : Int).toNat))], AV.sl false 2 0 1 Cp.tight, AV.sl false 3 0 ((Src.gen m fun (j : Nat) => itG (fun (j : Nat) => N (n - 1 - j)) (fun (j : Nat) => S (n - 1 - j)) (0 + j)).len + 1) Cp.no, AV.any] [some (Row.gen 57 2 n fun (j : Nat) => itm (N j) (S j)), none, some (Row.lst 57 2 [AV.agg [AV.int IntKind.i64 (N (0 + (↑k : Int).toNat)), AV.str (S (0 + (↑k : Int).toNat))]]), some (Row.gen 57 2 ((Src.gen m fun (j : Nat) => itG (fun (j : Nat) => N (n - 1 - j)) (fun (j : Nat) => S (n - 1 - j)) (0 + j)).len + 1) fun (j : Nat) => bif j.blt (Src.gen m fun (j : Nat) => itG (fun (j : Nat) => N (n - 1 - j)) (fun (j : Nat) => S (n - 1 - j)) (0 + j)).len then AV.agg [AV.int IntKind.i64 (N (n - 1 - (0 + j))), AV.str (S (n - 1 - (0 + j)))] else (Src.lst [AV.agg [AV.int IntKind.i64 (N (0 + (↑k : Int).toNat)), AV.str (S (0 + (↑k : Int).toNat))]]).at_ (j - (Src.gen m fun (j : Nat) => itG (fun (j : Nat) => N (n - 1 - j)) (fun (j : Nat) => S (n - 1 - j)) (0 + j)).len))] F else False else False else False else q (Exit.exit 0) [AV.sl false 0 0 n Cp.no, AV.int IntKind.i64 (↑fr : Int), AV.any, AV.any, AV.any, AV.sl false 1 0 m Cp.no, AV.int IntKind.i64 (↑k : Int), AV.any, AV.any, AV.any, AV.int IntKind.i64 (↑k : Int), AV.int IntKind.i64 (↑fr : Int), AV.bool false, AV.any, AV.any, AV.any, AV.any, AV.any, AV.any, AV.any, AV.any, AV.any, AV.any] [some (Row.gen 57 2 n fun (j : Nat) => itm (N j) (S j)), some (Row.gen 57 2 m fun (j : Nat) => itm (N (n - 1 - j)) (S (n - 1 - j)))] F) := by kernel_rfl

theorem until_while (s : List UInt8) (S : Nat → List UInt8) : ∀ n, (whileF 55 s S n = 0 → untilF S s n = 0) ∧ ∀ k, whileF 55 s S n = k + 1 → untilF S s n = k
  | 0 => ⟨fun _ => rfl, fun k h => by simp [whileF] at h⟩
  | n + 1 => by
    obtain ⟨h0, h1⟩ := until_while s S n
    simp only [whileF, untilF, show goesB 55 s (S n) = !(S n == s) from rfl]
    cases S n == s
    · simp only [Bool.not_false, cond_true, cond_false]; exact ⟨h0, h1⟩
    · simp only [Bool.not_true, cond_true, cond_false]; exact ⟨fun h => by omega, fun k h => by omega⟩
theorem imp_while (s : List UInt8) (S : Nat → List UInt8) : ∀ n, whileF 57 s S n = impF S s n
  | 0 => rfl
  | n + 1 => by
    simp only [whileF, impF, imp_while s S n]
    rfl
def pure26 : PureM := fun n N S as_ K => match as_ with
  | [.str s] => n ≤ 1000 ∧ ∀ m k, m = untilF S s n → m + k = n → K (.sl false 2 0 k .no) (stR m N S) [some (.gen 29 2 k (rev n N S))]
  | _ => False
def pure29 : PureM := fun n N S as_ K => match as_ with
  | [.str s] => n ≤ 1000 ∧ ∀ m k, m = impF S s n → m + k = n → K (.sl false 2 0 k .no) (stR m N S) [some (.gen 29 2 k (rev n N S))]
  | _ => False
/-- The end taken away, and handed out. -/
theorem toRun {R : Nat → RoRow} {K : AV → Rows → Rows → Prop} {F : Fz} {n m k m' k' d : Nat} {N : Nat → Int} {S : Nat → List UInt8} {u : Cp} {rows : Rows} {G : Nat → AV} (hm : m' = m) (hk : k' = k) (hmn : m ≤ n) (hd : 2 ≤ d)
    (h0 : rows.live 0 = some (.lst 26 1 [.agg [.sl false 1 0 m' u]])) (h1 : rows.live 1 = some (.gen 29 2 n (itG N S))) (h2 : rows.live d = some (.gen 29 2 k' G)) (hG : ∀ j, j < k → G j = rev n N S j)
    (hK : K (.sl false 2 0 k .no) (stR m N S) [some (.gen 29 2 k (rev n N S))]) : ToV R 2 (.sl false d 0 k' .no) rows F (OutM K F) := by
  subst hm; subst hk
  refine toM (stR m' N S) [some (.gen 29 2 k' (rev n N S))] (fun c => match c with | 0 => some 0 | 1 => some 1 | 2 => some d | _ + 3 => none) rfl (ViewS.of ?_ ?_) (Vw.slI (by simp) rfl) (fun c hc => by match c, hc with | 0, _ => rfl | 1, _ => rfl) hK
  · intro c o ho
    match c, ho with
    | 0, ho => cases ho; exact ViewT.at_ (b := 0) rfl h0 (stk_vw (q := 1) (by simp) rfl)
    | 1, ho => cases ho; exact ViewT.at_ (b := 1) rfl h1 (RowS.gen hmn fun j hj => ⟨rfl, itm_vw⟩)
    | 2, ho => cases ho; exact ViewT.at_ (b := d) rfl h2 (RowS.gen (Nat.le_refl _) fun j hj => ⟨rfl, by rw [hG j hj]; exact itm_vw⟩)
    | c + 3, ho => simp at ho
  · intro c c' b hc hc' e1 e2
    simp at hc hc'
    match c, c', hc, hc' with
    | 0, 0, _, _ => rfl
    | 1, 1, _, _ => rfl
    | 2, 2, _, _ => rfl
    | 0, 1, _, _ => cases e1; cases e2
    | 1, 0, _, _ => cases e1; cases e2
    | 0, 2, _, _ => cases e1; cases e2; omega
    | 1, 2, _, _ => cases e1; cases e2; omega
    | 2, 0, _, _ => cases e1; cases e2; omega
    | 2, 1, _, _ => cases e1; cases e2; omega
theorem toNone {R : Nat → RoRow} {K : AV → Rows → Rows → Prop} {F : Fz} {N : Nat → Int} {S : Nat → List UInt8} {rows : Rows}
    (h0 : rows.live 0 = some (.lst 26 1 [.agg [.sl false 1 0 0 .no]])) (h1 : rows.live 1 = some (.gen 29 2 0 (itG N S))) (hK : K (.sl false 2 0 0 .no) (stR 0 N S) [some (.gen 29 2 0 (rev 0 N S))]) : ToV R 2 .nils rows F (OutM K F) := by
  refine toM (stR 0 N S) [some (.gen 29 2 0 (rev 0 N S))] (fun c => match c with | 0 => some 0 | 1 => some 1 | _ + 2 => none) rfl (ViewS.of ?_ (inj_of (N := 3) (by decide))) (Vw.slN (by simp) rfl) (fun c hc => by match c, hc with | 0, _ => rfl | 1, _ => rfl) hK
  intro c o ho
  match c, ho with
  | 0, ho => cases ho; exact ViewT.at_ (b := 0) rfl h0 (stk_vw (q := 1) (by simp) rfl)
  | 1, ho => cases ho; exact ViewT.at_ (b := 1) rfl h1 (RowS.gen (Nat.le_refl _) fun j hj => ⟨rfl, itm_vw⟩)
  | 2, ho => cases ho; exact ViewT.void rfl rfl
  | c + 3, ho => simp at ho
theorem pure26_ok : PureOK 26 pure26 := by
  intro R n N S as_ K F hp
  unfold pure26 at hp
  split at hp
  · rename_i s
    obtain ⟨hn, hp⟩ := hp
    cases n with
    | zero => exact byM (byX (envW_ok R) (f := 26) (fi := fi26) (by kernel_rfl) 1000 (vc26z R N S s (fun v h' F' => F' = F ∧ ToV R 2 v h' F (OutM K F)) F) ⟨rfl, toNone rfl rfl (hp 0 0 rfl rfl)⟩)
    | succ n =>
      have ew := wrapPred n (by omega)
      refine byM (byX ((envW_ok R).addLoop (f := 54) (fi := fi54) (by kernel_rfl) blk54 (spec54L_55 R n N S s)) (f := 26) (fi := fi26) (by kernel_rfl) 1000 (vc26 R N S s (fun v h' F' => F' = F ∧ ToV R 2 v h' F (OutM K F)) F n) ?_)
      rw [ew]
      have e1 : (0 + (n : Int).toNat) = n := by simp
      refine hcT (by rw [Bool.and_eq_true]; exact ⟨decide_eq_true (Int.natCast_nonneg n), decide_eq_true (by omega)⟩) (hcT (dlt (by omega)) ⟨⟨(show n ≤ 1000 from by omega), rfl, rfl, rfl, rfl, rfl, rfl, rfl, rfl, rfl, rfl, by rw [e1]⟩, ?_⟩)
      intro k' m hk hkm
      obtain ⟨u0, u1⟩ := until_while s S (n + 1)
      rw [← hk] at u0 u1
      cases k' with
      | zero =>
        refine hcT rfl ⟨rfl, ?_⟩
        exact toRun (m := 0) (k := m) (d := 6) rfl rfl (by omega) (by omega) rfl rfl rfl (fun j hj => rfl) (hp 0 m (u0 rfl).symm (by omega))
      | succ k =>
        have ew2 := wrapPred k (by omega)
        have e2 : (0 + (k : Int).toNat) = k := by simp
        rw [ew2]
        refine hcF (by rw [beq_eq_false_iff_ne]; omega) (hcT (by rw [Bool.and_eq_true]; exact ⟨decide_eq_true (Int.natCast_nonneg k), decide_eq_true (by omega)⟩) (hcT (dlt (by omega)) (hcT ?_ (hcT (capOK (by omega)) ⟨rfl, ?_⟩))))
        · show (decide (0 ≤ (k : Int)) && decide ((k : Int) ≤ ((k + 1 : Nat) : Int))) = true
          rw [Bool.and_eq_true]
          exact ⟨decide_eq_true (Int.natCast_nonneg k), decide_eq_true (by omega)⟩
        · refine toRun (m := k) (k := m + 1) (d := 12) (by simp [slHi]) rfl (by omega) (by omega) rfl rfl rfl ?_ (hp k (m + 1) (u1 k rfl).symm (by omega))
          intro j hj
          rw [e2]
          rcases Nat.lt_or_ge j m with h | h
          · simp only [Src.len, blt_t h, cond_true, Nat.zero_add]; rfl
          · obtain rfl : j = m := by omega
            have hb : Nat.blt j j = false := by rw [Bool.eq_false_iff]; simp [Nat.blt_eq]
            have e3 : n + 1 - 1 - j = k := by omega
            simp only [Src.len, hb, cond_false, Nat.sub_self]
            show AV.agg [AV.int IntKind.i64 (N k), AV.str (S k)] = AV.agg [AV.int IntKind.i64 (N (n + 1 - 1 - j)), AV.str (S (n + 1 - 1 - j))]
            rw [e3]
  · exact hp.elim
theorem pure29_ok : PureOK 29 pure29 := by
  intro R n N S as_ K F hp
  unfold pure29 at hp
  split at hp
  · rename_i s
    obtain ⟨hn, hp⟩ := hp
    cases n with
    | zero => exact byM (byX (envW_ok R) (f := 29) (fi := fi29) (by kernel_rfl) 1000 (vc29z R N S s (fun v h' F' => F' = F ∧ ToV R 2 v h' F (OutM K F)) F) ⟨rfl, toNone rfl rfl (hp 0 0 rfl rfl)⟩)
    | succ n =>
      have ew := wrapPred n (by omega)
      refine byM (byX ((envW_ok R).addLoop (f := 54) (fi := fi54) (by kernel_rfl) blk54 (spec54L_57 R n N S s)) (f := 29) (fi := fi29) (by kernel_rfl) 1000 (vc29 R N S s (fun v h' F' => F' = F ∧ ToV R 2 v h' F (OutM K F)) F n) ?_)
      rw [ew]
      have e1 : (0 + (n : Int).toNat) = n := by simp
      refine hcT (by rw [Bool.and_eq_true]; exact ⟨decide_eq_true (Int.natCast_nonneg n), decide_eq_true (by omega)⟩) (hcT (dlt (by omega)) ⟨⟨(show n ≤ 1000 from by omega), rfl, rfl, rfl, rfl, rfl, rfl, rfl, rfl, rfl, rfl, by rw [e1]⟩, ?_⟩)
      intro k' m hk hkm
      exact ⟨rfl, toRun (m := k') (k := m) (d := 6) rfl rfl (by omega) (by omega) rfl rfl rfl (fun j hj => rfl) (hp k' m (by rw [hk, imp_while]) hkm)⟩
  · exact hp.elim

end Go.Dc.Kb
end
section
set_option linter.unusedVariables false
set_option linter.unusedSimpArgs false
namespace Go.Dc.Kb
open Go.Proofs Go.RowKit
set_option maxRecDepth 100000
def tq27x (m : Nat) : List AV := [.any, .any, .any, .any, .any, .sl false 1 0 m .no, .any, .any, .any, .any, .any, .any, .any, .any, .any, .any, .any, .any, .any, .any, .any, .any, .any]
theorem tq27x_spr (m : Nat) : tq27x m = spr [(5, .sl false 1 0 m .no)] 0 23 := by kernel_rfl

theorem blk27 : blockOf fi27 0 = some (.loop (loopOf fi27 0)) := by kernel_rfl
def spec27L (n fr : Nat) (N : Nat → Int) (S : Nat → List UInt8) : LoopSpX := fun st k F =>
  (n ≤ 1000 ∧ nthV st.tmps 0 = .sl false 0 0 n .no ∧ nthV st.tmps 1 = .int .i64 (fr : Nat) ∧ nthV st.tmps 5 = .nils ∧ nthV st.tmps 6 = .int .i64 ((n : Int) - 1) ∧ st.tmps.length = 23 ∧ st.rows = [some (.gen 57 2 n (itG N S))]) ∧
  ∀ m, fr + m = n → k .normal ⟨tq27x m, [some (.gen 57 2 n (itG N S)), some (.gen 57 2 m (rev n N S))]⟩ F
def g27 (b : Option Nat) : Nat → Option Nat := fun c => match c with | 1 => b | c => some c
theorem fit27 {R : Nat → RoRow} {n m : Nat} {b : Option Nat} {N : Nat → Int} {S : Nat → List UInt8} {T T' : List AV} {rows : Rows} {F : Fz} {P : St → Fz → Prop}
    (h1 : rows.live 0 = some (.gen 57 2 n (itG N S))) (hb : (b = none ∧ m = 0) ∨ ∃ q m' G, b = some q ∧ 1 ≤ q ∧ rows.live q = some (.gen 57 2 m' G) ∧ m' = m ∧ ∀ j, j < m → G j = rev n N S j)
    (hT : VwL (g27 b) 2 T T') (hP : P ⟨T, [some (.gen 57 2 n (itG N S)), some (.gen 57 2 m (rev n N S))]⟩ F) : ToX R [] 1 ⟨T', rows⟩ F P := by
  refine ToX.fitS (stE := ⟨T, [some (.gen 57 2 n (itG N S)), some (.gen 57 2 m (rev n N S))]⟩) (g27 b) (dup_of ?_ ?_) hT (fun c hc => by match c, hc with | 0, _ => rfl) (by simp) (ToX.here hP)
  · intro c o ho
    match c, ho with
    | 0, ho => cases ho; exact ViewT.at_ (b := 0) rfl h1 (RowS.gen (Nat.le_refl _) fun j hj => ⟨rfl, itm_vw⟩)
    | 1, ho =>
      cases ho
      rcases hb with ⟨rfl, rfl⟩ | ⟨q, m', G, rfl, hq5, hq, rfl, hG⟩
      · exact ViewT.void rfl rfl
      · exact ViewT.at_ (b := q) rfl hq (RowS.gen (Nat.le_refl _) fun j hj => ⟨rfl, by rw [hG j hj]; exact itm_vw⟩)
    | c + 2, ho => simp at ho
  · intro c c' b' r r' hc hc' e e'
    have l1 := live_lt hc
    have l2 := live_lt hc'
    simp at l1 l2
    match c, c', l1, l2 with
    | 0, 0, _, _ => rfl
    | 1, 1, _, _ => rfl
    | 0, 1, _, _ =>
      rcases hb with ⟨rfl, rfl⟩ | ⟨q, m', G, rfl, hq5, _⟩
      · cases e'
      · cases e; cases e'; omega
    | 1, 0, _, _ =>
      rcases hb with ⟨rfl, rfl⟩ | ⟨q, m', G, rfl, hq5, _⟩
      · cases e
      · cases e; cases e'; omega
theorem spec27L_ok (R : Nat → RoRow) (n fr : Nat) (N : Nat → Int) (S : Nat → List UInt8) (hfr : fr ≤ n) (st : St) (K : Exit → St → Fz → Prop) (F : Fz) (h : spec27L n fr N S st K F) : SafeX Try.prog (bx R).R [] (.block 0 (.loop (loopOf fi27 0))) st F K noP := by
  obtain ⟨⟨hn, h0, h1, h5, h6, hl, hr⟩, hk⟩ := h
  obtain ⟨T, rows⟩ := st
  simp only at h0 h1 h5 h6 hl hr
  subst hr
  refine SafeX.loop_block (Inv := fun mm st' F' => F' = F ∧ ∃ m, mm = n - m ∧ fr + m ≤ n ∧ st' = ⟨tq27 1 n (fr : Nat) m ((n : Int) - 1 - m), [some (.gen 57 2 n (itG N S)), some (.gen 57 2 m (rev n N S))]⟩) ?_ ?_
  · refine fit27 (T := tq27 1 n (fr : Nat) 0 ((n : Int) - 1 - (0 : Nat))) (b := none) rfl (.inl ⟨rfl, rfl⟩) ?_ ⟨n, rfl, 0, rfl, by omega, rfl⟩
    rw [tq27_spr]
    exact VwL.ofKnown hl ⟨by rw [h0]; exact Vw.slI (by simp) rfl, by rw [h1]; exact Vw.intI, by rw [h5]; exact Vw.slN (by simp) rfl, by rw [h6]; exact Vw.intE (by simp), trivial⟩
  · rintro mm st' F' ⟨rfl, m, rfl, hm, rfl⟩
    by_cases hex : fr + m = n
    · cases fr with
      | zero =>
        obtain rfl : m = n := by omega
        have e : ((m : Int) - 1 - (m : Nat)) = -1 := by omega
        rw [e]
        refine by56 (R := R) (f := 27) (fi := fi27) (by kernel_rfl) blk27 1000 (vz27 R m N S m (fun e T rows F2 => match e with
          | .normal => ToX R [] 1 ⟨T, rows⟩ F2 fun st3 F3 => ∃ n', n' < m - m ∧ F3 = F' ∧ ∃ m', n' = m - m' ∧ 0 + m' ≤ m ∧ st3 = ⟨tq27 1 m (0 : Nat) m' ((m : Int) - 1 - m'), [some (.gen 57 2 m (itG N S)), some (.gen 57 2 m' (rev m N S))]⟩
          | e => ToX R [] 1 ⟨T, rows⟩ F2 fun st3 F3 => K (blockExit 0 e) st3 F3) F') ?_
        refine fit27 (T := tq27x m) (b := some 1) rfl (.inr ⟨1, m, _, rfl, by omega, rfl, rfl, fun j hj => rfl⟩) ?_ (hk m (by omega))
        unfold tq27x
        (repeat' (first | with_reducible exact VwL.nil | with_reducible refine VwL.cons ?_ ?_ | with_reducible exact Vw.anyI | with_reducible exact Vw.strI | with_reducible exact Vw.boolI | with_reducible exact Vw.intI | with_reducible exact Vw.nilsI | exact Vw.ptrI (by simp) rfl | exact Vw.slI (by simp) rfl | with_reducible refine Vw.aggI ?_ | exact Vw.gndI rfl))
      | succ f =>
        have e : ((n : Int) - 1 - (m : Nat)) = (f : Nat) := by omega
        rw [e]
        refine by56 (R := R) (f := 27) (fi := fi27) (by kernel_rfl) blk27 1000 (vr27 R n N S m (f + 1) f (fun e T rows F2 => match e with
          | .normal => ToX R [] 1 ⟨T, rows⟩ F2 fun st3 F3 => ∃ n', n' < n - m ∧ F3 = F' ∧ ∃ m', n' = n - m' ∧ f + 1 + m' ≤ n ∧ st3 = ⟨tq27 1 n ((f + 1 : Nat) : Nat) m' ((n : Int) - 1 - m'), [some (.gen 57 2 n (itG N S)), some (.gen 57 2 m' (rev n N S))]⟩
          | e => ToX R [] 1 ⟨T, rows⟩ F2 fun st3 F3 => K (blockExit 0 e) st3 F3) F') ?_
        refine hcF (by simp only [decide_eq_false_iff_not]; omega) ?_
        refine fit27 (T := tq27x m) (b := some 1) rfl (.inr ⟨1, m, _, rfl, by omega, rfl, rfl, fun j hj => rfl⟩) ?_ (hk m hex)
        unfold tq27x
        (repeat' (first | with_reducible exact VwL.nil | with_reducible refine VwL.cons ?_ ?_ | with_reducible exact Vw.anyI | with_reducible exact Vw.strI | with_reducible exact Vw.boolI | with_reducible exact Vw.intI | with_reducible exact Vw.nilsI | exact Vw.ptrI (by simp) rfl | exact Vw.slI (by simp) rfl | with_reducible refine Vw.aggI ?_ | exact Vw.gndI rfl))
    · obtain ⟨k, hk2⟩ : ∃ k : Nat, k + m + 1 = n := ⟨n - m - 1, by omega⟩
      have e : ((n : Int) - 1 - (m : Nat)) = (k : Nat) := by omega
      rw [e]
      refine by56 (R := R) (f := 27) (fi := fi27) (by kernel_rfl) blk27 1000 (vr27 R n N S m fr k (fun e T rows F2 => match e with
        | .normal => ToX R [] 1 ⟨T, rows⟩ F2 fun st3 F3 => ∃ n', n' < n - m ∧ F3 = F' ∧ ∃ m', n' = n - m' ∧ fr + m' ≤ n ∧ st3 = ⟨tq27 1 n (fr : Nat) m' ((n : Int) - 1 - m'), [some (.gen 57 2 n (itG N S)), some (.gen 57 2 m' (rev n N S))]⟩
        | e => ToX R [] 1 ⟨T, rows⟩ F2 fun st3 F3 => K (blockExit 0 e) st3 F3) F') ?_
      have e1 : (0 + (k : Int).toNat) = k := by simp
      have hlt : k < n := by omega
      have ew : IntKind.i64.wrap ((k : Int) - 1) = (n : Int) - 1 - ((m + 1 : Nat) : Nat) := by rw [wrapI64 _ (by omega) (by omega)]; omega
      rw [e1, ew]
      refine hcT (by simp only [decide_eq_true_eq]; omega) (hcT (by rw [Bool.true_and]; exact decide_eq_true (by omega)) (hcT (decide_eq_true hlt) (hcT (capOK (by omega)) ?_)))
      refine fit27 (T := tq27 1 n (fr : Nat) (m + 1) ((n : Int) - 1 - ((m + 1 : Nat) : Nat))) (b := some 3) rfl (.inr ⟨3, m + 1, _, rfl, by omega, rfl, rfl, ?_⟩) ?_ ⟨n - (m + 1), by omega, rfl, m + 1, rfl, by omega, rfl⟩
      · intro j hj
        rcases Nat.lt_or_ge j m with h | h
        · simp only [Src.len, blt_t h, cond_true, Nat.zero_add]; rfl
        · obtain rfl : j = m := by omega
          have hb : Nat.blt j j = false := by rw [Bool.eq_false_iff]; simp [Nat.blt_eq]
          have e3 : n - 1 - j = k := by omega
          simp only [Src.len, hb, cond_false, Nat.sub_self]
          show AV.agg [AV.int IntKind.i64 (N k), AV.str (S k)] = AV.agg [AV.int IntKind.i64 (N (n - 1 - j)), AV.str (S (n - 1 - j))]
          rw [e3]
      · unfold tq27
        (repeat' (first | with_reducible exact VwL.nil | with_reducible refine VwL.cons ?_ ?_ | with_reducible exact Vw.anyI | with_reducible exact Vw.strI | with_reducible exact Vw.boolI | with_reducible exact Vw.intI | with_reducible exact Vw.nilsI | exact Vw.ptrI (by simp) rfl | exact Vw.slI (by simp) rfl | with_reducible refine Vw.aggI ?_ | exact Vw.gndI rfl))

end Go.Dc.Kb
end
section
set_option linter.unusedVariables false
set_option linter.unusedSimpArgs false
namespace Go.Dc.Kb
open Go.Proofs Go.RowKit
set_option maxRecDepth 100000
theorem vc27 (R : Nat → RoRow) (n fr : Nat) (N : Nat → Int) (S : Nat → List UInt8) (q : AV → Rows → Fz → Prop) (F : Fz) : vcx ((bx R).addLoop 27 0 (spec27L n fr N S)) 1000 27 fi27 [.sl false 0 0 n .no, .int .i64 (fr : Nat)] [some (.gen 57 2 n (itG N S))] q F = ((n.le 1000 ∧ AV.sl false 0 0 n Cp.no = AV.sl false 0 0 n Cp.no ∧ AV.int IntKind.i64 (↑fr : Int) = AV.int IntKind.i64 (↑fr : Int) ∧ AV.nils = AV.nils ∧ AV.int IntKind.i64 (IntKind.i64.wrap ((↑n : Int) - 1)) = AV.int IntKind.i64 ((↑n : Int) - 1) ∧ 23 = 23 ∧ [some (Row.gen 57 2 n fun (j : Nat) => itm (N j) (S j))] = [some (Row.gen 57 2 n fun (j : Nat) => itm (N j) (S j))]) ∧ ∀ (m : Nat), fr + m = n → q (AV.sl false 1 0 m Cp.no) [some (Row.gen 57 2 n fun (j : Nat) => itm (N j) (S j)), some (Row.gen 57 2 m fun (j : Nat) => itm (N (n - 1 - j)) (S (n - 1 - j)))] F) := by kernel_rfl

theorem safe27 (R : Nat → RoRow) (n fr : Nat) (N : Nat → Int) (S : Nat → List UInt8) (F : Fz) (hn : n ≤ 1000) (hfr : fr ≤ n) : SafeCallX Try.prog R 27 [.sl false 0 0 n .no, .int .i64 (fr : Nat)] [some (.gen 57 2 n (itG N S))] F (fun v h' F' => F' = F ∧ ∃ m, fr + m = n ∧ v = .sl false 1 0 m .no ∧ h' = [some (.gen 57 2 n (itG N S)), some (.gen 57 2 m (rev n N S))]) noP := by
  refine byX ((bx_ok R [] noP).addLoop (f := 27) (fi := fi27) (by kernel_rfl) blk27 (spec27L_ok R n fr N S hfr)) (f := 27) (fi := fi27) (by kernel_rfl) 1000 (vc27 R n fr N S _ F) ⟨⟨hn, rfl, rfl, rfl, by rw [wrapI64 _ (by omega) (by omega)], rfl, rfl⟩, fun m hm => ⟨rfl, m, hm, rfl, rfl⟩⟩
def spec27 : CallSpecX := fun args h k F => match args with
  | [.sl false q 0 n _, .int .i64 z] => match h.live q with
    | some (.gen 57 2 m G) => (m = n ∧ IsI G n ∧ n ≤ 1000 ∧ 0 ≤ z ∧ z ≤ (n : Int)) ∧ ∀ j, z + (j : Nat) = (n : Int) →
        k (.sl false (h.length + 1) 0 j .no) (h.set q (some (.gen 57 2 n (itG (fun j => nodeOf (G j)) (fun j => nameOf (G j))))) ++ [none, some (.gen 57 2 j (rev n (fun j => nodeOf (G j)) (fun j => nameOf (G j))))]) F
    | _ => False
  | _ => False
theorem renG (g : Nat → Nat) (t z n : Nat) (N : Nat → Int) (S : Nat → List UInt8) : renRow g (.gen t z n (itG N S)) = .gen t z n (itG N S) := by
  show Row.gen t z n (fun i => ren g (itG N S i)) = _
  rw [itG_ren]
theorem spec27_ok (R : Nat → RoRow) : ∀ args h k F, spec27 args h k F → SafeCallX Try.prog R 27 args h F k noP := by
  intro args h k F hk
  unfold spec27 at hk
  split at hk
  · rename_i q n u z
    split at hk
    · rename_i m G hq
      obtain ⟨⟨rfl, hG, hn, hz0, hz1⟩, hk⟩ := hk
      obtain ⟨fr, rfl⟩ : ∃ fr : Nat, z = (fr : Int) := ⟨z.toNat, by omega⟩
      have hl2 := live_lt hq
      refine (SafeCallX.atN (Q := fun v os tl F' => F' = F ∧ ∃ j, fr + j = m ∧ v = .sl false 1 0 j .no ∧ os = [some (.gen 57 2 m (itG (fun j => nodeOf (G j)) (fun j => nameOf (G j))))] ∧ tl = [some (.gen 57 2 j (rev m (fun j => nodeOf (G j)) (fun j => nameOf (G j))))]) (HP := fun _ _ _ _ => False)
        (hL := [some (.gen 57 2 m (itG (fun j => nodeOf (G j)) (fun j => nameOf (G j))))]) (argsL := [.sl false 0 0 m .no, .int .i64 (fr : Nat)]) [q] rfl (by simp) (by simp; exact hl2) ?_ ?_ ((safe27 R m fr _ _ F hn (by omega)).mono ?_ ?_)).mono ?_ ?_
      · intro c r hc
        match c, hc with
        | 0, hc => cases hc; exact ⟨q, _, rfl, hq, .gen rfl fun j hj => ⟨rfl, by rw [hG j hj]; exact gnd_vw _ _ _ rfl⟩⟩
        | c + 1, hc => simp [Rows.live] at hc
      · exact VwL.cons (Vw.slE (by simp) rfl) (VwL.cons Vw.intI VwL.nil)
      · rintro v h' F' _ ⟨rfl, j, hj, rfl, rfl⟩
        exact ⟨[_], [_], rfl, rfl, rfl, j, hj, rfl, rfl, rfl⟩
      · exact fun _ _ _ _ h => h.elim
      · rintro v h' F' _ ⟨v0, os, tl, rfl, rfl, rfl, j, hj, rfl, rfl, rfl⟩
        have := hk j (by omega)
        simp only [List.map_cons, List.map_nil, Option.map_some, renG, rev]
        simp only [rev] at this
        exact this
      · rintro v h' F' _ ⟨v0, os, tl, rfl, rfl, h⟩
        exact h.elim
    · exact hk.elim
  · exact hk.elim
def actV (w a nd : Int) (s : List UInt8) : AV := .agg [.int .i64 w, .int .i64 a, .int .i64 nd, .str s]
noncomputable abbrev env6 (R : Nat → RoRow) : EnvX := (((((((((((((((bx R).addCall 11 (specM pure11)).addCall 20 (specM pure20)).addCall 21 (specM pure21)).addCall 22 (specM pure22)).addCall 23 (specM pure23)).addCall 26 (specM pure26)).addCall 29 (specM pure29)).addCall 31 (specM pure31)).addCall 12 (liftC spec12)).addCall 32 (liftC spec32)).addCall 24 spec24).addCall 25 spec25).addCall 27 spec27).addCall 28 spec28).addCall 30 spec30
theorem env6_ok (R : Nat → RoRow) : OKX Try.prog (env6 R) [] noP :=
  (((((((((((((((bx_ok R [] noP).addCall (f := 11) (fi := fi11) (by kernel_rfl) (specM_ok pure11_ok R)).addCall (f := 20) (fi := fi20) (by kernel_rfl) (specM_ok pure20_ok R)).addCall (f := 21) (fi := fi21) (by kernel_rfl) (specM_ok pure21_ok R)).addCall (f := 22) (fi := fi22) (by kernel_rfl) (specM_ok pure22_ok R)).addCall (f := 23) (fi := fi23) (by kernel_rfl) (specM_ok pure23_ok R)).addCall (f := 26) (fi := fi26) (by kernel_rfl) (specM_ok pure26_ok R)).addCall (f := 29) (fi := fi29) (by kernel_rfl) (specM_ok pure29_ok R)).addCall (f := 31) (fi := fi31) (by kernel_rfl) (specM_ok pure31_ok R)).addCall (f := 12) (fi := fi12) (by kernel_rfl) (liftC_ok (spec12_ok R))).addCall (f := 32) (fi := fi32) (by kernel_rfl) (liftC_ok (spec32_ok R))).addCall (f := 24) (fi := fi24) (by kernel_rfl) (spec24_ok R noP)).addCall (f := 25) (fi := fi25) (by kernel_rfl) (spec25_ok R noP)).addCall (f := 27) (fi := fi27) (by kernel_rfl) (spec27_ok R)).addCall (f := 28) (fi := fi28) (by kernel_rfl) (spec28_ok R noP)).addCall (f := 30) (fi := fi30) (by kernel_rfl) (spec30_ok R noP)
noncomputable def bd2 : Code := match blockOf fi6 2 with | some b => b | none => .skip
theorem blk62 : blockOf fi6 2 = some bd2 := by kernel_rfl
def rw6 (n : Nat) (N : Nat → Int) (S : Nat → List UInt8) (w a nd : Int) (s : List UInt8) : Rows := [some (stk 1 n), some (.gen 29 2 n (itG N S)), some (.gen 57 2 n (itG N S)), some (.lst 56 4 [actV w a nd s]), some (.lst 29 2 [itm nd s]), some (.lst 57 2 [itm nd s])]
def tm6s (len n : Nat) (i c : Int) : List AV := [.sl true 0 0 len .no, .any, .bool false, .ptr false 0 0 0, .sl false 2 0 n .no, .int .i64 i, .ptr false 3 0 0, .ptr false 4 0 0, .ptr false 5 0 0, .bool true, .any, .any, .any, .any, .any, .any, .any, .any, .any, .any, .any, .any, .any, .any, .any, .any, .any, .any, .any, .any, .any, .any, .any, .any, .any, .any, .any, .any, .any, .any, .any, .any, .any, .any, .any, .any, .any, .any, .any, .any, .any, .any, .any, .int .i64 c, .any, .any, .any, .any, .any, .any, .any, .any, .any, .any, .any, .any, .any, .any, .any, .any, .any, .any, .any, .any, .any, .any, .any, .any, .any, .any, .any, .any, .any, .any, .any, .any, .any, .any, .any, .any, .any, .any, .any, .any, .any, .any, .any, .any, .any, .any, .any, .any, .any, .any, .any, .any, .any, .any, .any, .any, .any, .any, .any, .any, .any, .any, .any, .any, .any, .any, .any, .any, .any, .any, .any, .any, .any, .any, .any, .any, .any, .any, .any, .any, .any, .any, .any, .any, .any, .any, .any, .any, .any, .any, .any, .any, .any, .any, .any, .any, .any, .any, .any, .any, .any, .any, .any, .any, .any, .any, .any, .any, .any, .any, .any, .any, .any, .any, .any, .any, .any, .any, .any, .any, .any, .any, .any, .any, .any, .any, .any, .any, .any, .any, .any, .any, .any, .any, .any, .any, .any, .any, .any, .any, .any, .any, .any, .any, .any, .any, .any, .any, .any, .any, .any, .any, .any, .any, .any, .any, .any, .any, .any, .any, .any, .any, .any, .any, .any, .any, .any, .any, .any, .any, .any, .any, .any, .any, .any, .any, .any, .any, .any, .any, .any, .any, .any, .any, .any, .any, .any, .any, .any, .any, .any, .any, .any, .any, .any, .any, .any, .any, .any, .any, .any, .any, .any, .any, .any, .any, .any, .any, .any]
theorem tm6s_spr (len n : Nat) (i c : Int) : tm6s len n i c = spr [(0, .sl true 0 0 len .no), (2, .bool false), (3, .ptr false 0 0 0), (4, .sl false 2 0 n .no), (5, .int .i64 i), (6, .ptr false 3 0 0), (7, .ptr false 4 0 0), (8, .ptr false 5 0 0), (9, .bool true), (53, .int .i64 c)] 0 263 := by kernel_rfl

end Go.Dc.Kb
end
