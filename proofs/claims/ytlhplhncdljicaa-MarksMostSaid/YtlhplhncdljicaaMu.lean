/- slices.Insert of one element: what it does to memory, at elements of more than one cell. -/
import Derived.Test.YtlhplhncdljicaaEnv
import Derived.Test.YtlhplhncdljicaaDcIns
import Derived.Lib.JoinLaws
import Derived.Test.YtlhplhncdljicaaSh
import Derived.Test.YtlhplhncdljicaaMa
import Derived.Test.YtlhplhncdljicaaDcXm
import Derived.Test.YtlhplhncdljicaaMarksNil
import Derived.Test.YtlhplhncdljicaaDcZj
set_option linter.unusedVariables false
set_option linter.unusedSimpArgs false
section
namespace Go.Dc.Kb
open Go.Proofs Go.RowKit Go.Lib
set_option maxRecDepth 100000
theorem zeroCells_size (z:Array Value) (k:Nat):(Builtin.zeroCells z k).size = k * z.size:=by simp [Builtin.zeroCells]
theorem run_copy_wide {P:Program} (w:World) (dT sT ty elem:TypeId) (z b o dLen dCap:Nat) (a:Addr) (sLen sCap:Nat) (cs:List Value) (k:Nat)
  (hu:P.underlying dT = some (.slice elem)) (hs:(P.info? elem).map (·.size) = some z) (hk:k = Nat.min sLen dLen) (hn:cs.length = k * z)
  (hsrc:∀ j v,cs[j]? = some v -> w.cell? (a.add j) = some v) (hc:∀ j,j < cs.length -> (w.cell? ⟨b,o + j,none⟩).isSome = true) (hf:∀ j,j < cs.length -> w.frozen? ⟨b,o + j,none⟩ = false) (h1:∀ v ∈ cs,v.oneCell' = true) :
  (Builtin.copy_ #[dT,sT] ty #[.slice (some ⟨b,o,none⟩) dLen dCap,.slice (some a) sLen sCap]).run P w = .ok (goInt k) (w.setCells b o cs):=by
 have hl:=run_loadCells_list (P:=P) w a cs hsrc
 have hst:=run_storeCells_cells (P:=P) b o cs 0 w (by simpa using hc) (by simpa using hf) h1
 cases hq:P.info? elem with
 | none => simp [hq] at hs
 | some i =>
  have hi:i.size = z:=by simpa [hq] using hs
  rw [hn] at hl
  simp [Builtin.copy_,run_underlying hu,Builtin.lenOf,Builtin.firstCells,sizeOf,typeInfo,hq,hi,<- hk,hl,hst]
theorem ins53_info:(Try.prog.info? 29).map (fun i => (i.zero,i.size,i.bytes)) = some (some (.agg #[.int .i64 0,.string ⟨#[]⟩]),2,24):=by kernel_rfl
theorem ins53_z:∀ w,(Go.sizeOf 29).run Try.prog w = .ok 2 w:=by
 obtain ⟨i0,hi0,hz0,hzs,hzb⟩:=info_parts ins53_info
 intro w
 simp [Go.sizeOf,typeInfo,program,Sem.run,hi0,pure,hzs]
set_option maxHeartbeats 4000000 in
/-- There is room: in place. -/
theorem ins53_shift (b off n c i vb voff vc:Nat) (cs vs:List Value) (w:World) (hi:i < n) (hroom:n + 1 <= c) (hc63:c <= 9223372036854775807) (hvb:vb ≠ b)
  (hcl:cs.length = n * 2) (hvl:vs.length = 2)
  (hcs:∀ j v,cs[j]? = some v -> w.cell? ⟨b,off + j,none⟩ = some v) (hsp:∀ j,j < (n + 1) * 2 -> (w.cell? ⟨b,off + j,none⟩).isSome = true) (hfz:∀ j,j < (n + 1) * 2 -> w.frozen? ⟨b,off + j,none⟩ = false)
  (hvs:∀ j v,vs[j]? = some v -> w.cell? ⟨vb,voff + j,none⟩ = some v) (h1c:∀ v ∈ cs,v.oneCell' = true) (h1v:∀ v ∈ vs,v.oneCell' = true)
  (tA tB:TypeId) (kA kB:Nat) (hsa:w.shape? vb = some (tA,kA)) (hsb:w.shape? b = some (tB,kB)) (hkB:kB ≠ 0) (hfa:w.frozen? ⟨vb,voff,none⟩ = false) (hfe:w.frozen? ⟨vb,kA,none⟩ = false) :
  Calls Try.prog 53 #[.slice (some ⟨b,off,none⟩) n c,.int .i64 i,.slice (some ⟨vb,voff,none⟩) 1 vc] w fun e w' =>
   e = .returned (.slice (some ⟨b,off,none⟩) (n + 1) c) /\ w' = (w.drew.setCells b (off + (i + 1) * 2) (cs.drop (i * 2))).setCells b (off + i * 2) vs:=by
 have mixed:Try.prog.follows .mixedOrders = true:=by kernel_rfl
 have hz1:¬ ((1:Int) = 0):=by omega
 have hz2:¬ ((i:Int) = (n:Int)):=by omega
 obtain ⟨i0,hi0,hz0,hzs,hzb⟩:=info_parts ins53_info
 have hsz:(Try.prog.info? 29).map (·.size) = some 2:=by rw [hi0]; simp [hzs]
 have omA:∀ j,j < (n - i) * 2 -> i * 2 + j < (n + 1) * 2 /\ (i + 1) * 2 + j < (n + 1) * 2:=by clear hcl hvl hz1 hz2; omega
 have hov:∀ lb cb,(callFunc 67 #[.slice (some ⟨vb,voff,none⟩) 1 vc,.slice (some ⟨b,off + (i + 1) * 2,none⟩) lb cb]).run Try.prog w = .ok (.value (.bool false)) w:=fun lb cb => by
  rw [run_callFunc_extern Try.func67 (by kernel_rfl) (by kernel_rfl) (by kernel_rfl) (e:=Extern.SlicesOverlaps.overlaps #[24,24] #[4]) (by kernel_rfl),
   Lib.run_overlaps_apart w 24 4 29 Try.underlying24 2 ins53_z ⟨vb,voff,none⟩ ⟨b,off + (i + 1) * 2,none⟩ 1 vc lb cb hvb tA tB kA kB hsa hsb hkB hfa hfe]
  rfl
 have hdl:(cs.drop (i * 2)).length = (n - i) * 2:=by rw [List.length_drop,hcl]; omega
 have hcp1:∀ ty dc sc,(Builtin.copy_ #[24,24] ty #[.slice (some ⟨b,off + (i + 1) * 2,none⟩) (n - i) dc,.slice (some ⟨b,off + i * 2,none⟩) (n + 1 - i) sc]).run Try.prog w.drew = .ok (goInt (n - i:Nat)) (w.drew.setCells b (off + (i + 1) * 2) (cs.drop (i * 2))):=fun ty dc sc =>
  run_copy_wide w.drew _ _ ty 29 2 b (off + (i + 1) * 2) (n - i) dc ⟨b,off + i * 2,none⟩ (n + 1 - i) sc (cs.drop (i * 2)) (n - i) Try.underlying24 hsz (by simp only [Nat.min_def]; split <;> omega) hdl
   (fun j v hj => by rw [Addr.add_lit,Nat.add_assoc]; exact hcs (i * 2 + j) v (by rwa [List.getElem?_drop] at hj))
   (fun j hj => by rw [hdl] at hj; rw [Nat.add_assoc]; exact hsp _ (omA j hj).2) (fun j hj => by rw [hdl] at hj; rw [Nat.add_assoc]; exact hfz _ (omA j hj).2) (fun v hv => h1c v (List.mem_of_mem_drop hv))
 obtain ⟨W1,hW1⟩:∃ W1,W1 = w.drew.setCells b (off + (i + 1) * 2) (cs.drop (i * 2)):=⟨_,rfl⟩
 have hsp1:∀ k,k < (n + 1) * 2 -> (W1.cell? ⟨b,off + k,none⟩).isSome = true:=fun k hk => by
  rw [hW1]
  exact isSome_setCells b _ _ _ (fun j hj => by rw [Nat.add_assoc]; exact hsp _ (by omega)) _ (hsp k hk)
 have hcp2:∀ (W:World),(∀ x,W.cell? x = W1.cell? x) -> (∀ x,W.frozen? x = W1.frozen? x) -> ∀ ty dc,(Builtin.copy_ #[24,24] ty #[.slice (some ⟨b,off + i * 2,none⟩) (n + 1 - i) dc,.slice (some ⟨vb,voff,none⟩) 1 vc]).run Try.prog W = .ok (goInt (1:Nat)) (W.setCells b (off + i * 2) vs):=fun W hWc hWf ty dc =>
  run_copy_wide W _ _ ty 29 2 b (off + i * 2) (n + 1 - i) dc ⟨vb,voff,none⟩ 1 vc vs 1 Try.underlying24 hsz (by simp only [Nat.min_def]; split <;> omega) (by rw [hvl])
   (fun j v hj => by
    rw [Addr.add_lit,hWc,hW1,World.cell?_setCells_out b _ _ _ _ (fun h _ => absurd h hvb)]
    exact hvs j v hj)
   (fun j hj => by rw [hWc,Nat.add_assoc]; exact hsp1 _ (by omega)) (fun j hj => by rw [hWf,hW1,World.frozen?_setCells,Nat.add_assoc]; exact hfz _ (by omega)) h1v
 rw [<- hW1] at hcp1
 have hin:i <= n:=Nat.le_of_lt hi
 have hb2:¬ (c = i + 1):=by clear hcl hvl; omega
 have hb4:¬ (c = i):=by clear hcl hvl hb2; omega
 have hb1:(0:Int) <= (i:Int) + 1:=by clear hcl hvl hb2 hb4; omega
 have hb3:(i:Int) <= (n:Int) + 1:=by clear hcl hvl hb2 hb4; omega
 have htn:((i:Int) + 1).toNat = i + 1:=by clear hcl hvl hb2 hb4; omega
 have hw1:IntKind.i64.wrap ((i:Int) + 1) = (i:Int) + 1:=by clear hcl hvl hb2 hb4 htn; rw [IntKind.wrap_i64]; omega
 have hw2:wrap64 ((i:Int) + 1) = (i:Int) + 1:=by clear hcl hvl hb2 hb4 htn hw1; unfold wrap64; omega
 have hw3:wrap64 ((n:Int) + 1) = (n:Int) + 1:=by clear hcl hvl hb2 hb4 htn hw1 hw2; unfold wrap64; omega
 clear hcl hvl hdl omA hsp hsp1 hfz hcs hvs h1c h1v hsz hzs hzb hz0 hi0
 go_enter Try.func53,Try.ntmps53
 go_wp2_with (simp only [hov])
 go_region_law_o (refine step_copy_runI rfl _ _ 24 24 rfl _ _ (by simp [Act.eval,Act.put]) (by simp [Act.eval,Act.put]) (hcp1 _ _ _) ?_)
 go_wp2_with (at_builtin; refine wpList_copy_runI _ rfl _ _ 24 24 rfl _ _ rfl rfl (hcp2 _ (fun _ => rfl) (fun _ => rfl) _ _) ?_)
 go_ret
 first | exact ⟨rfl,rfl⟩ | exact ⟨rfl,by rw [hW1]⟩
set_option maxHeartbeats 4000000 in
/-- There is no room: a new row. -/
theorem ins53_grow (b off n c i vb voff vc:Nat) (cs vs:List Value) (w:World) (hi:i < n) (hnc:n <= c) (hroom:c < n + 1) (hbig:(n + 1) * 24 <= 140737488355328)
  (hcl:cs.length = n * 2) (hvl:vs.length = 2)
  (hcs:∀ j v,cs[j]? = some v -> w.cell? ⟨b,off + j,none⟩ = some v)
  (hvs:∀ j v,vs[j]? = some v -> w.cell? ⟨vb,voff + j,none⟩ = some v) (h1c:∀ v ∈ cs,v.oneCell' = true) (h1v:∀ v ∈ vs,v.oneCell' = true) :
  Calls Try.prog 53 #[.slice (some ⟨b,off,none⟩) n c,.int .i64 i,.slice (some ⟨vb,voff,none⟩) 1 vc] w fun e w' =>
   e = .returned (.slice (some ⟨w.heap.size,0,none⟩) (n + 1) (grownCap w (n + 1) c 29)) /\
   w' = (((w.alloc (.cells ((cs.take (i * 2)).toArray ++ Builtin.zeroCells (.agg #[.int .i64 0,.string ⟨#[]⟩]:Value).cells (n + 1 - i) ++ Builtin.zeroCells (.agg #[.int .i64 0,.string ⟨#[]⟩]:Value).cells (grownCap w (n + 1) c 29 - (n + 1))) 29)).drew.setCells w.heap.size (i * 2) vs).drew).setCells w.heap.size ((i + 1) * 2) (cs.drop (i * 2)):=by
 have mixed:Try.prog.follows .mixedOrders = true:=by kernel_rfl
 have hz1:¬ ((1:Int) = 0):=by omega
 have hz2:¬ ((i:Int) = (n:Int)):=by omega
 obtain ⟨i0,hi0,hz0,hzs,hzb⟩:=info_parts ins53_info
 have hsz:(Try.prog.info? 29).map (·.size) = some 2:=by rw [hi0]; simp [hzs]
 have omA:∀ j,j < (n - i) * 2 -> i * 2 + j < (n + 1) * 2 /\ (i + 1) * 2 + j < (n + 1) * 2:=by clear hcl hvl hz1 hz2; omega
 have hdl:(cs.drop (i * 2)).length = (n - i) * 2:=by rw [List.length_drop,hcl]; omega
 have hz3:(c:Int) < (n:Int) + 1:=by clear hcl hvl hdl hz1 hz2; omega
 have hbw:b < w.heap.size:=block_lt_of_cell (hcs 0 _ (List.getElem?_eq_getElem (by clear hz1 hz2 hz3 hdl; omega)))
 have hvw:vb < w.heap.size:=block_lt_of_cell (hvs 0 _ (List.getElem?_eq_getElem (by clear hz1 hz2 hz3 hdl; omega)))
 have hkk:(n:Int) + 1 - (i:Int) = ((n + 1 - i:Nat):Int):=by clear hcl hvl hdl hz1 hz2 hz3; omega
 have hik:i + (n + 1 - i) = n + 1:=by clear hcl hvl hdl hz1 hz2 hz3 hkk; omega
 have hold:(Builtin.firstCells i0.size i (.slice (some ⟨b,off,none⟩) i c)).run Try.prog w.drew = .ok (cs.take (i * 2)).toArray w.drew:=by
  rw [hzs]
  exact run_firstCells_some w.drew 2 i ⟨b,off,none⟩ i c (cs.take (i * 2)) (by rw [List.length_take,hcl]; clear hvl hdl hz1 hz2 hz3 hkk hik; omega) (fun j v hj => by
   rw [Addr.add_lit]
   rw [List.getElem?_take] at hj
   split at hj
   ·exact hcs j v hj
   ·cases hj)
 have hrz:∀ ty,(Builtin.append_ #[24,3] ty #[.slice (some ⟨b,off,none⟩) i c,.int .i64 ((n:Int) + 1 - (i:Int))]).run Try.prog w =
   .ok (.slice (some ⟨w.heap.size,0,none⟩) (n + 1) (grownCap w (n + 1) c 29)) (w.drew.alloc (.cells ((cs.take (i * 2)).toArray ++ Builtin.zeroCells (.agg #[.int .i64 0,.string ⟨#[]⟩]:Value).cells (n + 1 - i) ++ Builtin.zeroCells (.agg #[.int .i64 0,.string ⟨#[]⟩]:Value).cells (grownCap w (n + 1) c 29 - (n + 1))) 29)):=fun ty => by
  have h:=Lib.run_append_grow_zeros w 24 3 ty 29 i0 _ .i64 .i64 Try.underlying24 Try.underlying3 hi0 hz0 (some ⟨b,off,none⟩) i c (cs.take (i * 2)) hold (n + 1 - i)
   (by clear hcl hvl hdl hz1 hz2 hz3 hkk hik; omega) (by clear hcl hvl hdl hz1 hz2 hz3 hkk hik; omega) (by clear hcl hvl hdl hz1 hz2 hz3 hkk; omega) (by clear hcl hvl hdl hz1 hz2 hz3 hkk; omega) (by rw [hzb]; clear hcl hvl hdl hz1 hz2 hz3 hkk hik; omega) (by rw [hzb,hik]; exact growslice_fits hroom hbig)
  rw [hik] at h
  rw [hkk]
  exact h
 obtain ⟨G,hG⟩:∃ G,G = grownCap w (n + 1) c 29:=⟨_,rfl⟩
 obtain ⟨ROW,hROW⟩:∃ ROW:Array Value,ROW = (cs.take (i * 2)).toArray ++ Builtin.zeroCells (.agg #[.int .i64 0,.string ⟨#[]⟩]:Value).cells (n + 1 - i) ++ Builtin.zeroCells (.agg #[.int .i64 0,.string ⟨#[]⟩]:Value).cells (G - (n + 1)):=⟨_,rfl⟩
 rw [<- hG] at hrz ⊢
 rw [<- hROW] at hrz ⊢
 have hRl:(n + 1) * 2 <= ROW.size:=by
  rw [hROW]
  simp only [Array.size_append,List.size_toArray,List.length_take,hcl,zeroCells_size,Value.cells,List.length_cons,List.length_nil]
  clear hvl hdl hz1 hz2 hz3 hkk hik
  show (n + 1) * 2 <= min (i * 2) (n * 2) + (n + 1 - i) * 2 + (G - (n + 1)) * 2
  omega
 obtain ⟨W1,hW1⟩:∃ W1,W1 = w.drew.alloc (.cells ROW 29):=⟨_,rfl⟩
 rw [<- hW1] at hrz
 have hN:∀ j,j < (n + 1) * 2 -> (W1.cell? ⟨w.heap.size,j,none⟩).isSome = true:=fun j hj => by
  rw [hW1,World.cell?_alloc_at (w:=w.drew) ROW _ w.heap.size j rfl,Array.getElem?_eq_getElem (Nat.lt_of_lt_of_le hj hRl)]; rfl
 have hNf:∀ j,W1.frozen? ⟨w.heap.size,j,none⟩ = false:=fun j => by rw [hW1]; exact World.frozen?_alloc_at (w:=w.drew) ROW _ w.heap.size j rfl
 have hOb:∀ j v,w.cell? ⟨b,j,none⟩ = some v -> W1.cell? ⟨b,j,none⟩ = some v:=fun j v h => by rw [hW1,World.cell?_alloc_past (w:=w.drew) _ b j hbw]; exact h
 have hOv:∀ j v,w.cell? ⟨vb,j,none⟩ = some v -> W1.cell? ⟨vb,j,none⟩ = some v:=fun j v h => by rw [hW1,World.cell?_alloc_past (w:=w.drew) _ vb j hvw]; exact h
 have omB:∀ j,j < 2 -> i * 2 + j < (n + 1) * 2:=by clear hcl hvl hdl hz1 hz2 hz3 hkk hik hRl; omega
 have hcpA:∀ (W:World),(∀ x,W.cell? x = W1.cell? x) -> (∀ x,W.frozen? x = W1.frozen? x) -> ∀ ty dc,(Builtin.copy_ #[24,24] ty #[.slice (some ⟨w.heap.size,i * 2,none⟩) (n + 1 - i) dc,.slice (some ⟨vb,voff,none⟩) 1 vc]).run Try.prog W = .ok (goInt (1:Nat)) (W.setCells w.heap.size (i * 2) vs):=fun W hWc hWf ty dc =>
  run_copy_wide W _ _ ty 29 2 w.heap.size (i * 2) (n + 1 - i) dc ⟨vb,voff,none⟩ 1 vc vs 1 Try.underlying24 hsz (by clear hcl hvl hdl hz1 hz2 hz3 hkk hik hRl; simp only [Nat.min_def]; split <;> omega) (by rw [hvl])
   (fun j v hj => by rw [Addr.add_lit,hWc]; exact hOv _ v (hvs j v hj))
   (fun j hj => by rw [hvl] at hj; rw [hWc]; exact hN _ (omB j hj)) (fun j hj => by rw [hWf]; exact hNf _) h1v
 have hGn:n + 1 <= G:=by rw [hG]; exact grownCap_ge w _ _ _
 have hG63:G <= 9223372036854775807:=by
  have:=grownCap_le_maxLen w (n + 1) c 29 (by clear hcl hvl hdl hz1 hz2 hz3 hkk hik hRl hG; unfold maxLen; omega)
  rw [<- hG] at this
  unfold maxLen at this
  clear hcl hvl hdl hz1 hz2 hz3 hkk hik hRl
  omega
 have hbN:b ≠ w.heap.size:=Nat.ne_of_lt hbw
 have hcpB:∀ (W:World),(∀ x,W.cell? x = (W1.setCells w.heap.size (i * 2) vs).cell? x) -> (∀ x,W.frozen? x = (W1.setCells w.heap.size (i * 2) vs).frozen? x) -> ∀ ty dc sc,(Builtin.copy_ #[24,24] ty #[.slice (some ⟨w.heap.size,(i + 1) * 2,none⟩) (n - i) dc,.slice (some ⟨b,off + i * 2,none⟩) (n - i) sc]).run Try.prog W = .ok (goInt (n - i:Nat)) (W.setCells w.heap.size ((i + 1) * 2) (cs.drop (i * 2))):=fun W hWc hWf ty dc sc =>
  run_copy_wide W _ _ ty 29 2 w.heap.size ((i + 1) * 2) (n - i) dc ⟨b,off + i * 2,none⟩ (n - i) sc (cs.drop (i * 2)) (n - i) Try.underlying24 hsz (by simp) hdl
   (fun j v hj => by
    rw [Addr.add_lit,hWc,World.cell?_setCells_out _ _ _ _ _ (fun h _ => absurd h hbN),Nat.add_assoc]
    exact hOb _ v (hcs (i * 2 + j) v (by rwa [List.getElem?_drop] at hj)))
   (fun j hj => by rw [hdl] at hj; rw [hWc]; exact isSome_setCells _ _ _ _ (fun t ht => hN _ (omB t (by rw [hvl] at ht; exact ht))) _ (hN _ (omA j hj).2))
   (fun j hj => by rw [hWf,World.frozen?_setCells]; exact hNf _) (fun v hv => h1c v (List.mem_of_mem_drop hv))
 have hGi:¬ (G = i):=by clear hcl hvl hdl hz1 hz2 hz3 hkk hik hRl hG; omega
 have hGim:¬ (G = i + 1):=by clear hcl hvl hdl hz1 hz2 hz3 hkk hik hRl hG hGi; omega
 have hci:¬ (c = i):=by clear hcl hvl hdl hz1 hz2 hz3 hkk hik hRl hG hGi hGim; omega
 subst hW1
 have hE1:∀ x,((w.alloc (.cells ROW 29)).drew).cell? x = (w.drew.alloc (.cells ROW 29)).cell? x:=fun x => rfl
 have hE2:∀ x,((w.alloc (.cells ROW 29)).drew).frozen? x = (w.drew.alloc (.cells ROW 29)).frozen? x:=fun x => rfl
 have hF1:∀ x,(((w.alloc (.cells ROW 29)).drew.setCells w.heap.size (i * 2) vs).drew).cell? x = ((w.drew.alloc (.cells ROW 29)).setCells w.heap.size (i * 2) vs).cell? x:=fun x => rfl
 have hF2:∀ x,(((w.alloc (.cells ROW 29)).drew.setCells w.heap.size (i * 2) vs).drew).frozen? x = ((w.drew.alloc (.cells ROW 29)).setCells w.heap.size (i * 2) vs).frozen? x:=fun x => rfl
 have hw0:wrap64 ((n:Int) + 1) = (n:Int) + 1:=by clear hcl hvl hdl hz1 hz2 hz3 hkk hik hRl hG hGi hGim hci; unfold wrap64; omega
 have hw0':wrap64 ((n:Int) + 1 - (i:Int)) = (n:Int) + 1 - (i:Int):=by clear hcl hvl hdl hz1 hz2 hz3 hkk hik hRl hG hGi hGim hci hw0; unfold wrap64; omega
 clear hkk hik hold hROW hG hRl hvw hbw omB
 have hin:i <= n:=Nat.le_of_lt hi
 have hb1:(0:Int) <= (i:Int) + 1:=by clear hcl hvl hdl hz1 hz2 hz3 hGi hGim hci hw0 hw0'; omega
 have hb3:(i:Int) <= (n:Int):=by clear hcl hvl hdl hz1 hz2 hz3 hGi hGim hci hw0 hw0' hb1; omega
 have htn:((i:Int) + 1).toNat = i + 1:=by clear hcl hvl hdl hz1 hz2 hz3 hGi hGim hci hw0 hw0' hb1 hb3; omega
 have hw1:IntKind.i64.wrap ((i:Int) + 1) = (i:Int) + 1:=by clear hcl hvl hdl hz1 hz2 hz3 hGi hGim hci hw0 hw0' hb1 hb3 htn; rw [IntKind.wrap_i64]; omega
 have hw2:wrap64 ((i:Int) + 1) = (i:Int) + 1:=by clear hcl hvl hdl hz1 hz2 hz3 hGi hGim hci hw0 hw0' hb1 hb3 htn hw1; unfold wrap64; omega
 clear hcl hvl hdl omA hcs hvs h1c h1v hsz hzs hzb hz0 hi0 hbig hN hNf hOb hOv hbN
 go_enter Try.func53,Try.ntmps53
 go_wp2_with (first
  | (at_builtin; refine Lib.wpList_append_run _ rfl _ _ _ _ rfl _ _ rfl rfl _ _ (hrz _) ?_)
  | (at_builtin; refine wpList_copy_runI _ rfl _ _ 24 24 rfl _ _ rfl rfl (hcpA _ hE1 hE2 _ _) ?_)
  | (at_builtin; refine wpList_copy_runI _ rfl _ _ 24 24 rfl _ _ rfl rfl (hcpB _ (fun _ => rfl) (fun _ => rfl) _ _ _) ?_))
 go_region_law_o (refine step_copy_runI rfl _ _ 24 24 rfl (.slice (some ⟨w.heap.size,(i + 1) * 2,none⟩) (n - i) (G - (i + 1))) (.slice (some ⟨b,off + i * 2,none⟩) (n - i) (c - i)) (by simp [Act.eval,Act.put]) (by simp [Act.eval,Act.put]) (hcpB _ hF1 hF2 3 (G - (i + 1)) (c - i)) ?_)
 go_wp2
 go_ret
 exact ⟨rfl,rfl⟩
end Go.Dc.Kb
end
section
namespace Go.Dc.Kb
open Go.Proofs Go.RowKit Go.Lib
set_option maxRecDepth 100000
theorem ins61_info:(Try.prog.info? 37).map (fun i => (i.zero,i.size,i.bytes)) = some (some (.agg #[.int .i64 0,.string ⟨#[]⟩,.slice none 0 0]),3,48):=by kernel_rfl
theorem ins61_z:∀ w,(Go.sizeOf 37).run Try.prog w = .ok 3 w:=by
 obtain ⟨i0,hi0,hz0,hzs,hzb⟩:=info_parts ins61_info
 intro w
 simp [Go.sizeOf,typeInfo,program,Sem.run,hi0,pure,hzs]
set_option maxHeartbeats 4000000 in
/-- There is room: in place. -/
theorem ins61_shift (b off n c i vb voff vc:Nat) (cs vs:List Value) (w:World) (hi:i < n) (hroom:n + 1 <= c) (hc63:c <= 9223372036854775807) (hvb:vb ≠ b)
  (hcl:cs.length = n * 3) (hvl:vs.length = 3)
  (hcs:∀ j v,cs[j]? = some v -> w.cell? ⟨b,off + j,none⟩ = some v) (hsp:∀ j,j < (n + 1) * 3 -> (w.cell? ⟨b,off + j,none⟩).isSome = true) (hfz:∀ j,j < (n + 1) * 3 -> w.frozen? ⟨b,off + j,none⟩ = false)
  (hvs:∀ j v,vs[j]? = some v -> w.cell? ⟨vb,voff + j,none⟩ = some v) (h1c:∀ v ∈ cs,v.oneCell' = true) (h1v:∀ v ∈ vs,v.oneCell' = true)
  (tA tB:TypeId) (kA kB:Nat) (hsa:w.shape? vb = some (tA,kA)) (hsb:w.shape? b = some (tB,kB)) (hkB:kB ≠ 0) (hfa:w.frozen? ⟨vb,voff,none⟩ = false) (hfe:w.frozen? ⟨vb,kA,none⟩ = false) :
  Calls Try.prog 61 #[.slice (some ⟨b,off,none⟩) n c,.int .i64 i,.slice (some ⟨vb,voff,none⟩) 1 vc] w fun e w' =>
   e = .returned (.slice (some ⟨b,off,none⟩) (n + 1) c) /\ w' = (w.drew.setCells b (off + (i + 1) * 3) (cs.drop (i * 3))).setCells b (off + i * 3) vs:=by
 have mixed:Try.prog.follows .mixedOrders = true:=by kernel_rfl
 have hz1:¬ ((1:Int) = 0):=by omega
 have hz2:¬ ((i:Int) = (n:Int)):=by omega
 obtain ⟨i0,hi0,hz0,hzs,hzb⟩:=info_parts ins61_info
 have hsz:(Try.prog.info? 37).map (·.size) = some 3:=by rw [hi0]; simp [hzs]
 have omA:∀ j,j < (n - i) * 3 -> i * 3 + j < (n + 1) * 3 /\ (i + 1) * 3 + j < (n + 1) * 3:=by clear hcl hvl hz1 hz2; omega
 have hov:∀ lb cb,(callFunc 69 #[.slice (some ⟨vb,voff,none⟩) 1 vc,.slice (some ⟨b,off + (i + 1) * 3,none⟩) lb cb]).run Try.prog w = .ok (.value (.bool false)) w:=fun lb cb => by
  rw [run_callFunc_extern Try.func69 (by kernel_rfl) (by kernel_rfl) (by kernel_rfl) (e:=Extern.SlicesOverlaps.overlaps #[47,47] #[4]) (by kernel_rfl),
   Lib.run_overlaps_apart w 47 4 37 Try.underlying47 3 ins61_z ⟨vb,voff,none⟩ ⟨b,off + (i + 1) * 3,none⟩ 1 vc lb cb hvb tA tB kA kB hsa hsb hkB hfa hfe]
  rfl
 have hdl:(cs.drop (i * 3)).length = (n - i) * 3:=by rw [List.length_drop,hcl]; omega
 have hcp1:∀ ty dc sc,(Builtin.copy_ #[47,47] ty #[.slice (some ⟨b,off + (i + 1) * 3,none⟩) (n - i) dc,.slice (some ⟨b,off + i * 3,none⟩) (n + 1 - i) sc]).run Try.prog w.drew = .ok (goInt (n - i:Nat)) (w.drew.setCells b (off + (i + 1) * 3) (cs.drop (i * 3))):=fun ty dc sc =>
  run_copy_wide w.drew _ _ ty 37 3 b (off + (i + 1) * 3) (n - i) dc ⟨b,off + i * 3,none⟩ (n + 1 - i) sc (cs.drop (i * 3)) (n - i) Try.underlying47 hsz (by simp only [Nat.min_def]; split <;> omega) hdl
   (fun j v hj => by rw [Addr.add_lit,Nat.add_assoc]; exact hcs (i * 3 + j) v (by rwa [List.getElem?_drop] at hj))
   (fun j hj => by rw [hdl] at hj; rw [Nat.add_assoc]; exact hsp _ (omA j hj).2) (fun j hj => by rw [hdl] at hj; rw [Nat.add_assoc]; exact hfz _ (omA j hj).2) (fun v hv => h1c v (List.mem_of_mem_drop hv))
 obtain ⟨W1,hW1⟩:∃ W1,W1 = w.drew.setCells b (off + (i + 1) * 3) (cs.drop (i * 3)):=⟨_,rfl⟩
 have hsp1:∀ k,k < (n + 1) * 3 -> (W1.cell? ⟨b,off + k,none⟩).isSome = true:=fun k hk => by
  rw [hW1]
  exact isSome_setCells b _ _ _ (fun j hj => by rw [Nat.add_assoc]; exact hsp _ (by omega)) _ (hsp k hk)
 have hcp2:∀ (W:World),(∀ x,W.cell? x = W1.cell? x) -> (∀ x,W.frozen? x = W1.frozen? x) -> ∀ ty dc,(Builtin.copy_ #[47,47] ty #[.slice (some ⟨b,off + i * 3,none⟩) (n + 1 - i) dc,.slice (some ⟨vb,voff,none⟩) 1 vc]).run Try.prog W = .ok (goInt (1:Nat)) (W.setCells b (off + i * 3) vs):=fun W hWc hWf ty dc =>
  run_copy_wide W _ _ ty 37 3 b (off + i * 3) (n + 1 - i) dc ⟨vb,voff,none⟩ 1 vc vs 1 Try.underlying47 hsz (by simp only [Nat.min_def]; split <;> omega) (by rw [hvl])
   (fun j v hj => by
    rw [Addr.add_lit,hWc,hW1,World.cell?_setCells_out b _ _ _ _ (fun h _ => absurd h hvb)]
    exact hvs j v hj)
   (fun j hj => by rw [hWc,Nat.add_assoc]; exact hsp1 _ (by omega)) (fun j hj => by rw [hWf,hW1,World.frozen?_setCells,Nat.add_assoc]; exact hfz _ (by omega)) h1v
 rw [<- hW1] at hcp1
 have hin:i <= n:=Nat.le_of_lt hi
 have hb2:¬ (c = i + 1):=by clear hcl hvl; omega
 have hb4:¬ (c = i):=by clear hcl hvl hb2; omega
 have hb1:(0:Int) <= (i:Int) + 1:=by clear hcl hvl hb2 hb4; omega
 have hb3:(i:Int) <= (n:Int) + 1:=by clear hcl hvl hb2 hb4; omega
 have htn:((i:Int) + 1).toNat = i + 1:=by clear hcl hvl hb2 hb4; omega
 have hw1:IntKind.i64.wrap ((i:Int) + 1) = (i:Int) + 1:=by clear hcl hvl hb2 hb4 htn; rw [IntKind.wrap_i64]; omega
 have hw2:wrap64 ((i:Int) + 1) = (i:Int) + 1:=by clear hcl hvl hb2 hb4 htn hw1; unfold wrap64; omega
 have hw3:wrap64 ((n:Int) + 1) = (n:Int) + 1:=by clear hcl hvl hb2 hb4 htn hw1 hw2; unfold wrap64; omega
 clear hcl hvl hdl omA hsp hsp1 hfz hcs hvs h1c h1v hsz hzs hzb hz0 hi0
 go_enter Try.func61,Try.ntmps61
 go_wp2_with (simp only [hov])
 go_region_law_o (refine step_copy_runI rfl _ _ 47 47 rfl _ _ (by simp [Act.eval,Act.put]) (by simp [Act.eval,Act.put]) (hcp1 _ _ _) ?_)
 go_wp2_with (at_builtin; refine wpList_copy_runI _ rfl _ _ 47 47 rfl _ _ rfl rfl (hcp2 _ (fun _ => rfl) (fun _ => rfl) _ _) ?_)
 go_ret
 first | exact ⟨rfl,rfl⟩ | exact ⟨rfl,by rw [hW1]⟩
set_option maxHeartbeats 4000000 in
/-- There is no room: a new row. -/
theorem ins61_grow (b off n c i vb voff vc:Nat) (cs vs:List Value) (w:World) (hi:i < n) (hnc:n <= c) (hroom:c < n + 1) (hbig:(n + 1) * 48 <= 140737488355328)
  (hcl:cs.length = n * 3) (hvl:vs.length = 3)
  (hcs:∀ j v,cs[j]? = some v -> w.cell? ⟨b,off + j,none⟩ = some v)
  (hvs:∀ j v,vs[j]? = some v -> w.cell? ⟨vb,voff + j,none⟩ = some v) (h1c:∀ v ∈ cs,v.oneCell' = true) (h1v:∀ v ∈ vs,v.oneCell' = true) :
  Calls Try.prog 61 #[.slice (some ⟨b,off,none⟩) n c,.int .i64 i,.slice (some ⟨vb,voff,none⟩) 1 vc] w fun e w' =>
   e = .returned (.slice (some ⟨w.heap.size,0,none⟩) (n + 1) (grownCap w (n + 1) c 37)) /\
   w' = (((w.alloc (.cells ((cs.take (i * 3)).toArray ++ Builtin.zeroCells (.agg #[.int .i64 0,.string ⟨#[]⟩,.slice none 0 0]:Value).cells (n + 1 - i) ++ Builtin.zeroCells (.agg #[.int .i64 0,.string ⟨#[]⟩,.slice none 0 0]:Value).cells (grownCap w (n + 1) c 37 - (n + 1))) 37)).drew.setCells w.heap.size (i * 3) vs).drew).setCells w.heap.size ((i + 1) * 3) (cs.drop (i * 3)):=by
 have mixed:Try.prog.follows .mixedOrders = true:=by kernel_rfl
 have hz1:¬ ((1:Int) = 0):=by omega
 have hz2:¬ ((i:Int) = (n:Int)):=by omega
 obtain ⟨i0,hi0,hz0,hzs,hzb⟩:=info_parts ins61_info
 have hsz:(Try.prog.info? 37).map (·.size) = some 3:=by rw [hi0]; simp [hzs]
 have omA:∀ j,j < (n - i) * 3 -> i * 3 + j < (n + 1) * 3 /\ (i + 1) * 3 + j < (n + 1) * 3:=by clear hcl hvl hz1 hz2; omega
 have hdl:(cs.drop (i * 3)).length = (n - i) * 3:=by rw [List.length_drop,hcl]; omega
 have hz3:(c:Int) < (n:Int) + 1:=by clear hcl hvl hdl hz1 hz2; omega
 have hbw:b < w.heap.size:=block_lt_of_cell (hcs 0 _ (List.getElem?_eq_getElem (by clear hz1 hz2 hz3 hdl; omega)))
 have hvw:vb < w.heap.size:=block_lt_of_cell (hvs 0 _ (List.getElem?_eq_getElem (by clear hz1 hz2 hz3 hdl; omega)))
 have hkk:(n:Int) + 1 - (i:Int) = ((n + 1 - i:Nat):Int):=by clear hcl hvl hdl hz1 hz2 hz3; omega
 have hik:i + (n + 1 - i) = n + 1:=by clear hcl hvl hdl hz1 hz2 hz3 hkk; omega
 have hold:(Builtin.firstCells i0.size i (.slice (some ⟨b,off,none⟩) i c)).run Try.prog w.drew = .ok (cs.take (i * 3)).toArray w.drew:=by
  rw [hzs]
  exact run_firstCells_some w.drew 3 i ⟨b,off,none⟩ i c (cs.take (i * 3)) (by rw [List.length_take,hcl]; clear hvl hdl hz1 hz2 hz3 hkk hik; omega) (fun j v hj => by
   rw [Addr.add_lit]
   rw [List.getElem?_take] at hj
   split at hj
   ·exact hcs j v hj
   ·cases hj)
 have hrz:∀ ty,(Builtin.append_ #[47,3] ty #[.slice (some ⟨b,off,none⟩) i c,.int .i64 ((n:Int) + 1 - (i:Int))]).run Try.prog w =
   .ok (.slice (some ⟨w.heap.size,0,none⟩) (n + 1) (grownCap w (n + 1) c 37)) (w.drew.alloc (.cells ((cs.take (i * 3)).toArray ++ Builtin.zeroCells (.agg #[.int .i64 0,.string ⟨#[]⟩,.slice none 0 0]:Value).cells (n + 1 - i) ++ Builtin.zeroCells (.agg #[.int .i64 0,.string ⟨#[]⟩,.slice none 0 0]:Value).cells (grownCap w (n + 1) c 37 - (n + 1))) 37)):=fun ty => by
  have h:=Lib.run_append_grow_zeros w 47 3 ty 37 i0 _ .i64 .i64 Try.underlying47 Try.underlying3 hi0 hz0 (some ⟨b,off,none⟩) i c (cs.take (i * 3)) hold (n + 1 - i)
   (by clear hcl hvl hdl hz1 hz2 hz3 hkk hik; omega) (by clear hcl hvl hdl hz1 hz2 hz3 hkk hik; omega) (by clear hcl hvl hdl hz1 hz2 hz3 hkk; omega) (by clear hcl hvl hdl hz1 hz2 hz3 hkk; omega) (by rw [hzb]; clear hcl hvl hdl hz1 hz2 hz3 hkk hik; omega) (by rw [hzb,hik]; exact growslice_fits hroom hbig)
  rw [hik] at h
  rw [hkk]
  exact h
 obtain ⟨G,hG⟩:∃ G,G = grownCap w (n + 1) c 37:=⟨_,rfl⟩
 obtain ⟨ROW,hROW⟩:∃ ROW:Array Value,ROW = (cs.take (i * 3)).toArray ++ Builtin.zeroCells (.agg #[.int .i64 0,.string ⟨#[]⟩,.slice none 0 0]:Value).cells (n + 1 - i) ++ Builtin.zeroCells (.agg #[.int .i64 0,.string ⟨#[]⟩,.slice none 0 0]:Value).cells (G - (n + 1)):=⟨_,rfl⟩
 rw [<- hG] at hrz ⊢
 rw [<- hROW] at hrz ⊢
 have hRl:(n + 1) * 3 <= ROW.size:=by
  rw [hROW]
  simp only [Array.size_append,List.size_toArray,List.length_take,hcl,zeroCells_size,Value.cells,List.length_cons,List.length_nil]
  clear hvl hdl hz1 hz2 hz3 hkk hik
  show (n + 1) * 3 <= min (i * 3) (n * 3) + (n + 1 - i) * 3 + (G - (n + 1)) * 3
  omega
 obtain ⟨W1,hW1⟩:∃ W1,W1 = w.drew.alloc (.cells ROW 37):=⟨_,rfl⟩
 rw [<- hW1] at hrz
 have hN:∀ j,j < (n + 1) * 3 -> (W1.cell? ⟨w.heap.size,j,none⟩).isSome = true:=fun j hj => by
  rw [hW1,World.cell?_alloc_at (w:=w.drew) ROW _ w.heap.size j rfl,Array.getElem?_eq_getElem (Nat.lt_of_lt_of_le hj hRl)]; rfl
 have hNf:∀ j,W1.frozen? ⟨w.heap.size,j,none⟩ = false:=fun j => by rw [hW1]; exact World.frozen?_alloc_at (w:=w.drew) ROW _ w.heap.size j rfl
 have hOb:∀ j v,w.cell? ⟨b,j,none⟩ = some v -> W1.cell? ⟨b,j,none⟩ = some v:=fun j v h => by rw [hW1,World.cell?_alloc_past (w:=w.drew) _ b j hbw]; exact h
 have hOv:∀ j v,w.cell? ⟨vb,j,none⟩ = some v -> W1.cell? ⟨vb,j,none⟩ = some v:=fun j v h => by rw [hW1,World.cell?_alloc_past (w:=w.drew) _ vb j hvw]; exact h
 have omB:∀ j,j < 3 -> i * 3 + j < (n + 1) * 3:=by clear hcl hvl hdl hz1 hz2 hz3 hkk hik hRl; omega
 have hcpA:∀ (W:World),(∀ x,W.cell? x = W1.cell? x) -> (∀ x,W.frozen? x = W1.frozen? x) -> ∀ ty dc,(Builtin.copy_ #[47,47] ty #[.slice (some ⟨w.heap.size,i * 3,none⟩) (n + 1 - i) dc,.slice (some ⟨vb,voff,none⟩) 1 vc]).run Try.prog W = .ok (goInt (1:Nat)) (W.setCells w.heap.size (i * 3) vs):=fun W hWc hWf ty dc =>
  run_copy_wide W _ _ ty 37 3 w.heap.size (i * 3) (n + 1 - i) dc ⟨vb,voff,none⟩ 1 vc vs 1 Try.underlying47 hsz (by clear hcl hvl hdl hz1 hz2 hz3 hkk hik hRl; simp only [Nat.min_def]; split <;> omega) (by rw [hvl])
   (fun j v hj => by rw [Addr.add_lit,hWc]; exact hOv _ v (hvs j v hj))
   (fun j hj => by rw [hvl] at hj; rw [hWc]; exact hN _ (omB j hj)) (fun j hj => by rw [hWf]; exact hNf _) h1v
 have hGn:n + 1 <= G:=by rw [hG]; exact grownCap_ge w _ _ _
 have hG63:G <= 9223372036854775807:=by
  have:=grownCap_le_maxLen w (n + 1) c 37 (by clear hcl hvl hdl hz1 hz2 hz3 hkk hik hRl hG; unfold maxLen; omega)
  rw [<- hG] at this
  unfold maxLen at this
  clear hcl hvl hdl hz1 hz2 hz3 hkk hik hRl
  omega
 have hbN:b ≠ w.heap.size:=Nat.ne_of_lt hbw
 have hcpB:∀ (W:World),(∀ x,W.cell? x = (W1.setCells w.heap.size (i * 3) vs).cell? x) -> (∀ x,W.frozen? x = (W1.setCells w.heap.size (i * 3) vs).frozen? x) -> ∀ ty dc sc,(Builtin.copy_ #[47,47] ty #[.slice (some ⟨w.heap.size,(i + 1) * 3,none⟩) (n - i) dc,.slice (some ⟨b,off + i * 3,none⟩) (n - i) sc]).run Try.prog W = .ok (goInt (n - i:Nat)) (W.setCells w.heap.size ((i + 1) * 3) (cs.drop (i * 3))):=fun W hWc hWf ty dc sc =>
  run_copy_wide W _ _ ty 37 3 w.heap.size ((i + 1) * 3) (n - i) dc ⟨b,off + i * 3,none⟩ (n - i) sc (cs.drop (i * 3)) (n - i) Try.underlying47 hsz (by simp) hdl
   (fun j v hj => by
    rw [Addr.add_lit,hWc,World.cell?_setCells_out _ _ _ _ _ (fun h _ => absurd h hbN),Nat.add_assoc]
    exact hOb _ v (hcs (i * 3 + j) v (by rwa [List.getElem?_drop] at hj)))
   (fun j hj => by rw [hdl] at hj; rw [hWc]; exact isSome_setCells _ _ _ _ (fun t ht => hN _ (omB t (by rw [hvl] at ht; exact ht))) _ (hN _ (omA j hj).2))
   (fun j hj => by rw [hWf,World.frozen?_setCells]; exact hNf _) (fun v hv => h1c v (List.mem_of_mem_drop hv))
 have hGi:¬ (G = i):=by clear hcl hvl hdl hz1 hz2 hz3 hkk hik hRl hG; omega
 have hGim:¬ (G = i + 1):=by clear hcl hvl hdl hz1 hz2 hz3 hkk hik hRl hG hGi; omega
 have hci:¬ (c = i):=by clear hcl hvl hdl hz1 hz2 hz3 hkk hik hRl hG hGi hGim; omega
 subst hW1
 have hE1:∀ x,((w.alloc (.cells ROW 37)).drew).cell? x = (w.drew.alloc (.cells ROW 37)).cell? x:=fun x => rfl
 have hE2:∀ x,((w.alloc (.cells ROW 37)).drew).frozen? x = (w.drew.alloc (.cells ROW 37)).frozen? x:=fun x => rfl
 have hF1:∀ x,(((w.alloc (.cells ROW 37)).drew.setCells w.heap.size (i * 3) vs).drew).cell? x = ((w.drew.alloc (.cells ROW 37)).setCells w.heap.size (i * 3) vs).cell? x:=fun x => rfl
 have hF2:∀ x,(((w.alloc (.cells ROW 37)).drew.setCells w.heap.size (i * 3) vs).drew).frozen? x = ((w.drew.alloc (.cells ROW 37)).setCells w.heap.size (i * 3) vs).frozen? x:=fun x => rfl
 have hw0:wrap64 ((n:Int) + 1) = (n:Int) + 1:=by clear hcl hvl hdl hz1 hz2 hz3 hkk hik hRl hG hGi hGim hci; unfold wrap64; omega
 have hw0':wrap64 ((n:Int) + 1 - (i:Int)) = (n:Int) + 1 - (i:Int):=by clear hcl hvl hdl hz1 hz2 hz3 hkk hik hRl hG hGi hGim hci hw0; unfold wrap64; omega
 clear hkk hik hold hROW hG hRl hvw hbw omB
 have hin:i <= n:=Nat.le_of_lt hi
 have hb1:(0:Int) <= (i:Int) + 1:=by clear hcl hvl hdl hz1 hz2 hz3 hGi hGim hci hw0 hw0'; omega
 have hb3:(i:Int) <= (n:Int):=by clear hcl hvl hdl hz1 hz2 hz3 hGi hGim hci hw0 hw0' hb1; omega
 have htn:((i:Int) + 1).toNat = i + 1:=by clear hcl hvl hdl hz1 hz2 hz3 hGi hGim hci hw0 hw0' hb1 hb3; omega
 have hw1:IntKind.i64.wrap ((i:Int) + 1) = (i:Int) + 1:=by clear hcl hvl hdl hz1 hz2 hz3 hGi hGim hci hw0 hw0' hb1 hb3 htn; rw [IntKind.wrap_i64]; omega
 have hw2:wrap64 ((i:Int) + 1) = (i:Int) + 1:=by clear hcl hvl hdl hz1 hz2 hz3 hGi hGim hci hw0 hw0' hb1 hb3 htn hw1; unfold wrap64; omega
 clear hcl hvl hdl omA hcs hvs h1c h1v hsz hzs hzb hz0 hi0 hbig hN hNf hOb hOv hbN
 go_enter Try.func61,Try.ntmps61
 go_wp2_with (first
  | (at_builtin; refine Lib.wpList_append_run _ rfl _ _ _ _ rfl _ _ rfl rfl _ _ (hrz _) ?_)
  | (at_builtin; refine wpList_copy_runI _ rfl _ _ 47 47 rfl _ _ rfl rfl (hcpA _ hE1 hE2 _ _) ?_)
  | (at_builtin; refine wpList_copy_runI _ rfl _ _ 47 47 rfl _ _ rfl rfl (hcpB _ (fun _ => rfl) (fun _ => rfl) _ _ _) ?_))
 go_region_law_o (refine step_copy_runI rfl _ _ 47 47 rfl (.slice (some ⟨w.heap.size,(i + 1) * 3,none⟩) (n - i) (G - (i + 1))) (.slice (some ⟨b,off + i * 3,none⟩) (n - i) (c - i)) (by simp [Act.eval,Act.put]) (by simp [Act.eval,Act.put]) (hcpB _ hF1 hF2 3 (G - (i + 1)) (c - i)) ?_)
 go_wp2
 go_ret
 exact ⟨rfl,rfl⟩
end Go.Dc.Kb
end
section
namespace Go.Dc.Kb
open Go.Proofs Go.RowKit
set_option maxRecDepth 100000
end Go.Dc.Kb
end
section
namespace Go.Dc.Kb
open Go.Proofs Go.RowKit
set_option maxRecDepth 100000
end Go.Dc.Kb
end
section
namespace Go.Dc.Kb
open Go.Proofs Go.RowKit
set_option maxRecDepth 100000
theorem vc66 (k:Nat) (G:Nat -> AV) (Q:AV -> Rows -> Prop):vcd (base (rx1 90 2 (k + 1) G)) 1000 66 fi66 [.sl true 0 0 (k + 1) .no] [] Q = (bif true && (decide (0 + (k + 1) <= ((base (rx1 90 2 (k + 1) G)).R 0).n) && (true && decide ((0 + (Src.gen (k + 1) fun (j:Nat) => ((base (rx1 90 2 (k + 1) G)).R 0).at_ (0 + j)).len) * 32 <= 140737488355328))) then Q (AV.sl false 1 0 (0 + (Src.gen (k + 1) fun (j:Nat) => ((base (rx1 90 2 (k + 1) G)).R 0).at_ (0 + j)).len) Cp.no) [some (Row.lst 90 2 []),some (Row.gen 90 2 (0 + (Src.gen (k + 1) fun (j:Nat) => ((base (rx1 90 2 (k + 1) G)).R 0).at_ (0 + j)).len) fun (j:Nat) => bif false then AV.any else (Src.gen (k + 1) fun (j:Nat) => ((base (rx1 90 2 (k + 1) G)).R 0).at_ (0 + j)).at_ (j - 0))] else False):=by kernel_rfl
theorem clone66 (base:Option Addr) (c:Nat) (w:World):Calls Try.prog 66 #[.slice base 0 c] w fun e w' => ∃ ao,e = .returned (.slice ao 0 0) /\ (w' = w \/ w' = w.alloc (.cells #[] 90)):=by
 have hE:∀ (a:Addr) w,(binOp .eql 35 (.slice (some a) 0 c) (.slice none 0 0)).run Try.prog w = .ok (.bool false) w:=fun a w => Lib.run_eql_slice_nil w 35 90 (some a) 0 c 0 0 Try.underlying35
 have hE0:∀ w,(binOp .eql 35 (.slice none 0 c) (.slice none 0 0)).run Try.prog w = .ok (.bool true) w:=fun w => Lib.run_eql_slice_nil w 35 90 none 0 c 0 0 Try.underlying35
 cases base with
 | none =>
  go_enter Try.func66,Try.ntmps66
  go_wp2
  all_goals (go_ret; exact ⟨_,rfl,.inl rfl⟩)
 | some a =>
  go_enter Try.func66,Try.ntmps66
  go_wp2
  all_goals (go_ret; exact ⟨_,rfl,.inr rfl⟩)
theorem row90 {f:Nat -> Option Nat} {N n m:Nat} {D:List At} {G:Nat -> AV} (hn:n = m) (hG:∀ j,j < n -> G j = atL D j):RowS f N (.gen 90 2 n (atL D)) (.gen 90 2 m G):=by
 subst hn
 exact RowS.gen (Nat.le_refl _) fun j hj => ⟨rfl,by rw [hG j hj]; exact gnd_vw _ _ _ rfl⟩
noncomputable def ro1D (D:List At):RR:=rx1 90 2 D.length (atL D)
theorem safe66 (D:List At) (hD:D.length <= 1000000):SafeCall Try.prog (ro1D D) 66 [.sl true 0 0 D.length .no] [] fun v h => v = .sl false 0 0 D.length .no /\ h = [some (.gen 90 2 D.length (atL D))]:=by
 cases hl:D.length with
 | zero =>
  refine (SafeCall.cloneNil (z:=2) clone66 (atL D)).mono ?_
  rintro v h' ⟨rfl,rfl⟩
  exact ⟨rfl,rfl⟩
 | succ k =>
  have hR:ro1D D = rx1 90 2 (k + 1) (atL D):=by unfold ro1D; rw [hl]
  rw [hR]
  refine SafeCall.refitS (byVcd (base_ok _) (f:=66) (fi:=fi66) (by kernel_rfl) 1000 (vc66 k (atL D) fun v h' => v = .sl false 1 0 (k + 1) .no /\ ∃ G:Nat -> AV,(∀ j,j < k + 1 -> G j = atL D j) /\ h' = [some (.lst 90 2 []),some (.gen 90 2 (k + 1) G)]) ?_) ?_
  ·refine hcT ?_ ⟨?_,fun j => atL D (0 + (j - 0)),?_,?_⟩
   ·simp only [Bool.true_and,Bool.and_eq_true,decide_eq_true_eq,Src.len]
    exact ⟨by show 0 + (k + 1) <= k + 1; omega,decide_eq_true (by omega)⟩
   ·simp only [Src.len,Nat.zero_add]
   ·intro j hj; simp only [Nat.zero_add,Nat.sub_zero]
   ·have e:(0 + (Src.gen (k + 1) fun (j:Nat) => ((base (rx1 90 2 (k + 1) (atL D))).R 0).at_ (0 + j)).len) = k + 1:=by simp only [Src.len,Nat.zero_add]
    rw [e]
    rfl
  ·rintro v h' ⟨rfl,G,hG,rfl⟩
   refine ⟨fun c => match c with | 0 => some 1 | _ + 1 => none,.sl false 0 0 (k + 1) .no,[some (.gen 90 2 (k + 1) (atL D))],ViewS.of ?_ ?_,Vw.slI (by simp) rfl,fun c hc => absurd hc (Nat.not_lt_zero _),Nat.zero_le _,rfl,rfl⟩
   ·intro c o ho
    match c,ho with
    | 0,ho => cases ho; exact ViewT.at_ (b:=1) rfl rfl (row90 rfl hG)
    | c + 1,ho => simp at ho
   ·intro c c' b h1 h2 _ _
    simp at h1 h2
    omega
def spec66T (F:Fz):CallSpec:=fun args h k => match args with
 | [.sl true a 0 n .no] => ∃ x D,(a = x + 15 /\ n = D.length /\ Whole F x D /\ D.length <= 1000000) /\ k (.sl false h.length 0 D.length .no) (h ++ [some (.gen 90 2 D.length (atL D))])
 | _ => False
theorem spec66T_ok (R:RR) (F:Fz):∀ args h k,spec66T F args h k -> SafeCall Try.prog (RT R F) 66 args h k:=by
 intro args h k hk
 unfold spec66T at hk
 split at hk
 ·obtain ⟨x,D,⟨rfl,rfl,h1,h2⟩,hk⟩:=hk
  have h3:SafeCall Try.prog (RT R F) 66 [.sl true (x + 15) 0 D.length .no] [] fun v h => v = .sl false 0 0 D.length .no /\ h = [some (.gen 90 2 D.length (atL D))]:=by
   refine (safe66 D h2).renRO ?_ ?_
   ·rintro v h ⟨rfl,rfl⟩
    refine ⟨Bare.sl _ _ _ _ _,?_⟩
    intro b r hb i e he o a ha
    have hr:=live1 hb
    subst hr
    have he2:e = atL D i:=by
     have he:(bif Nat.blt i D.length then some (atL D i) else none) = some e:=he
     cases hi:Nat.blt i D.length with
     | true => rw [hi] at he; simpa using he.symm
     | false => rw [hi] at he; simp at he
    subst he2
    match o,ha with
    | 0,ha => cases ha; exact Bare.str _ _
    | 1,ha => cases ha; exact Bare.str _ _
    | o + 2,ha => simp [atL_str,AV.cells] at ha
   ·intro m w hW
    refine ⟨⟨fun _ => ⟨0,0,0,0,true⟩,fun i => match i with | 0 => lo x (m.ro (x + 15)) | i + 1 => mapX.ro (i + 1)⟩,?_,?_⟩
    ·intro i
     match i with
     | 0 => exact best_row (hW.ro (x + 15)) h1
     | i + 1 =>
      have h:=RX_ok w (i + 1)
      refine ⟨h.1,h.2.1,?_⟩
      show if (mapX.ro (i + 1)).vir = true then 0 = 0 else 0 < 0 -> _
      split
      ·rfl
      ·intro h; exact absurd h (Nat.lt_irrefl _)
    ·intro vs0 has
     simp only [DenL,Den,Map.loc,if_true] at has ⊢
     obtain ⟨v,vs,rfl,⟨g1,g2⟩,rfl⟩:=has
     exact ⟨_,_,rfl,⟨by simp,lo_den g2⟩,rfl⟩
  refine (h3.fresh (VwL.cons (Vw.gndI rfl) VwL.nil) h).mono ?_
  rintro v'' h'' ⟨v',h',⟨rfl,rfl⟩,rfl,rfl⟩
  exact hk
 ·exact hk.elim
end Go.Dc.Kb
end
section
namespace Go.Dc.Kb
open Go.Proofs Go.RowKit
set_option maxRecDepth 100000
structure En where
 nd:Int
 nm:Tx
 x:Nat
 D:List At
def enA (e:En):AV:=.agg [.int .i64 e.nd,.str e.nm,.sl true (e.x + 15) 0 e.D.length .no]
def enOK (F:Fz) (e:En):Prop:=Whole F e.x e.D /\ e.D.length <= 1000000
noncomputable abbrev envT (R:RR) (F:Fz):Env Prop:=((base (RT R F)).addCall 15 (spec15T F)).addCall 66 (spec66T F)
theorem envT_ok (R:RR) (F:Fz):EnvOK Try.prog (envT R F) id:=((base_ok _).addCall (f:=15) (fi:=fi15) (by kernel_rfl) (spec15T_ok R F)).addCall (f:=66) (fi:=fi66) (by kernel_rfl) (spec66T_ok R F)
noncomputable def as18:Code:=rgA fi18 0
noncomputable def bo18:Code:=rgB fi18 0
theorem blk18:blockOf fi18 0 = some (.rangeFunc (.tmp 14) #[15,16] as18 bo18):=by kernel_rfl
def tm18 (e:En) (n:Nat) (i x:AV):List AV:=[AV.ptr false 0 0 0,enA e,AV.tup [],AV.ptr false 2 0 0,AV.ptr false 3 0 0,AV.ptr false 4 0 0,AV.tup [],AV.tup [],AV.ptr false 0 0 0,AV.bool false,AV.ptr false 0 0 0,AV.ptr false 0 0 0,AV.ptr false 0 0 0,AV.sl false 1 0 n Cp.no,AV.fn 65 [] [AV.ptr false 5 0 0],i,x,AV.tup [],AV.tup [],AV.tup [],AV.tup [],AV.tup [],AV.tup [],AV.tup [],AV.tup [],AV.tup [],AV.tup [],AV.tup [],AV.tup [],AV.tup [],AV.tup [],AV.tup [],AV.tup [],AV.tup [],AV.tup [],AV.tup [],AV.tup [],AV.tup [],AV.tup [],AV.tup [],AV.tup [],AV.tup [],AV.tup [],AV.tup [],AV.tup [],AV.tup [],AV.tup [],AV.tup [],AV.tup [],AV.tup [],AV.tup [],AV.tup [],AV.tup [],AV.tup [],AV.tup []]
def rw18 (e:En) (n:Nat) (c l:Int) (its bx:Option Row):Rows:=[some (.lst 49 1 [.agg [.sl false 1 0 n .no]]),its,some (.lst 37 3 [enA e]),some (.lst 3 1 [.int .i64 c]),some (.lst 3 1 [.int .i64 l]),bx]
def bx47 (n:Nat):Option Row:=some (.lst 47 1 [.sl false 1 0 n .no])
def its18 (n:Nat) (E:Nat -> En):Option Row:=some (.gen 37 3 n fun j => enA (E j))
def st18 (e:En) (n:Nat) (E:Nat -> En) (c l:Int):St:=⟨tm18 e n (.tup []) (.tup []),rw18 e n c l (its18 n E) (bx47 n)⟩
end Go.Dc.Kb
end
section
namespace Go.Dc.Kb
open Go.Proofs Go.RowKit
set_option maxRecDepth 100000
theorem vr18 (R:RR) (F:Fz) (e g:En) (n:Nat) (i c l:Int) (Q:Exit -> Rows -> Prop):rndR (envT R F) 10000 18 as18 bo18 ⟨tm18 e n (.int .i64 i) (enA g),rw18 e n c l none none⟩ (fun e st => Q e st.rows) = (bif g.nd == -1 then Q (Exit.exit 0) [some (Row.lst 49 1 [AV.agg [AV.sl false 1 0 n Cp.no]]),none,some (Row.lst 37 3 [AV.agg [iI e.nd,AV.str e.nm,AV.sl true (e.x + 15) 0 e.D.length Cp.no]]),some (Row.lst 3 1 [iI c]),some (Row.lst 3 1 [iI l]),none,some (Row.lst 37 3 [AV.agg [iI g.nd,AV.str g.nm,AV.sl true (g.x + 15) 0 g.D.length Cp.no]])] else bif e.nd == -1 then Q (Exit.exit 0) [some (Row.lst 49 1 [AV.agg [AV.sl false 1 0 n Cp.no]]),none,some (Row.lst 37 3 [AV.agg [iI e.nd,AV.str e.nm,AV.sl true (e.x + 15) 0 e.D.length Cp.no]]),some (Row.lst 3 1 [iI c]),some (Row.lst 3 1 [iI l]),none,some (Row.lst 37 3 [AV.agg [iI g.nd,AV.str g.nm,AV.sl true (g.x + 15) 0 g.D.length Cp.no]])] else ∃ (x:Nat),∃ (y:Nat),∃ (D:List At),∃ (D':List At),(g.x + 15 = x + 15 /\ e.x + 15 = y + 15 /\ g.D.length = D.length /\ e.D.length = D'.length /\ Whole F x D /\ Whole F y D' /\ D.length.le 1000000 /\ D'.length.le 1000000) /\ bif alikeB g.nm e.nm D D' then Q Exit.normal [some (Row.lst 49 1 [AV.agg [AV.sl false 1 0 n Cp.no]]),none,some (Row.lst 37 3 [AV.agg [iI e.nd,AV.str e.nm,AV.sl true (e.x + 15) 0 e.D.length Cp.no]]),some (Row.lst 3 1 [iI (IntKind.i64.wrap (c + 1))]),some (Row.lst 3 1 [iI i]),none,some (Row.lst 37 3 [AV.agg [iI g.nd,AV.str g.nm,AV.sl true (g.x + 15) 0 g.D.length Cp.no]])] else Q Exit.normal [some (Row.lst 49 1 [AV.agg [AV.sl false 1 0 n Cp.no]]),none,some (Row.lst 37 3 [AV.agg [iI e.nd,AV.str e.nm,AV.sl true (e.x + 15) 0 e.D.length Cp.no]]),some (Row.lst 3 1 [iI c]),some (Row.lst 3 1 [iI l]),none,some (Row.lst 37 3 [AV.agg [iI g.nd,AV.str g.nm,AV.sl true (g.x + 15) 0 g.D.length Cp.no]])]):=by kernel_rfl
def alE (g e:En):Bool:=alikeB g.nm e.nm g.D e.D
def mkE (e:En):Bool:=e.nd == -1
def scan (E:Nat -> En) (e:En):Nat -> Nat -> Nat -> Nat × Nat
 | 0,c,l => (c,l)
 | n + 1,c,l => bif mkE (E n) || mkE e then (c,l) else bif alE (E n) e then scan E e n (c + 1) n else scan E e n c l
theorem rw18_fit (e g:En) (n:Nat) (c l:Int):FitR 6 (rw18 e n c l none none) (rw18 e n c l none none ++ [some (.lst 37 3 [enA g])]):=by
 refine ⟨some,View.preX ?_,fun _ _ => rfl,by simp [rw18]⟩
 intro b r hb
 match b,hb with
 | 0,hb => cases hb; exact RowV.lst1 rfl (Vw.aggI (VwL.cons (Vw.slI (by simp [rw18]) rfl) VwL.nil))
 | 1,hb => simp [rw18,Rows.live] at hb
 | 2,hb => cases hb; exact RowV.lst1 rfl (Vw.gndI rfl)
 | 3,hb => cases hb; exact RowV.lst1 rfl Vw.intI
 | 4,hb => cases hb; exact RowV.lst1 rfl Vw.intI
 | 5,hb => simp [rw18,Rows.live] at hb
 | b + 6,hb => simp [rw18,Rows.live] at hb
theorem loop18 (R:RR) (F:Fz) (e:En) (n:Nat) (E:Nat -> En) (hn:n <= 1000000) (he:enOK F e) (hE:∀ j,j < n -> enOK F (E j)) {Q:Exit -> St -> Prop}
  (h:Q .normal (st18 e n E (scan E e n 0 0).1 (scan E e n 0 0).2)) :
  SafeM Try.prog (envT R F).R (.block 0 (.rangeFunc (.tmp 14) #[15,16] as18 bo18)) (st18 e n E 0 0) Q:=by
 refine rangeLoop mixed (envT_ok R F) (f:=18) (fun _ => rfl) (gf:=65) (esz:=3) back65 enters65 (fi:=fi18) (by kernel_rfl) blk18 (by kernel_rfl) (st:=st18 e n E 0 0) (bx:=5) rfl (rb:=.lst 47 1 [AV.sl false 1 0 n Cp.no]) rfl (sv:=AV.sl false 1 0 n Cp.no) rfl
  (ds:=[5,1]) (len:=n) (els:=fun j => enA (E j)) (by simp) (.inr (.inl ⟨1,0,.no,.gen 37 3 n fun j => enA (E j),rfl,rfl,rfl,by simp,fun j hj => by rw [Nat.zero_add]; exact Row.get_gen hj⟩))
  (I:=fun k rows => ∃ c l:Nat,c <= k /\ scan E e n 0 0 = scan E e (n - k) c l /\ rows = rw18 e n c l none none)
  (X:=fun ex rows => ex = .exit 0 /\ rows = rw18 e n (scan E e n 0 0).1 (scan E e n 0 0).2 none none) ⟨0,0,Nat.le_refl _,rfl,rfl⟩ 10000 ?_ ?_ ?_
 ·rintro k rows hk ⟨c,l,hc,ho,rfl⟩
  have e1:=vr18 R F e (E (n - 1 - k)) n ((n - 1 - k:Nat):Int) (c:Nat) (l:Nat)
   (fun ex rows => ∃ rowsE,(rowsE = rows \/ FitR 6 rowsE rows) /\ match ex with
    | .normal => ∃ c l:Nat,c <= k + 1 /\ scan E e n 0 0 = scan E e (n - (k + 1)) c l /\ rowsE = rw18 e n c l none none
    | ex => ex = .exit 0 /\ rowsE = rw18 e n (scan E e n 0 0).1 (scan E e n 0 0).2 none none)
  refine e1.symm ▸ ?_
  obtain ⟨q,hq⟩:∃ q,n - k = q + 1:=⟨n - k - 1,by omega⟩
  have hq1:n - 1 - k = q:=by omega
  have hq2:n - (k + 1) = q:=by omega
  rw [hq] at ho
  rw [hq1,hq2]
  simp only [scan] at ho
  have ew:=wrapSucc c (by omega)
  have hw:=hE q (by omega)
  refine hcB (fun h1 => ?_) (fun h1 => hcB (fun h2 => ?_) (fun h2 => ?_))
  ·rw [show mkE (E q) = true from h1,Bool.true_or,cond_true] at ho
   exact ⟨rw18 e n c l none none,.inr (rw18_fit _ _ _ _ _),rfl,by rw [ho]⟩
  ·rw [show mkE e = true from h2,Bool.or_true,cond_true] at ho
   exact ⟨rw18 e n c l none none,.inr (rw18_fit _ _ _ _ _),rfl,by rw [ho]⟩
  ·rw [show mkE (E q) = false from h1,show mkE e = false from h2,Bool.false_or,cond_false] at ho
   refine ⟨(E q).x,e.x,(E q).D,e.D,⟨rfl,rfl,rfl,rfl,hw.1,he.1,hw.2,he.2⟩,hcB (fun h3 => ?_) (fun h3 => ?_)⟩
   ·rw [show alE (E q) e = true from h3,cond_true] at ho
    rw [ew]
    exact ⟨rw18 e n ((c + 1:Nat):Int) (q:Nat) none none,.inr (rw18_fit _ _ _ _ _),c + 1,q,by omega,ho,rfl⟩
   ·rw [show alE (E q) e = false from h3,cond_false] at ho
    exact ⟨rw18 e n c l none none,.inr (rw18_fit _ _ _ _ _),c,l,by omega,ho,rfl⟩
 ·rintro rows ⟨c,l,hc,ho,rfl⟩
  rw [Nat.sub_self] at ho
  rw [ho] at h
  exact h
 ·rintro ex rows ⟨rfl,rfl⟩
  exact h
end Go.Dc.Kb
end
section
namespace Go.Dc.Kb
open Go.Proofs Go.RowKit
set_option maxRecDepth 100000
end Go.Dc.Kb
end
section
namespace Go.Dc.Kb
open Go.Proofs Go.RowKit
set_option maxRecDepth 100000
def delN {α:Type} (F:Nat -> α) (i:Nat):Nat -> α:=fun j => if j < i then F j else F (j + 1)
theorem dc {p:Prop} [Decidable p] (h:p):decide p = true:=decide_eq_true h
end Go.Dc.Kb
end
section
namespace Go.Dc.Kb
open Go.Proofs Go.RowKit
set_option maxRecDepth 100000
theorem vc50 (R:RR) (n a:Nat) (E:Nat -> AV) (Q:AV -> Rows -> Prop):vcd (base R) 1000 50 fi50 [.sl false 0 0 (n + 1) .no,.int .i64 (a:Nat),.int .i64 ((a + 1:Nat):Int)] [some (.gen 37 3 (n + 1) E)] Q = (bif slCond3 (↑a:Int) (↑(a + 1):Int) (↑(n + 1):Int) (↑(cpEnd Cp.no (n + 1)):Int) then bif (↑a:Int) == (↑(a + 1):Int) then Q (AV.sl false 0 0 (n + 1) Cp.no) [some (Row.gen 37 3 (n + 1) E)] else bif slCondE none (some (↑a:Int)) (n + 1) (cpEnd Cp.no (n + 1)) then bif slCondE (some (↑(a + 1):Int)) none (n + 1) (cpEnd Cp.no (n + 1)) then bif decide (0 + (slHi (n + 1) (some (↑a:Int)) - 0) <= n + 1) && (decide (0 + slLo (some (↑(a + 1):Int)) + (slHi (n + 1) none - slLo (some (↑(a + 1):Int))) <= n + 1) && (true && decide (((Src.gen (slHi (n + 1) (some (↑a:Int)) - 0) fun (j:Nat) => E (0 + j)).len + (Src.gen (slHi (n + 1) none - slLo (some (↑(a + 1):Int))) fun (j:Nat) => E (0 + slLo (some (↑(a + 1):Int)) + j)).len) * 48 <= 140737488355328))) then bif slCondE (some (↑((Src.gen (slHi (n + 1) (some (↑a:Int)) - slLo none) fun (j:Nat) => E (0 + slLo none + j)).len + (Src.gen (slHi (n + 1) none - slLo (some (↑(a + 1):Int))) fun (j:Nat) => E (0 + slLo (some (↑(a + 1):Int)) + j)).len):Int)) (some (↑(n + 1):Int)) ((Src.gen (slHi (n + 1) (some (↑a:Int)) - 0) fun (j:Nat) => E (0 + j)).len + (Src.gen (slHi (n + 1) none - slLo (some (↑(a + 1):Int))) fun (j:Nat) => E (0 + slLo (some (↑(a + 1):Int)) + j)).len) (cpEnd (appCp ((AV.sl false 0 (0 + slLo none) (slHi (n + 1) (some (↑a:Int)) - slLo none) (slCp Cp.no (n + 1) (some (↑a:Int))))) (Src.gen (slHi (n + 1) none - slLo (some (↑(a + 1):Int))) fun (j:Nat) => E (0 + slLo (some (↑(a + 1):Int)) + j)).len) ((Src.gen (slHi (n + 1) (some (↑a:Int)) - 0) fun (j:Nat) => E (0 + j)).len + (Src.gen (slHi (n + 1) none - slLo (some (↑(a + 1):Int))) fun (j:Nat) => E (0 + slLo (some (↑(a + 1):Int)) + j)).len)) then bif (0 + slLo (some (↑((Src.gen (slHi (n + 1) (some (↑a:Int)) - slLo none) fun (j:Nat) => E (0 + slLo none + j)).len + (Src.gen (slHi (n + 1) none - slLo (some (↑(a + 1):Int))) fun (j:Nat) => E (0 + slLo (some (↑(a + 1):Int)) + j)).len):Int)) + (slHi ((Src.gen (slHi (n + 1) (some (↑a:Int)) - 0) fun (j:Nat) => E (0 + j)).len + (Src.gen (slHi (n + 1) none - slLo (some (↑(a + 1):Int))) fun (j:Nat) => E (0 + slLo (some (↑(a + 1):Int)) + j)).len) (some (↑(n + 1):Int)) - slLo (some (↑((Src.gen (slHi (n + 1) (some (↑a:Int)) - slLo none) fun (j:Nat) => E (0 + slLo none + j)).len + (Src.gen (slHi (n + 1) none - slLo (some (↑(a + 1):Int))) fun (j:Nat) => E (0 + slLo (some (↑(a + 1):Int)) + j)).len):Int)))).ble (Row.gen 37 (37,TI.mk (Kd.struct [(3,0,1),(9,1,1),(35,2,1)]) 3 48 (AV.agg [iI 0,AV.str [],AV.nils]) true).snd.size ((Src.gen (slHi (n + 1) (some (↑a:Int)) - slLo none) fun (j:Nat) => E (0 + slLo none + j)).len + (Src.gen (slHi (n + 1) none - slLo (some (↑(a + 1):Int))) fun (j:Nat) => E (0 + slLo (some (↑(a + 1):Int)) + j)).len) fun (j:Nat) => bif j.blt (Src.gen (slHi (n + 1) (some (↑a:Int)) - slLo none) fun (j:Nat) => E (0 + slLo none + j)).len then (Src.gen (slHi (n + 1) (some (↑a:Int)) - slLo none) fun (j:Nat) => E (0 + slLo none + j)).at_ j else (Src.gen (slHi (n + 1) none - slLo (some (↑(a + 1):Int))) fun (j:Nat) => E (0 + slLo (some (↑(a + 1):Int)) + j)).at_ (j - (Src.gen (slHi (n + 1) (some (↑a:Int)) - slLo none) fun (j:Nat) => E (0 + slLo none + j)).len)).len || decide ((Row.gen 37 (37,TI.mk (Kd.struct [(3,0,1),(9,1,1),(35,2,1)]) 3 48 (AV.agg [iI 0,AV.str [],AV.nils]) true).snd.size ((Src.gen (slHi (n + 1) (some (↑a:Int)) - slLo none) fun (j:Nat) => E (0 + slLo none + j)).len + (Src.gen (slHi (n + 1) none - slLo (some (↑(a + 1):Int))) fun (j:Nat) => E (0 + slLo (some (↑(a + 1):Int)) + j)).len) fun (j:Nat) => bif j.blt (Src.gen (slHi (n + 1) (some (↑a:Int)) - slLo none) fun (j:Nat) => E (0 + slLo none + j)).len then (Src.gen (slHi (n + 1) (some (↑a:Int)) - slLo none) fun (j:Nat) => E (0 + slLo none + j)).at_ j else (Src.gen (slHi (n + 1) none - slLo (some (↑(a + 1):Int))) fun (j:Nat) => E (0 + slLo (some (↑(a + 1):Int)) + j)).at_ (j - (Src.gen (slHi (n + 1) (some (↑a:Int)) - slLo none) fun (j:Nat) => E (0 + slLo none + j)).len)).len <= 0 + slLo (some (↑((Src.gen (slHi (n + 1) (some (↑a:Int)) - slLo none) fun (j:Nat) => E (0 + slLo none + j)).len + (Src.gen (slHi (n + 1) none - slLo (some (↑(a + 1):Int))) fun (j:Nat) => E (0 + slLo (some (↑(a + 1):Int)) + j)).len):Int))) then Q (AV.sl false 1 0 ((Src.gen (slHi (n + 1) (some (↑a:Int)) - 0) fun (j:Nat) => E (0 + j)).len + (Src.gen (slHi (n + 1) none - slLo (some (↑(a + 1):Int))) fun (j:Nat) => E (0 + slLo (some (↑(a + 1):Int)) + j)).len) (Cp.room (n + 1 - (↑a:Int).toNat - (Src.gen (slHi (n + 1) none - slLo (some (↑(a + 1):Int))) fun (j:Nat) => E (0 + slLo (some (↑(a + 1):Int)) + j)).len))) [none,some (Row.gen 37 3 ((Src.gen (slHi (n + 1) (some (↑a:Int)) - 0) fun (j:Nat) => E (0 + j)).len + (Src.gen (slHi (n + 1) none - slLo (some (↑(a + 1):Int))) fun (j:Nat) => E (0 + slLo (some (↑(a + 1):Int)) + j)).len) fun (j:Nat) => bif (0 + slLo (some (↑((Src.gen (slHi (n + 1) (some (↑a:Int)) - slLo none) fun (j:Nat) => E (0 + slLo none + j)).len + (Src.gen (slHi (n + 1) none - slLo (some (↑(a + 1):Int))) fun (j:Nat) => E (0 + slLo (some (↑(a + 1):Int)) + j)).len):Int)) + (slHi ((Src.gen (slHi (n + 1) (some (↑a:Int)) - 0) fun (j:Nat) => E (0 + j)).len + (Src.gen (slHi (n + 1) none - slLo (some (↑(a + 1):Int))) fun (j:Nat) => E (0 + slLo (some (↑(a + 1):Int)) + j)).len) (some (↑(n + 1):Int)) - slLo (some (↑((Src.gen (slHi (n + 1) (some (↑a:Int)) - slLo none) fun (j:Nat) => E (0 + slLo none + j)).len + (Src.gen (slHi (n + 1) none - slLo (some (↑(a + 1):Int))) fun (j:Nat) => E (0 + slLo (some (↑(a + 1):Int)) + j)).len):Int)))).ble ((Src.gen (slHi (n + 1) (some (↑a:Int)) - 0) fun (j:Nat) => E (0 + j)).len + (Src.gen (slHi (n + 1) none - slLo (some (↑(a + 1):Int))) fun (j:Nat) => E (0 + slLo (some (↑(a + 1):Int)) + j)).len) && ((0 + slLo (some (↑((Src.gen (slHi (n + 1) (some (↑a:Int)) - slLo none) fun (j:Nat) => E (0 + slLo none + j)).len + (Src.gen (slHi (n + 1) none - slLo (some (↑(a + 1):Int))) fun (j:Nat) => E (0 + slLo (some (↑(a + 1):Int)) + j)).len):Int))).ble j && j.blt (0 + slLo (some (↑((Src.gen (slHi (n + 1) (some (↑a:Int)) - slLo none) fun (j:Nat) => E (0 + slLo none + j)).len + (Src.gen (slHi (n + 1) none - slLo (some (↑(a + 1):Int))) fun (j:Nat) => E (0 + slLo (some (↑(a + 1):Int)) + j)).len):Int)) + (slHi ((Src.gen (slHi (n + 1) (some (↑a:Int)) - 0) fun (j:Nat) => E (0 + j)).len + (Src.gen (slHi (n + 1) none - slLo (some (↑(a + 1):Int))) fun (j:Nat) => E (0 + slLo (some (↑(a + 1):Int)) + j)).len) (some (↑(n + 1):Int)) - slLo (some (↑((Src.gen (slHi (n + 1) (some (↑a:Int)) - slLo none) fun (j:Nat) => E (0 + slLo none + j)).len + (Src.gen (slHi (n + 1) none - slLo (some (↑(a + 1):Int))) fun (j:Nat) => E (0 + slLo (some (↑(a + 1):Int)) + j)).len):Int))))) then (Src.lst (List.replicate (slHi ((Src.gen (slHi (n + 1) (some (↑a:Int)) - 0) fun (j:Nat) => E (0 + j)).len + (Src.gen (slHi (n + 1) none - slLo (some (↑(a + 1):Int))) fun (j:Nat) => E (0 + slLo (some (↑(a + 1):Int)) + j)).len) (some (↑(n + 1):Int)) - slLo (some (↑((Src.gen (slHi (n + 1) (some (↑a:Int)) - slLo none) fun (j:Nat) => E (0 + slLo none + j)).len + (Src.gen (slHi (n + 1) none - slLo (some (↑(a + 1):Int))) fun (j:Nat) => E (0 + slLo (some (↑(a + 1):Int)) + j)).len):Int))) (AV.agg [iI 0,AV.str [],AV.nils]))).at_ (j - (0 + slLo (some (↑((Src.gen (slHi (n + 1) (some (↑a:Int)) - slLo none) fun (j:Nat) => E (0 + slLo none + j)).len + (Src.gen (slHi (n + 1) none - slLo (some (↑(a + 1):Int))) fun (j:Nat) => E (0 + slLo (some (↑(a + 1):Int)) + j)).len):Int)))) else bif j.blt (Src.gen (slHi (n + 1) (some (↑a:Int)) - 0) fun (j:Nat) => E (0 + j)).len then (Src.gen (slHi (n + 1) (some (↑a:Int)) - 0) fun (j:Nat) => E (0 + j)).at_ j else (Src.gen (slHi (n + 1) none - slLo (some (↑(a + 1):Int))) fun (j:Nat) => E (0 + slLo (some (↑(a + 1):Int)) + j)).at_ (j - (Src.gen (slHi (n + 1) (some (↑a:Int)) - 0) fun (j:Nat) => E (0 + j)).len))] else False else False else False else False else False else False):=by kernel_rfl
theorem en_vw {f:Nat -> Option Nat} {N:Nat} (e:En):Vw f N (enA e) (enA e):=gnd_vw _ _ _ rfl
theorem safe50 (R:RR) (n a:Nat) (E:Nat -> En) (hn:n <= 1000000) (ha:a < n + 1):SafeCall Try.prog R 50 [.sl false 0 0 (n + 1) .no,.int .i64 (a:Nat),.int .i64 ((a + 1:Nat):Int)] [some (.gen 37 3 (n + 1) fun j => enA (E j))] fun v h => v = .sl false 1 0 n .no /\ h = [none,some (.gen 37 3 n fun j => enA (delN E a j))]:=by
 have e3:n + 1 - (a + 1) = n - a:=by omega
 have e4:a + (n - a) = n:=by omega
 have e5:n + 1 - a - (n - a) = 1:=by omega
 refine SafeCall.refitS (byVcd (base_ok R) (f:=50) (fi:=fi50) (by kernel_rfl) 1000 (vc50 R n a (fun j => enA (E j)) fun v h' => ∃ (u:Cp) (m:Nat) (G:Nat -> AV),v = .sl false 1 0 m u /\ h' = [none,some (.gen 37 3 m G)] /\ m = n /\ ∀ j,j < n -> G j = enA (delN E a j)) ?_) ?_
 ·refine hcT ?_ (hcF ?_ (hcT ?_ (hcT ?_ (hcT ?_ (hcT ?_ (hcT ?_ ?_))))))
  ·show (decide (0 <= (a:Int)) && (decide ((a:Int) <= ((a + 1:Nat):Int)) && (decide (((a + 1:Nat):Int) <= ((n + 1:Nat):Int)) && decide (((n + 1:Nat):Int) <= ((n + 1:Nat):Int))))) = true
   rw [dc (by omega),dc (by omega),dc (by omega),dc (by omega)]; rfl
  ·rw [beq_eq_false_iff_ne]; omega
  ·show (decide (0 <= (a:Int)) && decide ((a:Int) <= ((n + 1:Nat):Int))) = true
   rw [dc (by omega),dc (by omega)]; rfl
  ·show (decide (0 <= ((a + 1:Nat):Int)) && decide (((a + 1:Nat):Int) <= ((n + 1:Nat):Int))) = true
   rw [dc (by omega),dc (by omega)]; rfl
  ·simp only [slHi,slLo,Src.len,Int.toNat_natCast,Nat.sub_zero,Nat.zero_add,e3,e4]
   rw [dc (by omega),dc (by omega),dc (by omega)]; rfl
  ·simp only [slCondE,slCond,cpEnd,appCp,slCp,slHi,slLo,Src.len,Int.toNat_natCast,Nat.sub_zero,Nat.zero_add,e3,e4,e5]
   rw [dc (by omega),dc (by omega),dc (by omega),dc (by omega)]; rfl
  ·simp only [Row.len,slCondE,slCond,cpEnd,appCp,slCp,slHi,slLo,Src.len,Int.toNat_natCast,Nat.sub_zero,Nat.zero_add,e3,e4,e5]
   rw [dc (Nat.le_refl n),Bool.or_true]
  ·refine ⟨_,_,_,rfl,rfl,?_,?_⟩
   ·simp only [slHi,slLo,Src.len,Int.toNat_natCast,Nat.sub_zero,e3,e4]
   ·intro j hj
    have hb:Nat.ble (n + (n + 1 - n)) n = false:=by rw [Bool.eq_false_iff]; simp
    simp only [slHi,slLo,Src.len,Src.at_,Int.toNat_natCast,Nat.sub_zero,Nat.zero_add,e3,e4,hb,Bool.false_and,cond_false]
    rcases Nat.lt_or_ge j a with h | h
    ·rw [blt_t h,cond_true]
     simp [delN,h]
    ·have e6:a + 1 + (j - a) = j + 1:=by omega
     have hb2:Nat.blt j a = false:=by rw [Bool.eq_false_iff]; simp [Nat.blt_eq]; omega
     rw [hb2,cond_false,e6]
     simp [delN,Nat.not_lt.2 h]
 ·rintro v h' ⟨u,m,G,rfl,rfl,hm,hG⟩
  obtain rfl:n = m:=hm.symm
  refine ⟨some,.sl false 1 0 n .no,[none,some (.gen 37 3 n fun j => enA (delN E a j))],ViewS.of ?_ (fun c c' b _ _ e e' => by cases e; cases e'; rfl),Vw.slE (by simp) rfl,fun _ _ => rfl,by simp,rfl,rfl⟩
  intro c o ho
  match c,ho with
  | 0,ho => cases ho; exact ViewT.none
  | 1,ho => cases ho; exact ViewT.at_ (b:=1) rfl rfl (RowS.gen (Nat.le_refl _) fun j hj => ⟨rfl,by rw [hG j hj]; exact en_vw _⟩)
  | c + 2,ho => simp at ho
end Go.Dc.Kb
end
section
namespace Go.Dc.Kb
open Go.Proofs Go.RowKit
set_option maxRecDepth 100000
structure DelIn (n m:Nat) (E:Nat -> En) (G:Nat -> AV) (a b:Int):Prop where
 h:∃ k i:Nat,n = k + 1 /\ m = n /\ n <= 1000000 /\ a = i /\ b = (i + 1:Nat) /\ i < n /\ ∀ j,j < n -> G j = enA (E j)
structure DelOut (n:Nat) (E:Nat -> En) (a:Int) (m:Nat) (E':Nat -> En):Prop where
 n:n = m + 1
 at_:E' = delN E a.toNat
def spec50 (E:Nat -> En):CallSpec:=fun args h k => match args with
 | [.sl false q 0 n _,.int .i64 a,.int .i64 b] => match h.live q with
  | some (.gen 37 3 m G) => DelIn n m E G a b /\ ∀ m' E',DelOut n E a m' E' -> k (.sl false (h.length + 1) 0 m' .no) (h.set q none ++ [none,some (.gen 37 3 m' fun j => enA (E' j))])
  | _ => False
 | _ => False
theorem spec50_ok (R:RR) (E:Nat -> En):∀ args h k,spec50 E args h k -> SafeCall Try.prog R 50 args h k:=by
 intro args h k hk
 unfold spec50 at hk
 split at hk
 ·rename_i q n u a b
  split at hk
  ·rename_i m G hq
   obtain ⟨⟨c,i,rfl,rfl,hn,rfl,rfl,hi,hG⟩,hk⟩:=hk
   have hq':h[q]? = some (some (.gen 37 3 (c + 1) G)):=by
    have hlt:=live_lt hq
    unfold Rows.live at hq
    rw [List.getElem?_eq_getElem hlt] at hq ⊢
    simpa using hq
   refine (SafeCall.focus1Q (argsL:=[.sl false 0 0 (c + 1) .no,.int .i64 (i:Nat),.int .i64 ((i + 1:Nat):Int)]) (r:=.gen 37 3 (c + 1) fun j => enA (E j)) (Q:=fun V o tl => V = .sl false 1 0 c .no /\ o = none /\ tl = [some (.gen 37 3 c fun j => enA (delN E i j))]) hq' (.gen rfl fun j hj => ⟨rfl,by rw [hG j hj]; exact en_vw _⟩) ?_ ((safe50 R c i E (by omega) hi).mono ?_)).mono ?_
   ·exact VwL.cons (Vw.slE (by simp) rfl) (VwL.cons Vw.intI (VwL.cons Vw.intI VwL.nil))
   ·rintro v h' ⟨rfl,rfl⟩
    exact ⟨_,_,⟨rfl,rfl,rfl⟩,rfl⟩
   ·rintro v'' h'' ⟨V,o,tl,⟨rfl,rfl,rfl⟩,rfl,rfl⟩
    exact hk c _ ⟨rfl,rfl⟩
  ·exact hk.elim
 ·exact hk.elim
end Go.Dc.Kb
end
section
namespace Go.Dc.Kb
open Go.Proofs Go.RowKit
set_option maxRecDepth 100000
noncomputable abbrev envU (R:RR) (F:Fz) (E:Nat -> En):Env Prop:=(envT R F).addCall 50 (spec50 E)
theorem envU_ok (R:RR) (F:Fz) (E:Nat -> En):EnvOK Try.prog (envU R F E) id:=(envT_ok R F).addCall (f:=50) (fi:=fi50) (by kernel_rfl) (spec50_ok _ E)
structure StIs (st st':St):Prop where
 h:st = st'
noncomputable def rl18 (e:En) (n:Nat) (E:Nat -> En):Nat -> Option LoopSp:=fun id => match id with
 | 0 => some fun st k => StIs st (st18 e n E 0 0) /\ ∀ c l:Nat,(c,l) = scan E e n 0 0 -> k .normal (st18 e n E (c:Nat) (l:Nat))
 | _ + 1 => none
end Go.Dc.Kb
end
section
namespace Go.Dc.Kb
open Go.Proofs Go.RowKit
set_option maxRecDepth 100000
theorem vm18 (R:RR) (F:Fz) (e:En) (n:Nat) (E:Nat -> En) (Q:AV -> Rows -> Prop):vcm (envU R F E) back (rl18 e n E) 10000 18 fi18 [.ptr false 0 0 0,enA e] [some (.lst 49 1 [.agg [.sl false 1 0 n .no]]),some (.gen 37 3 n fun j => enA (E j))] Q = (StIs (St.mk [AV.ptr false 0 0 0,AV.agg [iI e.nd,AV.str e.nm,AV.sl true (e.x + 15) 0 e.D.length Cp.no],AV.tup [],AV.ptr false 2 0 0,AV.ptr false 3 0 0,AV.ptr false 4 0 0,AV.tup [],AV.tup [],AV.ptr false 0 0 0,AV.bool false,AV.ptr false 0 0 0,AV.ptr false 0 0 0,AV.ptr false 0 0 0,AV.sl false 1 0 n Cp.no,AV.fn 65 [] [AV.ptr false 5 0 0],AV.tup [],AV.tup [],AV.tup [],AV.tup [],AV.tup [],AV.tup [],AV.tup [],AV.tup [],AV.tup [],AV.tup [],AV.tup [],AV.tup [],AV.tup [],AV.tup [],AV.tup [],AV.tup [],AV.tup [],AV.tup [],AV.tup [],AV.tup [],AV.tup [],AV.tup [],AV.tup [],AV.tup [],AV.tup [],AV.tup [],AV.tup [],AV.tup [],AV.tup [],AV.tup [],AV.tup [],AV.tup [],AV.tup [],AV.tup [],AV.tup [],AV.tup [],AV.tup [],AV.tup [],AV.tup [],AV.tup []] [some (Row.lst 49 1 [AV.agg [AV.sl false 1 0 n Cp.no]]),some (Row.gen 37 3 n fun (j:Nat) => enA (E j)),some (Row.lst 37 3 [AV.agg [iI e.nd,AV.str e.nm,AV.sl true (e.x + 15) 0 e.D.length Cp.no]]),some (Row.lst 3 1 [iI 0]),some (Row.lst 3 1 [iI 0]),some (Row.lst 47 1 [AV.sl false 1 0 n Cp.no])]) (St.mk [AV.ptr false 0 0 0,AV.agg [iI e.nd,AV.str e.nm,AV.sl true (e.x + 15) 0 e.D.length Cp.no],AV.tup [],AV.ptr false 2 0 0,AV.ptr false 3 0 0,AV.ptr false 4 0 0,AV.tup [],AV.tup [],AV.ptr false 0 0 0,AV.bool false,AV.ptr false 0 0 0,AV.ptr false 0 0 0,AV.ptr false 0 0 0,AV.sl false 1 0 n Cp.no,AV.fn 65 [] [AV.ptr false 5 0 0],AV.tup [],AV.tup [],AV.tup [],AV.tup [],AV.tup [],AV.tup [],AV.tup [],AV.tup [],AV.tup [],AV.tup [],AV.tup [],AV.tup [],AV.tup [],AV.tup [],AV.tup [],AV.tup [],AV.tup [],AV.tup [],AV.tup [],AV.tup [],AV.tup [],AV.tup [],AV.tup [],AV.tup [],AV.tup [],AV.tup [],AV.tup [],AV.tup [],AV.tup [],AV.tup [],AV.tup [],AV.tup [],AV.tup [],AV.tup [],AV.tup [],AV.tup [],AV.tup [],AV.tup [],AV.tup [],AV.tup []] [some (Row.lst 49 1 [AV.agg [AV.sl false 1 0 n Cp.no]]),some (Row.gen 37 3 n fun (j:Nat) => enA (E j)),some (Row.lst 37 3 [AV.agg [iI e.nd,AV.str e.nm,AV.sl true (e.x + 15) 0 e.D.length Cp.no]]),some (Row.lst 3 1 [iI 0]),some (Row.lst 3 1 [iI 0]),some (Row.lst 47 1 [AV.sl false 1 0 n Cp.no])]) /\ ∀ (c l:Nat),(c,l) = scan E e n 0 0 -> bif decide ((↑c:Int) ≥ 3) then DelIn n n E (fun (j:Nat) => enA (E j)) (↑l:Int) (IntKind.i64.wrap ((↑l:Int) + 1)) /\ ∀ (m':Nat) (E':Nat -> En),DelOut n E (↑l:Int) m' E' -> ∃ (x:Nat),∃ (D:List At),(e.x + 15 = x + 15 /\ e.D.length = D.length /\ Whole F x D /\ D.length.le 1000000) /\ AV.sl false 7 0 m' Cp.no = AV.sl false 7 0 m' Cp.no /\ AV.sl false 7 0 m' Cp.no = AV.sl false 7 0 m' Cp.no /\ bif decide (0 + m' <= m') && (true && (true && decide (((Src.gen m' fun (j:Nat) => enA (E' (0 + j))).len + 1) * 48 <= 140737488355328))) then Q (AV.tup []) [some (Row.lst 49 1 [AV.agg [AV.sl false 12 0 ((Src.gen m' fun (j:Nat) => enA (E' (0 + j))).len + 1) Cp.no]]),none,some (Row.lst 37 3 [AV.agg [iI e.nd,AV.str e.nm,AV.sl true (e.x + 15) 0 e.D.length Cp.no]]),some (Row.lst 3 1 [iI (↑c:Int)]),some (Row.lst 3 1 [iI (↑l:Int)]),some (Row.lst 47 1 [AV.sl false 1 0 n Cp.no]),none,none,some (Row.lst 37 3 [AV.agg [iI e.nd,AV.str e.nm,AV.sl false 10 0 D.length Cp.no]]),some (Row.lst 37 3 [AV.agg [iI e.nd,AV.str e.nm,AV.sl false 10 0 D.length Cp.no]]),some (Row.gen 90 2 D.length fun (j:Nat) => AV.agg [AV.str (D.getD j ([],[])).fst,AV.str (D.getD j ([],[])).snd]),some (Row.lst 37 3 [AV.agg [iI e.nd,AV.str e.nm,AV.sl false 10 0 D.length Cp.no]]),some (Row.gen 37 3 ((Src.gen m' fun (j:Nat) => enA (E' (0 + j))).len + 1) fun (j:Nat) => bif j.blt (Src.gen m' fun (j:Nat) => enA (E' (0 + j))).len then AV.agg [iI (E' (0 + j)).nd,AV.str (E' (0 + j)).nm,AV.sl true ((E' (0 + j)).x + 15) 0 (E' (0 + j)).D.length Cp.no] else (Src.lst [AV.agg [iI e.nd,AV.str e.nm,AV.sl false 10 0 D.length Cp.no]]).at_ (j - (Src.gen m' fun (j:Nat) => enA (E' (0 + j))).len))] else False else ∃ (x:Nat),∃ (D:List At),(e.x + 15 = x + 15 /\ e.D.length = D.length /\ Whole F x D /\ D.length.le 1000000) /\ AV.sl false 1 0 n Cp.no = AV.sl false 1 0 n Cp.no /\ AV.sl false 1 0 n Cp.no = AV.sl false 1 0 n Cp.no /\ bif decide (0 + n <= n) && (true && (true && decide (((Src.gen n fun (j:Nat) => enA (E (0 + j))).len + 1) * 48 <= 140737488355328))) then Q (AV.tup []) [some (Row.lst 49 1 [AV.agg [AV.sl false 10 0 ((Src.gen n fun (j:Nat) => enA (E (0 + j))).len + 1) Cp.no]]),none,some (Row.lst 37 3 [AV.agg [iI e.nd,AV.str e.nm,AV.sl true (e.x + 15) 0 e.D.length Cp.no]]),some (Row.lst 3 1 [iI (↑c:Int)]),some (Row.lst 3 1 [iI (↑l:Int)]),some (Row.lst 47 1 [AV.sl false 1 0 n Cp.no]),some (Row.lst 37 3 [AV.agg [iI e.nd,AV.str e.nm,AV.sl false 8 0 D.length Cp.no]]),some (Row.lst 37 3 [AV.agg [iI e.nd,AV.str e.nm,AV.sl false 8 0 D.length Cp.no]]),some (Row.gen 90 2 D.length fun (j:Nat) => AV.agg [AV.str (D.getD j ([],[])).fst,AV.str (D.getD j ([],[])).snd]),some (Row.lst 37 3 [AV.agg [iI e.nd,AV.str e.nm,AV.sl false 8 0 D.length Cp.no]]),some (Row.gen 37 3 ((Src.gen n fun (j:Nat) => enA (E (0 + j))).len + 1) fun (j:Nat) => bif j.blt (Src.gen n fun (j:Nat) => enA (E (0 + j))).len then AV.agg [iI (E (0 + j)).nd,AV.str (E (0 + j)).nm,AV.sl true ((E (0 + j)).x + 15) 0 (E (0 + j)).D.length Cp.no] else (Src.lst [AV.agg [iI e.nd,AV.str e.nm,AV.sl false 8 0 D.length Cp.no]]).at_ (j - (Src.gen n fun (j:Nat) => enA (E (0 + j))).len))] else False):=by kernel_rfl
def addE (E:Nat -> En) (e:En) (n:Nat):Nat × (Nat -> En):=bif decide (3 <= (scan E e n 0 0).1) then (n - 1,delN E (scan E e n 0 0).2) else (n,E)
def enL (e:En) (q:Nat):AV:=.agg [.int .i64 e.nd,.str e.nm,.sl false q 0 e.D.length .no]
def rwO (e:En) (m:Nat) (E:Nat -> En):Rows:=[some (.lst 49 1 [.agg [.sl false 2 0 (m + 1) .no]]),none,some (.gen 37 3 (m + 1) fun j => bif Nat.blt j m then enA (E j) else enL e 3),some (.gen 90 2 e.D.length (atL e.D))]
theorem scan_lt (E:Nat -> En) (e:En):∀ n c l,c < (scan E e n c l).1 -> (scan E e n c l).2 < n
 | 0,c,l,h => by simp [scan] at h
 | n + 1,c,l,h => by
  unfold scan at h ⊢
  cases h1:mkE (E n) || mkE e
  ·rw [h1] at h
   cases h2:alE (E n) e
   ·rw [h2] at h
    have:=scan_lt E e n c l (by simpa using h)
    simp only [cond_false]; omega
   ·rw [h2] at h
    simp only [cond_false,cond_true] at h ⊢
    by_cases h3:c + 1 < (scan E e n (c + 1) n).1
    ·have:=scan_lt E e n (c + 1) n h3; omega
    ·have key:∀ n c l,(scan E e n c l).1 <= c -> (scan E e n c l).2 = l:=by
      intro n
      induction n with
      | zero => intro c l _; rfl
      | succ n ih =>
       intro c l hh
       unfold scan at hh ⊢
       cases hA:mkE (E n) || mkE e
       ·rw [hA,cond_false] at hh
        rw [cond_false]
        cases hB:alE (E n) e
        ·rw [hB,cond_false] at hh; rw [cond_false]; exact ih c l hh
        ·rw [hB,cond_true] at hh
         exfalso
         have mono:∀ n c l,c <= (scan E e n c l).1:=by
          intro n
          induction n with
          | zero => intro c l; exact Nat.le_refl _
          | succ n ih2 =>
           intro c l
           unfold scan
           cases mkE (E n) || mkE e
           ·cases alE (E n) e
            ·exact ih2 c l
            ·exact Nat.le_trans (Nat.le_succ _) (ih2 (c + 1) n)
           ·exact Nat.le_refl _
         have:=mono n (c + 1) n
         omega
       ·rfl
     rw [key n (c + 1) n (by omega)]; omega
  ·rw [h1] at h; simp at h
def k18 (p q:Nat):Nat -> Option Nat:=fun c => match c with | 0 => some 0 | 1 => some 1 | 2 => some p | 3 => some q | _ + 4 => none
theorem fit18 {e:En} {m p q m1 m2:Nat} {E:Nat -> En} {h:Rows} {G H:Nat -> AV} {u:Cp} (hp:2 <= p) (hq:2 <= q) (hpq:p ≠ q) (hm:m1 = m + 1) (hm2:m2 = e.D.length)
  (h0:h.live 0 = some (.lst 49 1 [.agg [.sl false p 0 m1 u]])) (h2:h.live p = some (.gen 37 3 m1 G)) (h3:h.live q = some (.gen 90 2 m2 H)) (hG:∀ j,j < m -> G j = enA (E j)) (hGm:G m = enL e q) (hH:∀ j,j < m2 -> H j = atL e.D j) :
  ViewS (k18 p q) (rwO e m E) h:=by
 subst hm; subst hm2
 refine ViewS.of ?_ ?_
 ·intro c o ho
  match c,ho with
  | 0,ho => cases ho; exact ViewT.at_ (b:=0) rfl h0 (RowV.lst1 (f:=k18 p q) rfl (Vw.aggI (VwL.cons (Vw.slE (b':=p) (by simp [rwO]) rfl) VwL.nil))).s
  | 1,ho => cases ho; exact ViewT.none
  | 2,ho =>
   cases ho
   refine ViewT.at_ (b:=p) rfl h2 (RowS.gen (Nat.le_refl _) fun j hj => ?_)
   rcases Nat.lt_or_ge j m with hlt | hge
   ·have hb:Nat.blt j m = true:=by simpa [Nat.blt_eq] using hlt
    rw [hb,cond_true,hG j hlt]
    exact ⟨rfl,en_vw _⟩
   ·have hb:Nat.blt j m = false:=by rw [Bool.eq_false_iff]; simp [Nat.blt_eq]; omega
    obtain rfl:j = m:=by omega
    rw [hb,cond_false,hGm]
    exact ⟨rfl,Vw.aggI (VwL.cons Vw.intI (VwL.cons Vw.strI (VwL.cons (Vw.slI (by simp [rwO]) rfl) VwL.nil)))⟩
  | 3,ho => cases ho; exact ViewT.at_ (b:=q) rfl h3 (RowS.gen (Nat.le_refl _) fun j hj => ⟨rfl,by rw [hH j hj]; exact gnd_vw _ _ _ rfl⟩)
  | c + 4,ho => simp [rwO] at ho
 ·intro c c' b hc hc' e1 e2
  match c,c' with
  | 0,0 | 1,1 | 2,2 | 3,3 => rfl
  | 0,1 | 0,2 | 0,3 | 1,0 | 1,2 | 1,3 | 2,0 | 2,1 | 2,3 | 3,0 | 3,1 | 3,2 => simp [k18] at e1 e2; omega
  | _ + 4,_ => simp [k18] at e1
  | 0,_ + 4 | 1,_ + 4 | 2,_ + 4 | 3,_ + 4 => simp [k18] at e2
theorem safe18 (R:RR) (F:Fz) (e:En) (n:Nat) (E:Nat -> En) (hn:n <= 1000000) (he:enOK F e) (hE:∀ j,j < n -> enOK F (E j)) :
  SafeCall Try.prog (RT R F) 18 [.ptr false 0 0 0,enA e] [some (.lst 49 1 [.agg [.sl false 1 0 n .no]]),some (.gen 37 3 n fun j => enA (E j))] fun v h => v = .tup [] /\ h = rwO e (addE E e n).1 (addE E e n).2:=by
 refine SafeCall.refitS (Q:=fun v h => v = .tup [] /\ ∃ p q,2 <= p /\ 2 <= q /\ ViewS (k18 p q) (rwO e (addE E e n).1 (addE E e n).2) h) ?_ ?_
 ·refine SafeCall.vcm (E:=envU R F E) (rl:=rl18 e n E) (n:=10000) mixed (envU_ok R F E) back_ok (fun _ => rfl) ?_ (f:=18) (fi:=fi18) (by kernel_rfl) (by kernel_rfl) ?_
  ·intro id spec hs body hb st k hk
   cases id with
   | succ i => cases hs
   | zero =>
    simp only [rl18,Option.some.injEq] at hs
    subst hs
    obtain ⟨⟨rfl⟩,hk⟩:=hk
    obtain rfl:=blockOf_uniq blk18 (show (0,body) ∈ subs fi18.body from hb)
    exact loop18 R F e n E hn he hE (hk _ _ rfl)
  ·refine (vm18 R F e n E _).symm ▸ ⟨⟨rfl⟩,fun c l hcl => hcB (fun hd => ?_) (fun hd => ?_)⟩
   ·have h3:3 <= c:=by have:=of_decide_eq_true hd; omega
    have hsl:l < n:=by
     have:=scan_lt E e n 0 0 (by rw [<- hcl]; show 0 < c; omega)
     rw [<- hcl] at this
     exact this
    obtain ⟨k,rfl⟩:∃ k,n = k + 1:=⟨n - 1,by omega⟩
    have ea:addE E e (k + 1) = (k,delN E l):=by
     unfold addE
     rw [<- hcl]
     rw [dc h3]
     rfl
    have ew:=wrapSucc l (by omega)
    rw [ew]
    refine ⟨⟨k,l,rfl,rfl,hn,rfl,rfl,hsl,fun _ _ => rfl⟩,fun m' E' hm => ?_⟩
    obtain ⟨hm1,hm2⟩:=hm
    obtain rfl:m' = k:=by omega
    have hm2:E' = delN E l:=by rw [hm2]; rfl
    subst hm2
    refine ⟨e.x,e.D,⟨rfl,rfl,he.1,he.2⟩,rfl,rfl,hcT ?_ ⟨rfl,12,10,by decide,by decide,?_⟩⟩
    ·rw [Bool.and_eq_true]
     exact ⟨decide_eq_true (by show 0 + m' <= m'; omega),by rw [Bool.true_and,Bool.true_and]; exact decide_eq_true (by show (m' + 1) * 48 <= 140737488355328; omega)⟩
    ·rw [ea]
     refine fit18 (m:=m') (m1:=m' + 1) (m2:=e.D.length) (by decide) (by decide) (by decide) rfl rfl rfl rfl rfl (fun j hj => ?_) ?_ (fun _ _ => rfl)
     ·have hb:Nat.blt j m' = true:=by simpa [Nat.blt_eq] using hj
      simp only [Src.len,hb,cond_true,Nat.zero_add]
      rfl
     ·have hb:Nat.blt m' m' = false:=by rw [Bool.eq_false_iff]; simp [Nat.blt_eq]
      simp only [Src.len,hb,cond_false,Nat.sub_self]
      rfl
   ·have h3:¬ 3 <= c:=by have:=of_decide_eq_false hd; omega
    have ea:addE E e n = (n,E):=by
     unfold addE
     rw [<- hcl]
     rw [decide_eq_false h3]
     rfl
    refine ⟨e.x,e.D,⟨rfl,rfl,he.1,he.2⟩,rfl,rfl,hcT ?_ ⟨rfl,10,8,by decide,by decide,?_⟩⟩
    ·rw [Bool.and_eq_true]
     exact ⟨decide_eq_true (by show 0 + n <= n; omega),by rw [Bool.true_and,Bool.true_and]; exact decide_eq_true (by show (n + 1) * 48 <= 140737488355328; omega)⟩
    ·rw [ea]
     refine fit18 (m:=n) (m1:=n + 1) (m2:=e.D.length) (by decide) (by decide) (by decide) rfl rfl rfl rfl rfl (fun j hj => ?_) ?_ (fun _ _ => rfl)
     ·have hb:Nat.blt j n = true:=by simpa [Nat.blt_eq] using hj
      simp only [Src.len,hb,cond_true,Nat.zero_add]
      rfl
     ·have hb:Nat.blt n n = false:=by rw [Bool.eq_false_iff]; simp [Nat.blt_eq]
      simp only [Src.len,hb,cond_false,Nat.sub_self]
      rfl
 ·rintro v h ⟨rfl,p,q,hp,hq,hV⟩
  refine ⟨k18 p q,.tup [],_,hV,Vw.tupI VwL.nil,fun c hc => ?_,by simp [rwO],rfl,rfl⟩
  match c,hc with
  | 0,_ => rfl
  | 1,_ => rfl
end Go.Dc.Kb
end
section
namespace Go.Dc.Kb
open Go.Proofs Go.RowKit
set_option maxRecDepth 100000
def lstR (p n:Nat):Row:=.lst 49 1 [.agg [.sl false p 0 n .no]]
def rwI (n:Nat) (E:Nat -> En):Rows:=[some (lstR 1 n),some (.gen 37 3 n fun j => enA (E j))]
def rwP (n:Nat) (E:Nat -> En):Rows:=[some (lstR 2 n),none,some (.gen 37 3 n fun j => enA (E j))]
def addX (E:Nat -> En) (e:En) (n x:Nat):Nat -> En:=fun j => bif Nat.blt j (addE E e n).1 then (addE E e n).2 j else ⟨e.nd,e.nm,x,e.D⟩
theorem addE_le (E:Nat -> En) (e:En) (n:Nat):(addE E e n).1 <= n:=by
 unfold addE
 cases decide (3 <= (scan E e n 0 0).1)
 ·exact Nat.le_refl _
 ·exact Nat.sub_le _ _
theorem addE_ok {F:Fz} {E:Nat -> En} {e:En} {n:Nat} (hE:∀ j,j < n -> enOK F (E j)):∀ j,j < (addE E e n).1 -> enOK F ((addE E e n).2 j):=by
 intro j hj
 unfold addE at hj ⊢
 cases h:decide (3 <= (scan E e n 0 0).1)
 ·rw [h] at hj; exact hE j hj
 ·rw [h] at hj
  simp only [cond_true] at hj ⊢
  unfold delN
  split
  ·exact hE j (by omega)
  ·exact hE (j + 1) (by omega)
theorem enOK.le {F F':Fz} {e:En} (h:enOK F e) (hl:F.le F'):enOK F' e:=⟨h.1.le hl,h.2⟩
theorem addX_ok {F F':Fz} {E:Nat -> En} {e:En} {n x:Nat} (hE:∀ j,j < n -> enOK F (E j)) (he:enOK F e) (hl:F.le F') (hx:Whole F' x e.D):∀ j,j < (addE E e n).1 + 1 -> enOK F' (addX E e n x j):=by
 intro j hj
 unfold addX
 cases h:Nat.blt j (addE E e n).1
 ·exact ⟨hx,he.2⟩
 ·exact (addE_ok hE j (by simpa [Nat.blt_eq] using h)).le hl
theorem add_ok {R:RR} (hR:∀ F x,FrzC F x (R (x + 15))) {F:Fz} {e:En} {n:Nat} {E:Nat -> En} (hn:n <= 1000000) (he:enOK F e) (hE:∀ j,j < n -> enOK F (E j)) :
  SafeCallX Try.prog R 18 [.ptr false 0 0 0,enA e] (rwI n E) F (fun v h F' => F.le F' /\ ∃ x,Whole F' x e.D /\ v = .tup [] /\ h = rwP ((addE E e n).1 + 1) (addX E e n x)) noP:=by
 refine SafeCallX.post ((safe18 R F e n E hn he hE).toXT (RT_names R F) (RT_back R F (hR F)) (HP:=noP) (Q':=fun v h F' => F' = F /\ v = .tup [] /\ h = rwO e (addE E e n).1 (addE E e n).2) (fun _ _ h => ⟨rfl,h⟩)) ?_ (fun _ _ _ _ h => h.elim)
 rintro v h' F' hle ⟨rfl,rfl,rfl⟩
 refine ToV.freeze 3 (r:=.gen 90 2 e.D.length (atL e.D)) (ro:=⟨90,2,e.D.length,atL e.D⟩) rfl (RoOf.gen fun i hi a ha => ?_) fun F2 x hle2 hfr => ?_
 ·have ha:a ∈ [AV.str (e.D.getD i ([],[])).1,AV.str (e.D.getD i ([],[])).2]:=ha
  simp only [List.mem_cons,List.not_mem_nil,or_false] at ha
  rcases ha with rfl | rfl
  ·simp [gtk]
  ·simp [gtk]
 ·refine ToV.fitS (vE:=.tup []) (hE:=rwP ((addE E e n).1 + 1) (addX E e n x)) some (ViewS.of ?_ (fun c c' b _ _ e e' => by cases e; cases e'; rfl)) (Vw.tupI VwL.nil) (fun _ _ => rfl) (by simp [rwP,rwI]) (ToV.here ⟨hle2,x,Whole.of hfr,rfl,rfl⟩)
  intro c o ho
  match c,ho with
  | 0,ho => cases ho; exact ViewT.at_ (b:=0) rfl rfl (RowV.lst1 rfl (Vw.aggI (VwL.cons (Vw.slI (by simp [rwP]) rfl) VwL.nil))).s
  | 1,ho => cases ho; exact ViewT.none
  | 2,ho =>
   cases ho
   refine ViewT.at_ (b:=2) rfl rfl (RowS.gen (Nat.le_refl _) fun j hj => ⟨rfl,?_⟩)
   show Vw some _ (enA (bif Nat.blt j (addE E e n).1 then (addE E e n).2 j else ⟨e.nd,e.nm,x,e.D⟩)) (tkE 3 x (bif Nat.blt j (addE E e n).1 then enA ((addE E e n).2 j) else enL e 3))
   cases Nat.blt j (addE E e n).1
   ·exact en_vw (⟨e.nd,e.nm,x,e.D⟩:En)
   ·exact en_vw _
  | c + 3,ho => simp [rwP] at ho
end Go.Dc.Kb
end
section
namespace Go.Dc.Kb
open Go.Proofs Go.RowKit
set_option maxRecDepth 100000
def Came (F:Fz) (x n:Nat) (N V:Nat -> Tx):Prop:=∃ t,FrzC F x ⟨t,2,n,atA N V⟩
theorem Came.le {F F':Fz} {x n:Nat} {N V:Nat -> Tx} (h:Came F x n N V) (hl:F.le F'):Came F' x n N V:=by
 obtain ⟨t,h⟩:=h
 rcases h with ⟨h0,h⟩ | h
 ·exact ⟨t,.inl ⟨h0,h.le hl⟩⟩
 ·exact ⟨t,.inr h⟩
noncomputable def oneR (R:RR) (x:Nat) (r:RoRow):RR:=fun i => bif Nat.beq i (x + 15) then r else R i
theorem oneR_at (R:RR) (x:Nat) (r:RoRow):oneR R x r (x + 15) = r:=by unfold oneR; rw [Nat.beq_refl]; rfl
theorem oneR_ne {R:RR} {x:Nat} {r:RoRow} {i:Nat} (h:i ≠ x + 15):oneR R x r i = R i:=by
 unfold oneR
 rw [show Nat.beq i (x + 15) = false by rw [Bool.eq_false_iff]; exact fun e => h (Nat.eq_of_beq_eq_true e)]
 rfl
theorem oneR_names {R:RR} {F:Fz} {x:Nat} {r:RoRow} (hR:∀ x,FrzC F x (R (x + 15))) (h:FrzC F x r):Names F R (oneR R x r):=⟨fun i hi => oneR_ne (by omega),fun y => by
 by_cases hy:y = x
 ·subst hy; rw [oneR_at]; exact h
 ·rw [oneR_ne (by omega)]; exact hR y⟩
theorem oneR_back {R:RR} {F:Fz} {x:Nat} {r:RoRow} (hR:∀ x,FrzC F x (R (x + 15))):Names F (oneR R x r) R:=⟨fun i hi => (oneR_ne (by omega)).symm,hR⟩
theorem bareEnt (n:Nat) (nd:Int) (nm:Tx) (b l:Nat):Bare n (entA nd nm (.sl false b 0 l .no)):=fun m m' e v h => by
 simp only [Den,DenL] at h ⊢
 obtain ⟨us,rfl,x1,y1,e1,g1,x2,y2,e2,g2,x3,y3,e3,g3,g3'⟩:=h
 refine ⟨us,rfl,x1,y1,e1,g1,x2,y2,e2,g2,x3,y3,e3,?_,g3'⟩
 have:=Bare.sl n b 0 l .no m m' e x3 (by simpa only [Den] using g3)
 simpa only [Den] using this
theorem pair_safe (t:Nat) (R:RR) (x n:Nat) (N V:Nat -> Tx) (wh at_ nd:Int) (nm:Tx):SafeCall Try.prog (oneR R x ⟨t,2,n,atA N V⟩) 14 [.agg [.int .i64 wh,.int .i64 at_,.int .i64 nd,.str nm,tok x n]] [] fun v h =>
  v = .tup [entA nd nm (.sl false 0 0 (dd N V (min n 20)).length .no),entA nd nm (.sl false 1 0 (dd N V (min n 20)).length .no)] /\ h = twoR (dd N V (min n 20)):=by
 refine (safe140 t n N V 89 0 N V wh at_ nd nm).renRO ?_ ?_
 ·rintro v h ⟨rfl,rfl⟩
  refine ⟨fun m m' e v h => ?_,?_⟩
  ·simp only [Den,DenL] at h ⊢
   obtain ⟨us,rfl,a1,b1,e1,g1,a2,b2,e2,g2,g2'⟩:=h
   refine ⟨us,rfl,a1,b1,e1,?_,a2,b2,e2,?_,g2'⟩
   ·have:=bareEnt _ nd nm 0 _ m m' e a1 (by simpa only [Den,DenL] using g1)
    simpa only [Den,DenL] using this
   ·have:=bareEnt _ nd nm 1 _ m m' e a2 (by simpa only [Den,DenL] using g2)
    simpa only [Den,DenL] using this
  ·intro b r hb i e he o a ha
   have key:e = atL (dd N V (min n 20)) i:=by
    match b,hb with
    | 0,hb =>
     cases hb
     have he:(bif Nat.blt i (dd N V (min n 20)).length then some (atL (dd N V (min n 20)) i) else none) = some e:=he
     cases hi:Nat.blt i (dd N V (min n 20)).length with
     | true => rw [hi] at he; simpa using he.symm
     | false => rw [hi] at he; simp at he
    | 1,hb =>
     cases hb
     have he:(bif Nat.blt i (dd N V (min n 20)).length then some (atL (dd N V (min n 20)) i) else none) = some e:=he
     cases hi:Nat.blt i (dd N V (min n 20)).length with
     | true => rw [hi] at he; simpa using he.symm
     | false => rw [hi] at he; simp at he
    | b + 2,hb => simp [twoR,Rows.live] at hb
   subst key
   match o,ha with
   | 0,ha => cases ha; exact Bare.str _ _
   | 1,ha => cases ha; exact Bare.str _ _
   | o + 2,ha => simp [atL_str,AV.cells] at ha
 ·intro m w hW
  refine ⟨⟨fun _ => ⟨0,0,0,0,true⟩,fun i => match i with | 0 => m.ro (x + 15) | 1 => ⟨0,0,2,0,true⟩ | _ + 2 => ⟨0,0,0,0,true⟩⟩,?_,?_⟩
  ·intro i
   match i with
   | 0 =>
    have h:=hW.ro (x + 15)
    rw [oneR_at] at h
    refine h.same (fun i hi a ha v hd => ?_)
    have ha:a ∈ [AV.str (N i),AV.str (V i)]:=ha
    simp only [List.mem_cons,List.not_mem_nil,or_false] at ha
    rcases ha with rfl | rfl
    ·simpa [Den] using hd
    ·simpa [Den] using hd
   | 1 => exact ⟨rfl,Nat.le_refl _,rfl⟩
   | i + 2 => exact ⟨rfl,Nat.le_refl _,rfl⟩
  ·intro vs0 has
   simp only [DenL,Den,Map.loc,if_true] at has ⊢
   obtain ⟨v,vs,rfl,⟨us,rfl,x1,y1,e1,g1,x2,y2,e2,g2,x3,y3,e3,g3,x4,y4,e4,g4,x5,y5,e5,g5,g5'⟩,rfl⟩:=has
   exact ⟨_,_,rfl,⟨us,rfl,x1,y1,e1,g1,x2,y2,e2,g2,x3,y3,e3,g3,x4,y4,e4,g4,x5,y5,e5,⟨by simp,g5.2⟩,g5'⟩,rfl⟩
theorem roD (D:List At) (t:TypeId):RoOf (.gen t 2 D.length (atL D)) ⟨t,2,D.length,atL D⟩:=RoOf.gen fun i hi a ha => by
 have ha:a ∈ [AV.str (D.getD i ([],[])).1,AV.str (D.getD i ([],[])).2]:=ha
 simp only [List.mem_cons,List.not_mem_nil,or_false] at ha
 rcases ha with rfl | rfl
 ·simp [gtk]
 ·simp [gtk]
theorem pair_ok {R:RR} (hR:∀ F x,FrzC F x (R (x + 15))) {F:Fz} {x n:Nat} {N V:Nat -> Tx} (h:Came F x n N V) (wh at_ nd:Int) (nm:Tx) (r:Rows) :
  SafeCallX Try.prog R 14 [.agg [.int .i64 wh,.int .i64 at_,.int .i64 nd,.str nm,tok x n]] r F (fun v h' F' => h' = r /\ F.le F' /\ ∃ y z,Whole F' y (dd N V (min n 20)) /\ v = .tup [entA nd nm (tok y (dd N V (min n 20)).length),entA nd nm (tok z (dd N V (min n 20)).length)]) noP:=by
 obtain ⟨t,h⟩:=h
 refine (SafeCallX.at0 (HP:=fun _ _ => False) (Q:=fun v F' => F.le F' /\ ∃ y z,Whole F' y (dd N V (min n 20)) /\ v = .tup [entA nd nm (tok y (dd N V (min n 20)).length),entA nd nm (tok z (dd N V (min n 20)).length)]) rfl ?_).mono (fun v h' F' _ hh => ⟨hh.1,hh.2⟩) (fun _ _ _ _ hh => hh.2.elim)
 refine SafeCallX.post ((pair_safe t R x n N V wh at_ nd nm).toXT (HP:=noP) (oneR_names (hR F) h) (oneR_back (hR F)) (Q':=fun v h F' => F' = F /\ v = .tup [entA nd nm (.sl false 0 0 (dd N V (min n 20)).length .no),entA nd nm (.sl false 1 0 (dd N V (min n 20)).length .no)] /\ h = twoR (dd N V (min n 20))) (fun _ _ h => ⟨rfl,h⟩)) ?_ (fun _ _ _ _ h => h.elim)
 generalize dd N V (min n 20) = D
 rintro v h' F' hle ⟨rfl,rfl,rfl⟩
 refine ToV.freeze 0 (r:=.gen 90 2 D.length (atL D)) rfl (roD D 90) fun F2 y hle2 hfr => ?_
 refine ToV.freeze 1 (r:=.gen 88 2 D.length (atL D)) rfl (roD D 88) fun F3 z hle3 hfr3 => ?_
 refine ToV.fitS (vE:=.tup [entA nd nm (tok y D.length),entA nd nm (tok z D.length)]) (hE:=[]) (fun _ => none) (ViewS.of (fun c o ho => by simp at ho) (fun c c' b hc => absurd hc (Nat.not_lt_zero _))) (gnd_vw _ _ _ rfl) (fun c hc => absurd hc (Nat.not_lt_zero _)) (Nat.zero_le _) (ToV.here ⟨rfl,Fz.le_trans hle2 hle3,y,z,(Whole.of hfr).le hle3,rfl⟩)
end Go.Dc.Kb
end
section
namespace Go.Dc.Kb
open Go.Proofs Go.RowKit
set_option maxRecDepth 100000
structure AddIn (F:Fz) (E:Nat -> En) (n m:Nat) (G:Nat -> AV) (a len y:Nat) (D:List At):Prop where
 h:a = y + 15 /\ len = D.length /\ m = n /\ n <= 1000000 /\ Whole F y D /\ D.length <= 1000000 /\ (∀ j,j < n -> G j = enA (E j)) /\ ∀ j,j < n -> enOK F (E j)
structure AddFr (F F':Fz) (z:Nat) (D:List At):Prop where
 le:F.le F'
 whole:Whole F' z D
structure AddOut (E:Nat -> En) (e:En) (n z m':Nat) (E':Nat -> En):Prop where
 m:m' = (addE E e n).1 + 1
 E:E' = addX E e n z
def spec18X (E:Nat -> En):CallSpecX:=fun args h k F => match args with
 | [.ptr false p 0 0,.agg [.int .i64 nd,.str nm,.sl true a 0 len .no]] => match h.live p with
  | some (.lst 49 1 [.agg [.sl false q 0 n _]]) => match h.live q with
   | some (.gen 37 3 m G) => ∃ y D,AddIn F E n m G a len y D /\ ∀ F' z,AddFr F F' z D -> ∀ m' E',AddOut E ⟨nd,nm,y,D⟩ n z m' E' -> k (.tup []) ((h.set p (some (lstR (h.length + 2) m'))).set q none ++ [none,none,some (.gen 37 3 m' fun j => enA (E' j))]) F'
   | _ => False
  | _ => False
 | [.ptr false p 0 0,.agg [.int .i64 nd,.str nm,.nils]] => match h.live p with
  | some (.lst 49 1 [.agg [.sl false q 0 n _]]) => match h.live q with
   | some (.gen 37 3 m G) => AddIn F E n m G 15 0 0 [] /\ ∀ F' z,AddFr F F' z [] -> ∀ m' E',AddOut E ⟨nd,nm,0,[]⟩ n z m' E' -> k (.tup []) ((h.set p (some (lstR (h.length + 2) m'))).set q none ++ [none,none,some (.gen 37 3 m' fun j => enA (E' j))]) F'
   | _ => False
  | _ => False
 | _ => False
theorem SafeCallX.retell {P:Program} {R:RR} {f:FuncId} {args argsL:List AV} {h:Rows} {F:Fz} {Q HP:AV -> Rows -> Fz -> Prop} (hA:∀ m n vs,Named m -> DenL m n args vs -> DenL m n argsL vs) (hs:SafeCallX P R f argsL h F Q HP):SafeCallX P R f args h F Q HP :=
 fun m w m0 h0 w0 F0 vs hd hW hf hS hl => hs m w m0 h0 w0 F0 vs (hA m _ _ hf.ro hd) hW hf hS hl
theorem add_at {R:RR} (hR:∀ F x,FrzC F x (R (x + 15))) {F:Fz} {h:Rows} {p q n m:Nat} {u:Cp} {G:Nat -> AV} {E:Nat -> En} {nd:Int} {nm:Tx} {a len y:Nat} {D:List At} (hp:h.live p = some (.lst 49 1 [.agg [.sl false q 0 n u]])) (hq:h.live q = some (.gen 37 3 m G)) (hi:AddIn F E n m G a len y D) {k:AV -> Rows -> Fz -> Prop}
  (hk:∀ F' z,AddFr F F' z D -> ∀ m' E',AddOut E ⟨nd,nm,y,D⟩ n z m' E' -> k (.tup []) ((h.set p (some (lstR (h.length + 2) m'))).set q none ++ [none,none,some (.gen 37 3 m' fun j => enA (E' j))]) F') :
  SafeCallX Try.prog R 18 [.ptr false p 0 0,.agg [.int .i64 nd,.str nm,.sl true a 0 len .no]] h F k noP:=by
 obtain ⟨rfl,rfl,rfl,hn,hW,hD,hG,hE⟩:=hi.h
 have hpq:p ≠ q:=by rintro rfl; rw [hp] at hq; cases hq
 have hl:=live_lt hp
 have hl2:=live_lt hq
 refine (SafeCallX.atN (Q:=fun v os tl F' => F.le F' /\ ∃ z,Whole F' z D /\ v = .tup [] /\ os = [some (lstR 2 ((addE E ⟨nd,nm,y,D⟩ m).1 + 1)),none] /\ tl = [some (.gen 37 3 ((addE E ⟨nd,nm,y,D⟩ m).1 + 1) fun j => enA (addX E ⟨nd,nm,y,D⟩ m z j))]) (HP:=fun _ _ _ _ => False)
  (hL:=rwI m E) (argsL:=[.ptr false 0 0 0,enA ⟨nd,nm,y,D⟩]) [p,q] rfl (by simp [hpq]) (by simp; exact ⟨hl,hl2⟩) ?_ ?_ ((add_ok hR hn ⟨hW,hD⟩ hE).mono ?_ ?_)).mono ?_ ?_
 ·intro c r hc
  match c,hc with
  | 0,hc => cases hc; exact ⟨p,_,rfl,hp,.lst1 rfl (Vw.aggI (VwL.cons (Vw.slE (by simp) rfl) VwL.nil))⟩
  | 1,hc => cases hc; exact ⟨q,_,rfl,hq,.gen rfl fun j hj => ⟨rfl,by rw [hG j hj]; exact en_vw _⟩⟩
  | c + 2,hc => simp [rwI,Rows.live] at hc
 ·exact VwL.cons (Vw.ptrI (by simp) rfl) (VwL.cons (Vw.gndI rfl) VwL.nil)
 ·rintro v h' F' _ ⟨hle,z,hz,rfl,rfl⟩
  exact ⟨_,_,rfl,rfl,hle,z,hz,rfl,rfl,rfl⟩
 ·exact fun _ _ _ _ h => h.elim
 ·rintro v h' F' _ ⟨v0,os,tl,rfl,rfl,hle,z,hz,rfl,rfl,rfl⟩
  exact hk F' z ⟨hle,hz⟩ _ _ ⟨rfl,rfl⟩
 ·rintro v h' F' _ ⟨v0,os,tl,rfl,rfl,h⟩
  exact h.elim
theorem spec18X_ok {R:RR} (hR:∀ F x,FrzC F x (R (x + 15))) (E:Nat -> En):∀ args h k F,spec18X E args h k F -> SafeCallX Try.prog R 18 args h F k noP:=by
 intro args h k F hk
 unfold spec18X at hk
 split at hk
 ·rename_i p nd nm a len
  split at hk
  ·rename_i q n u hp
   split at hk
   ·rename_i m G hq
    obtain ⟨y,D,hi,hk⟩:=hk
    exact add_at hR hp hq hi hk
   ·exact hk.elim
  ·exact hk.elim
 ·rename_i p nd nm
  split at hk
  ·rename_i q n u hp
   split at hk
   ·rename_i m G hq
    refine SafeCallX.retell (argsL:=[.ptr false p 0 0,.agg [.int .i64 nd,.str nm,tok 0 0]]) ?_ (add_at hR hp hq hk.1 hk.2)
    intro m n vs hm hd
    simp only [DenL,Den] at hd ⊢
    obtain ⟨v,vs,rfl,hv,v',vs',rfl,⟨us,rfl,x1,y1,e1,g1,x2,y2,e2,g2,x3,y3,e3,g3,g3'⟩,rfl⟩:=hd
    refine ⟨_,_,rfl,hv,_,_,rfl,⟨us,rfl,x1,y1,e1,g1,x2,y2,e2,g2,x3,y3,e3,?_,g3'⟩,rfl⟩
    have:=nils_tok hm (n:=n) (v:=x3) (by simpa only [Den] using g3)
    simpa only [Den] using this
   ·exact hk.elim
  ·exact hk.elim
 ·exact hk.elim
end Go.Dc.Kb
end
section
namespace Go.Dc.Kb
open Go.Proofs Go.RowKit
set_option maxRecDepth 100000
theorem alE_symm {a b:En} (ha:a.D.Nodup) (hb:b.D.Nodup):alE b a = alE a b:=alike_symm ha hb
theorem alE_self (a:En):alE a a = true:=alike_self _ _
theorem alE_trans {a b c:En} (h1:alE a b = true) (h2:alE b c = true):alE a c = true:=by
 unfold alE alikeB at *
 simp only [Bool.and_eq_true,beq_iff_eq] at *
 obtain ⟨a1,a2,a3⟩:=h1
 obtain ⟨b1,b2,b3⟩:=h2
 refine ⟨a1.trans b1,a2.trans b2,?_⟩
 rw [allIn_iff] at *
 exact fun p hp => b3 p (a3 p hp)
theorem alE_congr {a b c:En} (ha:a.D.Nodup) (hb:b.D.Nodup) (h:alE a b = true):alE c a = alE c b:=by
 cases h1:alE c a
 ·cases h2:alE c b
  ·rfl
  ·have:=alE_trans h2 ((alE_symm ha hb).trans h)
   rw [this] at h1; cases h1
 ·exact (alE_trans h1 h).symm
def revL (E:Nat -> En):Nat -> List En
 | 0 => []
 | n + 1 => E n :: revL E n
def cntR (g:En):List En -> Nat
 | [] => 0
 | x :: M => bif mkE x then 0 else (bif alE x g then 1 else 0) + cntR g M
def Few:List En -> Prop
 | [] => True
 | x :: M => x.D.Nodup /\ Few M /\ (mkE x = true \/ cntR x (x :: M) <= 3)
theorem Few.cnt {g:En} (hg:g.D.Nodup):∀ {M:List En},Few M -> cntR g M <= 3
 | [],_ => Nat.zero_le _
 | x :: M,⟨hx,hM,h3⟩ => by
  unfold cntR
  cases hm:mkE x
  ·rw [cond_false]
   cases ha:alE x g
   ·rw [cond_false,Nat.zero_add]; exact hM.cnt hg
   ·rcases h3 with h3 | h3
    ·rw [hm] at h3; cases h3
    ·unfold cntR at h3
     rw [hm,cond_false,alE_self,cond_true] at h3
     rw [cond_true]
     have key:∀ M:List En,cntR g M = cntR x M:=by
      intro M
      induction M with
      | nil => rfl
      | cons y M ih =>
       unfold cntR
       rw [ih,alE_congr (c:=y) hx hg ha]
     rw [key]; exact h3
  ·exact Nat.zero_le _
theorem revL_del (E : Nat → En) (l : Nat) : ∀ n, l ≤ n → ∃ A B : List En, revL E (n + 1) = A ++ E l :: B ∧ revL (delN E l) n = A ++ B ∧ B = revL E l ∧ ∀ y ∈ A, ∃ t, l < t ∧ t ≤ n ∧ y = E t := by
  intro n
  induction n with
  | zero => intro h; obtain rfl : l = 0 := by omega
            exact ⟨[], [], rfl, rfl, rfl, fun y hy => by cases hy⟩
  | succ n ih =>
    intro h
    by_cases hl : l = n + 1
    · subst hl
      refine ⟨[], revL E (n + 1), rfl, ?_, rfl, fun y hy => by cases hy⟩
      have key : ∀ k, k ≤ n + 1 → revL (delN E (n + 1)) k = revL E k := by
        intro k
        induction k with
        | zero => intro _; rfl
        | succ k ih2 =>
          intro hk
          show delN E (n + 1) k :: _ = E k :: _
          rw [ih2 (by omega)]
          simp only [delN, if_pos (show k < n + 1 by omega)]
      rw [List.nil_append]
      exact key (n + 1) (Nat.le_refl _)
    · obtain ⟨A, B, h1, h2, h3, h4⟩ := ih (by omega)
      refine ⟨E (n + 1) :: A, B, ?_, ?_, h3, ?_⟩
      · show E (n + 1) :: revL E (n + 1) = _
        rw [h1]; rfl
      · show delN E l n :: revL (delN E l) n = _
        rw [h2]
        simp only [delN, if_neg (show ¬ n < l by omega)]
        rfl
      · intro y hy
        rcases List.mem_cons.1 hy with rfl | hy
        · exact ⟨n + 1, by omega, Nat.le_refl _, rfl⟩
        · obtain ⟨t, t1, t2, t3⟩ := h4 y hy
          exact ⟨t, t1, by omega, t3⟩
theorem cntR_del (g x:En) (hx:mkE x = false):∀ A B:List En,cntR g (A ++ B) <= cntR g (A ++ x :: B)
 | [],B => by
  show cntR g B <= cntR g (x :: B)
  conv => rhs; unfold cntR
  rw [hx,cond_false]
  omega
 | y :: A,B => by
  show cntR g (y :: (A ++ B)) <= cntR g (y :: (A ++ x :: B))
  unfold cntR
  have:=cntR_del g x hx A B
  cases mkE y
  ·simp only [cond_false]; omega
  ·simp only [cond_true]; exact Nat.le_refl _
theorem Few.del {x:En} (hx:mkE x = false):∀ {A B:List En},Few (A ++ x :: B) -> Few (A ++ B)
 | [],B,h => h.2.1
 | y :: A,B,⟨h1,h2,h3⟩ => by
  refine ⟨h1,Few.del hx h2,?_⟩
  rcases h3 with h3 | h3
  ·exact .inl h3
  ·exact .inr (Nat.le_trans (cntR_del y x hx (y :: A) B) h3)
theorem scan_mono (E:Nat -> En) (e:En):∀ n c l,c <= (scan E e n c l).1:=by
 intro n
 induction n with
 | zero => intro c l; exact Nat.le_refl _
 | succ n ih2 =>
  intro c l
  unfold scan
  cases mkE (E n) || mkE e
  ·cases alE (E n) e
   ·exact ih2 c l
   ·exact Nat.le_trans (Nat.le_succ _) (ih2 (c + 1) n)
  ·exact Nat.le_refl _
theorem scan_keep (E:Nat -> En) (e:En):∀ n c l,(scan E e n c l).1 <= c -> (scan E e n c l).2 = l:=by
 intro n
 induction n with
 | zero => intro c l _; rfl
 | succ n ih =>
  intro c l hh
  unfold scan at hh ⊢
  cases hA:mkE (E n) || mkE e
  ·rw [hA,cond_false] at hh
   rw [cond_false]
   cases hB:alE (E n) e
   ·rw [hB,cond_false] at hh; rw [cond_false]; exact ih c l hh
   ·rw [hB,cond_true] at hh
    have:=scan_mono E e n (c + 1) n
    omega
  ·rfl
theorem scan_cnt (E:Nat -> En) (e:En) (he:mkE e = false):∀ n c l,(scan E e n c l).1 = c + cntR e (revL E n) /\
  (c < (scan E e n c l).1 -> mkE (E (scan E e n c l).2) = false /\ alE (E (scan E e n c l).2) e = true /\ (scan E e n c l).2 < n /\ ∀ t,(scan E e n c l).2 < t -> t < n -> mkE (E t) = false)
 | 0,c,l => ⟨rfl,fun h => absurd h (Nat.lt_irrefl _)⟩
 | n + 1,c,l => by
  unfold scan
  rw [he,Bool.or_false]
  show _ = c + cntR e (E n :: revL E n) /\ _
  unfold cntR
  cases hm:mkE (E n)
  ·simp only [cond_false]
   cases ha:alE (E n) e
   ·simp only [cond_false,Nat.zero_add]
    obtain ⟨h1,h2⟩:=scan_cnt E e he n c l
    refine ⟨h1,fun h => ?_⟩
    obtain ⟨g1,g2,g3,g4⟩:=h2 h
    refine ⟨g1,g2,by omega,fun t ht1 ht2 => ?_⟩
    by_cases ht:t = n
    ·rw [ht]; exact hm
    ·exact g4 t ht1 (by omega)
   ·simp only [cond_true]
    obtain ⟨h1,h2⟩:=scan_cnt E e he n (c + 1) n
    refine ⟨by rw [h1]; omega,fun _ => ?_⟩
    by_cases hh:c + 1 < (scan E e n (c + 1) n).1
    ·obtain ⟨g1,g2,g3,g4⟩:=h2 hh
     refine ⟨g1,g2,by omega,fun t ht1 ht2 => ?_⟩
     by_cases ht:t = n
     ·rw [ht]; exact hm
     ·exact g4 t ht1 (by omega)
    ·rw [scan_keep E e n (c + 1) n (by omega)]
     exact ⟨hm,ha,by omega,fun t h1 h2 => by omega⟩
  ·simp only [cond_true]
   exact ⟨by omega,fun h => absurd h (Nat.lt_irrefl _)⟩
theorem cntR_out (g x:En) (hx:mkE x = false) (ha:alE x g = true):∀ A B:List En,(∀ y ∈ A,mkE y = false) -> cntR g (A ++ x :: B) = cntR g (A ++ B) + 1
 | [],B,_ => by
  show cntR g (x :: B) = cntR g B + 1
  conv => lhs; unfold cntR
  rw [hx,ha,cond_false,cond_true]
  omega
 | y :: A,B,h => by
  show cntR g (y :: (A ++ x :: B)) = cntR g (y :: (A ++ B)) + 1
  unfold cntR
  rw [cntR_out g x hx ha A B fun z hz => h z (List.mem_cons_of_mem _ hz),h y List.mem_cons_self]
  simp only [cond_false]
  omega
theorem revL_congr {E E':Nat -> En}:∀ {n:Nat},(∀ j,j < n -> E j = E' j) -> revL E n = revL E' n
 | 0,_ => rfl
 | n + 1,h => by
  show E n :: revL E n = E' n :: revL E' n
  rw [h n (Nat.lt_succ_self _),revL_congr fun j hj => h j (Nat.lt_succ_of_lt hj)]
theorem cntR_nm (e:En) (x:Nat):∀ M,cntR ⟨e.nd,e.nm,x,e.D⟩ M = cntR e M
 | [] => rfl
 | y :: M => by
  unfold cntR
  rw [cntR_nm e x M]
  rfl
theorem few_add {E:Nat -> En} {e:En} {n x:Nat} (he:e.D.Nodup) (h:Few (revL E n)):Few (revL (fun j => bif Nat.blt j (addE E e n).1 then (addE E e n).2 j else ⟨e.nd,e.nm,x,e.D⟩) ((addE E e n).1 + 1)):=by
 have e1:revL (fun j => bif Nat.blt j (addE E e n).1 then (addE E e n).2 j else ⟨e.nd,e.nm,x,e.D⟩) ((addE E e n).1 + 1) = (⟨e.nd,e.nm,x,e.D⟩:En) :: revL (addE E e n).2 (addE E e n).1:=by
  show (bif Nat.blt (addE E e n).1 (addE E e n).1 then _ else _) :: _ = _
  have hb:Nat.blt (addE E e n).1 (addE E e n).1 = false:=by rw [Bool.eq_false_iff]; simp [Nat.blt_eq]
  rw [hb,cond_false]
  congr 1
  refine revL_congr fun j hj => ?_
  have hb:Nat.blt j (addE E e n).1 = true:=by simpa [Nat.blt_eq] using hj
  rw [hb,cond_true]
 rw [e1]
 cases hm:mkE e
 ·obtain ⟨h1,h2⟩:=scan_cnt E e hm n 0 0
  have self:∀ M,cntR (⟨e.nd,e.nm,x,e.D⟩:En) (⟨e.nd,e.nm,x,e.D⟩ :: M) = 1 + cntR e M:=by
   intro M
   show (bif mkE (⟨e.nd,e.nm,x,e.D⟩:En) then 0 else (bif alE (⟨e.nd,e.nm,x,e.D⟩:En) ⟨e.nd,e.nm,x,e.D⟩ then 1 else 0) + cntR (⟨e.nd,e.nm,x,e.D⟩:En) M) = 1 + cntR e M
   rw [show mkE (⟨e.nd,e.nm,x,e.D⟩:En) = false from hm,cond_false,alE_self,cond_true,cntR_nm]
  by_cases h3:3 <= (scan E e n 0 0).1
  ·obtain ⟨g1,g2,g3,g4⟩:=h2 (by omega)
   obtain ⟨k,rfl⟩:∃ k,n = k + 1:=⟨n - 1,by omega⟩
   have ea:addE E e (k + 1) = (k,delN E (scan E e (k + 1) 0 0).2):=by
    unfold addE
    rw [decide_eq_true h3]
    rfl
   rw [ea]
   generalize (scan E e (k + 1) 0 0).2 = l at g1 g2 g3 g4
   obtain ⟨A,B,d1,d2,d3,d4⟩:=revL_del E l k (by omega)
   have hA:∀ y ∈ A,mkE y = false:=by
    intro y hy
    obtain ⟨t,t1,t2,rfl⟩:=d4 y hy
    exact g4 t t1 (by omega)
   have hc:=h.cnt he
   rw [d1] at h hc
   rw [cntR_out e (E l) g1 g2 A B hA] at hc
   show Few (_ :: revL (delN E l) k)
   rw [d2]
   refine ⟨he,h.del g1,.inr ?_⟩
   rw [self]
   omega
  ·have ea:addE E e n = (n,E):=by
    unfold addE
    rw [decide_eq_false h3]
    rfl
   rw [ea]
   refine ⟨he,h,.inr ?_⟩
   rw [self]
   show 1 + cntR e (revL E n) <= 3
   omega
 ·have es:scan E e n 0 0 = (0,0):=by
   cases n with
   | zero => rfl
   | succ n => unfold scan; rw [hm,Bool.or_true]; rfl
  have ea:addE E e n = (n,E):=by unfold addE; rw [es]; rfl
  rw [ea]
  exact ⟨he,h,.inl hm⟩
theorem few_le {E : Nat → En} {m : Nat} : ∀ {n : Nat}, m ≤ n → Few (revL E n) → Few (revL E m)
  | 0, h, hf => by obtain rfl : m = 0 := by omega
                   exact hf
  | n + 1, h, hf => by
    by_cases hm : m = n + 1
    · subst hm; exact hf
    · exact few_le (by omega) hf.2.1
theorem few_nodup {E:Nat -> En} {n j:Nat} (h:Few (revL E n)) (hj:j < n):(E j).D.Nodup:=(few_le (show j + 1 <= n from hj) h).1
def pcnt (E:Nat -> En) (g:En) (i:Nat):Nat -> Nat
 | 0 => 0
 | k + 1 => pcnt E g i k + (bif alE g (E (i + k)) then 1 else 0)
theorem pcnt_cnt {E:Nat -> En} {g:En} {i n:Nat} (hg:g.D.Nodup) (h:Few (revL E n)):∀ k,i + k <= n -> (∀ t,i <= t -> t < i + k -> mkE (E t) = false) -> pcnt E g i k <= cntR g (revL E (i + k))
 | 0,_,_ => Nat.zero_le _
 | k + 1,hk,hm => by
  have ih:=pcnt_cnt hg h k (by omega) (fun t h1 h2 => hm t h1 (by omega))
  show pcnt E g i k + (bif alE g (E (i + k)) then 1 else 0) <= (bif mkE (E (i + k)) then 0 else (bif alE (E (i + k)) g then 1 else 0) + cntR g (revL E (i + k)))
  rw [hm (i + k) (by omega) (by omega),cond_false,alE_symm hg (few_nodup h (show i + k < n by omega))]
  omega
theorem few_part {E:Nat -> En} {g:En} {i n k:Nat} (hg:g.D.Nodup) (h:Few (revL E n)) (hk:i + k <= n) (hm:∀ t,i <= t -> t < i + k -> mkE (E t) = false):pcnt E g i k <= 3 :=
 Nat.le_trans (pcnt_cnt hg h k hk hm) ((few_le hk h).cnt hg)
end Go.Dc.Kb
end
section
namespace Go.Dc.Kb
open Go.Proofs Go.RowKit
set_option maxRecDepth 100000
structure PairIn (F:Fz) (a n x:Nat) (N V:Nat -> Tx):Prop where
 a:a = x + 15
 came:Came F x n N V
structure PairFr (F F':Fz) (n y:Nat) (N V:Nat -> Tx) (D:List At):Prop where
 le:F.le F'
 eq:D = dd N V (min n 20)
 whole:Whole F' y D
def spec14X:CallSpecX:=fun args h k F => match args with
 | [.agg [.int .i64 wh,.int .i64 at_,.int .i64 nd,.str nm,.sl true a 0 n .no]] => ∃ x N V,PairIn F a n x N V /\ ∀ F' y z D,PairFr F F' n y N V D -> k (.tup [.agg [.int .i64 nd,.str nm,.sl true (y + 15) 0 D.length .no],.agg [.int .i64 nd,.str nm,.sl true (z + 15) 0 D.length .no]]) h F'
 | _ => False
theorem spec14X_ok {R:RR} (hR:∀ F x,FrzC F x (R (x + 15))):∀ args h k F,spec14X args h k F -> SafeCallX Try.prog R 14 args h F k noP:=by
 intro args h k F hk
 unfold spec14X at hk
 split at hk
 ·rename_i wh at_ nd nm a n
  obtain ⟨x,N,V,⟨rfl,hc⟩,hk⟩:=hk
  refine (pair_ok hR hc wh at_ nd nm h).mono ?_ (fun _ _ _ _ h => h)
  rintro v h' F' _ ⟨rfl,hle,y,z,hw,rfl⟩
  exact hk F' y z _ ⟨hle,rfl,hw⟩
 ·exact hk.elim
noncomputable def roM (ty len:Nat) (W A D:Nat -> Int) (M:Nat -> Tx) (X L:Nat -> Nat):RR:=rx1 ty 5 len fun j => .agg [.int .i64 (W j),.int .i64 (A j),.int .i64 (D j),.str (M j),.sl true (X j + 15) 0 (L j) .no]
theorem roM_frz (ty len:Nat) (W A D:Nat -> Int) (M:Nat -> Tx) (X L:Nat -> Nat):∀ F x,FrzC F x (roM ty len W A D M X L (x + 15)):=fun F x => RX_frz' F x
noncomputable abbrev envM5 (R:RR) (E:Nat -> En):EnvX:=((bx R).addCall 14 spec14X).addCall 18 (spec18X E)
theorem envM5_ok {R:RR} (hR:∀ F x,FrzC F x (R (x + 15))) (E:Nat -> En):OKX Try.prog (envM5 R E) [] noP:=((bx_ok R [] noP).addCall (f:=14) (fi:=fi14) (by kernel_rfl) (spec14X_ok hR)).addCall (f:=18) (fi:=fi18) (by kernel_rfl) (spec18X_ok hR E)
def tm5 (len:Nat) (i:Int):List AV:=[.sl true 0 0 len .no,.any,.bool false,.ptr false 0 0 0,.int .i64 i,.any,.any,.any,.any,.any,.any,.any,.any,.any,.any,.any,.any,.any,.any,.any,.any,.any,.any,.any,.any,.any,.any,.any,.any,.any,.any,.any,.any,.any,.any,.any,.any,.any,.any,.any,.any,.any,.any,.any,.any,.any,.any,.any,.any,.any,.any,.any,.any,.any,.any,.any,.any,.any,.any,.any,.any,.any,.any,.any,.any,.any,.any,.any,.any,.any,.any,.any,.any,.any,.any,.any,.any,.any,.any]
theorem tm5_spr (len:Nat) (i:Int):tm5 len i = spr [(0,.sl true 0 0 len .no),(2,.bool false),(3,.ptr false 0 0 0),(4,.int .i64 i)] 0 79:=by kernel_rfl
end Go.Dc.Kb
end
section
namespace Go.Dc.Kb
open Go.Proofs Go.RowKit
set_option maxRecDepth 100000
theorem vr5 (ty len n i:Nat) (W A D:Nat -> Int) (M:Nat -> Tx) (X L:Nat -> Nat) (E:Nat -> En) (q:Exit -> Nat -> List AV -> Rows -> Fz -> Prop) (F:Fz):rnx (envM5 (roM ty len W A D M X L) E) 1000 5 (loopOf fi5 0) ⟨tm5 len (i:Nat),rwI n E⟩ (fun e st => q e st.tmps.length [nthV st.tmps 0,nthV st.tmps 2,nthV st.tmps 3,nthV st.tmps 4] st.rows) F = (bif decide ((↑i:Int) < (↑len:Int)) then bif decide ((↑i:Int) < 200) then bif true && decide ((↑i:Int) < (↑len:Int)) then bif decide (0 + (↑i:Int).toNat < ((envM5 (roM ty len W A D M X L) E).R 0).n) then ∃ (x:Nat),∃ (N:Nat -> Tx),∃ (V:Nat -> Tx),PairIn F (X (0 + (↑i:Int).toNat) + 15) (L (0 + (↑i:Int).toNat)) x N V /\ ∀ (F':Fz) (y z:Nat) (D_1:List At),PairFr F F' (L (0 + (↑i:Int).toNat)) y N V D_1 -> bif true && decide ((↑i:Int) < (↑len:Int)) then bif decide (0 + (↑i:Int).toNat < ((envM5 (roM ty len W A D M X L) E).R 0).n) then bif (W (0 + (↑i:Int).toNat)).tmod 9 == 0 then AddIn F' E n n (fun (j:Nat) => enA (E j)) 15 0 0 [] /\ ∀ (F'_1:Fz) (z_1:Nat),AddFr F' F'_1 z_1 [] -> ∀ (m':Nat) (E':Nat -> En),AddOut E (En.mk (-1) [] 0 []) n z_1 m' E' -> q Exit.normal 79 [AV.sl true 0 0 len Cp.no,AV.bool false,AV.ptr false 0 0 0,iI (IntKind.i64.wrap ((↑i:Int) + 1))] [some (Row.lst 49 1 [AV.agg [AV.sl false 6 0 m' Cp.no]]),none,some (Row.lst 37 3 [AV.agg [iI (D (0 + (↑i:Int).toNat)),AV.str (M (0 + (↑i:Int).toNat)),AV.sl true (y + 15) 0 D_1.length Cp.no]]),some (Row.lst 40 3 [AV.agg [iI (D (0 + (↑i:Int).toNat)),AV.str (M (0 + (↑i:Int).toNat)),AV.sl true (z + 15) 0 D_1.length Cp.no]]),none,none,some (Row.gen 37 3 m' fun (j:Nat) => enA (E' j))] F'_1 else bif D (0 + (↑i:Int).toNat) != -1 then ∃ (y_1:Nat),∃ (D_2:List At),AddIn F' E n n (fun (j:Nat) => enA (E j)) (y + 15) D_1.length y_1 D_2 /\ ∀ (F'_1:Fz) (z_1:Nat),AddFr F' F'_1 z_1 D_2 -> ∀ (m':Nat) (E':Nat -> En),AddOut E (En.mk (D (0 + (↑i:Int).toNat)) (M (0 + (↑i:Int).toNat)) y_1 D_2) n z_1 m' E' -> q Exit.normal 79 [AV.sl true 0 0 len Cp.no,AV.bool false,AV.ptr false 0 0 0,iI (IntKind.i64.wrap ((↑i:Int) + 1))] [some (Row.lst 49 1 [AV.agg [AV.sl false 6 0 m' Cp.no]]),none,some (Row.lst 37 3 [AV.agg [iI (D (0 + (↑i:Int).toNat)),AV.str (M (0 + (↑i:Int).toNat)),AV.sl true (y + 15) 0 D_1.length Cp.no]]),some (Row.lst 40 3 [AV.agg [iI (D (0 + (↑i:Int).toNat)),AV.str (M (0 + (↑i:Int).toNat)),AV.sl true (z + 15) 0 D_1.length Cp.no]]),none,none,some (Row.gen 37 3 m' fun (j:Nat) => enA (E' j))] F'_1 else q Exit.normal 79 [AV.sl true 0 0 len Cp.no,AV.bool false,AV.ptr false 0 0 0,iI (IntKind.i64.wrap ((↑i:Int) + 1))] [some (Row.lst 49 1 [AV.agg [AV.sl false 1 0 n Cp.no]]),some (Row.gen 37 3 n fun (j:Nat) => enA (E j)),some (Row.lst 37 3 [AV.agg [iI (D (0 + (↑i:Int).toNat)),AV.str (M (0 + (↑i:Int).toNat)),AV.sl true (y + 15) 0 D_1.length Cp.no]]),some (Row.lst 40 3 [AV.agg [iI (D (0 + (↑i:Int).toNat)),AV.str (M (0 + (↑i:Int).toNat)),AV.sl true (z + 15) 0 D_1.length Cp.no]])] F' else False else False else False else False else q (Exit.exit 0) 79 [AV.sl true 0 0 len Cp.no,AV.bool false,AV.ptr false 0 0 0,iI (↑i:Int)] [some (Row.lst 49 1 [AV.agg [AV.sl false 1 0 n Cp.no]]),some (Row.gen 37 3 n fun (j:Nat) => enA (E j))] F else q (Exit.exit 0) 79 [AV.sl true 0 0 len Cp.no,AV.bool false,AV.ptr false 0 0 0,iI (↑i:Int)] [some (Row.lst 49 1 [AV.agg [AV.sl false 1 0 n Cp.no]]),some (Row.gen 37 3 n fun (j:Nat) => enA (E j))] F):=by kernel_rfl
def tm5x :List AV:=[.any,.any,.bool false,.ptr false 0 0 0,.any,.any,.any,.any,.any,.any,.any,.any,.any,.any,.any,.any,.any,.any,.any,.any,.any,.any,.any,.any,.any,.any,.any,.any,.any,.any,.any,.any,.any,.any,.any,.any,.any,.any,.any,.any,.any,.any,.any,.any,.any,.any,.any,.any,.any,.any,.any,.any,.any,.any,.any,.any,.any,.any,.any,.any,.any,.any,.any,.any,.any,.any,.any,.any,.any,.any,.any,.any,.any,.any,.any,.any,.any,.any,.any]
theorem tm5x_spr :tm5x  = spr [(2,.bool false),(3,.ptr false 0 0 0)] 0 79:=by kernel_rfl
theorem blk50:blockOf fi5 0 = some (.loop (loopOf fi5 0)):=by kernel_rfl
noncomputable def Val5 (T:List AV):List AV:=[nthV T 0,nthV T 2,nthV T 3,nthV T 4]
structure MOut (F F':Fz) (n:Nat) (E:Nat -> En):Prop where
 le:F.le F'
 lt:n <= 200
 ok:∀ j,j < n -> enOK F' (E j)
 few:Few (revL E n)
def spec5L (len:Nat):LoopSpX:=fun st k F =>
 (nthV st.tmps 0 = .sl true 0 0 len .no /\ nthV st.tmps 2 = .bool false /\ nthV st.tmps 3 = .ptr false 0 0 0 /\ nthV st.tmps 4 = .int .i64 0 /\ st.tmps.length = 79 /\ RowsAre st.rows [some (.lst 49 1 [.agg [.nils]])]) /\
 ∀ F' n E,MOut F F' n E -> k .normal ⟨tm5x,rwI n E⟩ F'
def kM (p:Nat):Nat -> Option Nat:=fun c => match c with | 0 => some 0 | 1 => some p | _ + 2 => none
theorem kM_inj {p c c' b:Nat} (hp:p ≠ 0) (h:kM p c = some b) (h':kM p c' = some b):c = c':=by
 match c,c' with
 | 0,0 | 1,1 => rfl
 | 0,1 | 1,0 => simp [kM] at h h'; omega
 | _ + 2,_ => simp [kM] at h
 | 0,_ + 2 | 1,_ + 2 => simp [kM] at h'
theorem rwI_view {rows:Rows} {p n:Nat} {E:Nat -> En} {u:Cp} (hp:p ≠ 0) (h0:rows.live 0 = some (.lst 49 1 [.agg [.sl false p 0 n u]])) (h1:rows.live p = some (.gen 37 3 n fun j => enA (E j))):ViewS (kM p) (rwI n E) rows:=by
 refine ViewS.of ?_ (fun c c' b _ _ e e' => kM_inj hp e e')
 intro c o ho
 match c,ho with
 | 0,ho => cases ho; exact ViewT.at_ (b:=0) rfl h0 (RowV.lst1 (f:=kM p) rfl (Vw.aggI (VwL.cons (Vw.slE (b':=p) (by simp [rwI]) rfl) VwL.nil))).s
 | 1,ho => cases ho; exact ViewT.at_ (b:=p) rfl h1 (RowS.gen (Nat.le_refl _) fun j hj => ⟨rfl,en_vw _⟩)
 | c + 2,ho => simp [rwI] at ho
theorem fitM {R:RR} {len n p:Nat} {i:Int} {E:Nat -> En} {rows:Rows} {u:Cp} {T:List AV} {F:Fz} {P:St -> Fz -> Prop} (hl:T.length = 79) (hv:Val5 T = [AV.sl true 0 0 len Cp.no,AV.bool false,AV.ptr false 0 0 0,iI i])
  (hp:p ≠ 0) (h0:rows.live 0 = some (.lst 49 1 [.agg [.sl false p 0 n u]])) (h1:rows.live p = some (.gen 37 3 n fun j => enA (E j))) (hP:P ⟨tm5 len i,rwI n E⟩ F):ToX R [] 1 ⟨T,rows⟩ F P:=by
 unfold Val5 at hv
 simp only [List.cons.injEq,and_true] at hv
 obtain ⟨v0,v2,v3,v4⟩:=hv
 refine ToX.fitS (stE:=⟨tm5 len i,rwI n E⟩) (kM p) (rwI_view hp h0 h1) ?_ (fun c hc => by match c,hc with | 0,_ => rfl) (by simp [rwI]) (ToX.here hP)
 rw [tm5_spr]
 exact VwL.ofKnown hl ⟨by rw [v0]; exact Vw.gndI rfl,by rw [v2]; exact Vw.boolI,by rw [v3]; exact Vw.ptrI (by simp [rwI]) rfl,by rw [v4]; exact Vw.intI,trivial⟩
theorem fitMx {R:RR} {len n:Nat} {i:Int} {E:Nat -> En} {T:List AV} {F:Fz} {P:St -> Fz -> Prop} (hl:T.length = 79) (hv:Val5 T = [AV.sl true 0 0 len Cp.no,AV.bool false,AV.ptr false 0 0 0,iI i])
  (hP:P ⟨tm5x,rwI n E⟩ F):ToX R [] 1 ⟨T,rwI n E⟩ F P:=by
 unfold Val5 at hv
 simp only [List.cons.injEq,and_true] at hv
 obtain ⟨v0,v2,v3,v4⟩:=hv
 refine ToX.fitS (stE:=⟨tm5x,rwI n E⟩) (kM 1) (rwI_view (p:=1) (by decide) rfl rfl) ?_ (fun c hc => by match c,hc with | 0,_ => rfl) (by simp [rwI]) (ToX.here hP)
 rw [tm5x_spr]
 exact VwL.ofKnown hl ⟨by rw [v2]; exact Vw.boolI,by rw [v3]; exact Vw.ptrI (by simp [rwI]) rfl,trivial⟩
theorem dd_ok (N V:Nat -> Tx) (n:Nat):(dd N V (min n 20)).Nodup /\ (dd N V (min n 20)).length <= 1000000:=⟨nodup_of_names (dd_names N V _),Nat.le_trans (dd_len N V _) (by omega)⟩
theorem spec5L_ok (ty len:Nat) (W A D:Nat -> Int) (M:Nat -> Tx) (X L:Nat -> Nat) (N V:Nat -> Nat -> Tx) (F0:Fz) (hF:∀ j,j < len -> Came F0 (X j) (L j) (N j) (V j)) (st:St) (K:Exit -> St -> Fz -> Prop) (F:Fz) (hle:F0.le F) (h:spec5L len st K F):SafeX Try.prog (bx (roM ty len W A D M X L)).R [] (.block 0 (.loop (loopOf fi5 0))) st F K noP:=by
 obtain ⟨⟨h0,h2,h3,h4,hl,hr⟩,hk⟩:=h
 obtain ⟨T,rows⟩:=st
 simp only at h0 h2 h3 h4 hl
 have hr:rows = [some (.lst 49 1 [.agg [.nils]])]:=hr.h
 subst hr
 refine SafeX.loop_block (Inv:=fun m st' F' => ∃ i n E,(i <= len /\ i <= 200 /\ n <= i /\ m = len - i) /\ MOut F F' n E /\ st' = ⟨tm5 len (i:Nat),rwI n E⟩) ?_ ?_
 ·refine ToX.fitS (stE:=⟨tm5 len (0:Nat),rwI 0 (fun _ => ⟨0,[],0,[]⟩)⟩) (fun c => match c with | 0 => some 0 | _ + 1 => none) (ViewS.of ?_ ?_) ?_ (fun c hc => by match c,hc with | 0,_ => rfl) (by simp [rwI]) (ToX.here ⟨len,0,0,_,⟨Nat.zero_le _,Nat.zero_le _,Nat.le_refl _,rfl⟩,⟨F.le_refl,Nat.zero_le _,fun j hj => absurd hj (Nat.not_lt_zero _),trivial⟩,rfl⟩)
  ·intro c o ho
   match c,ho with
   | 0,ho => cases ho; exact ViewT.at_ (b:=0) rfl rfl (RowV.lst1 rfl (Vw.aggI (VwL.cons (Vw.slN (by simp [rwI]) rfl) VwL.nil))).s
   | 1,ho => cases ho; exact ViewT.void rfl rfl
   | c + 2,ho => simp [rwI] at ho
  ·intro c c' b _ _ e e'
   match c,c' with
   | 0,0 => rfl
   | _ + 1,_ => cases e
   | 0,_ + 1 => cases e'
  ·rw [tm5_spr]
   exact VwL.ofKnown hl ⟨by rw [h0]; exact Vw.gndI rfl,by rw [h2]; exact Vw.boolI,by rw [h3]; exact Vw.ptrI (by simp [rwI]) rfl,by rw [h4]; exact Vw.intI,trivial⟩
 ·rintro m st' F' ⟨i,n,E,⟨hi,hi2,hni,rfl⟩,hO,rfl⟩
  have key:=Eq.mpr (vr5 ty len n i W A D M X L E (fun e l vals rows F2 => ∀ T',T'.length = l -> Val5 T' = vals -> match e with
   | .normal => ToX (roM ty len W A D M X L) [] 1 ⟨T',rows⟩ F2 fun st3 F3 => ∃ n',n' < len - i /\ ∃ i n E,(i <= len /\ i <= 200 /\ n <= i /\ n' = len - i) /\ MOut F F3 n E /\ st3 = ⟨tm5 len (i:Nat),rwI n E⟩
   | e => ToX (roM ty len W A D M X L) [] 1 ⟨T',rows⟩ F2 fun st3 F3 => K (blockExit 0 e) st3 F3) F') ?_
  ·exact (SafeX.round mixed (envM5_ok (roM_frz ty len W A D M X L) E) (f:=5) (fi:=fi5) (by kernel_rfl) blk50 (subs_loop _) 1000 key).mono (fun e st2 F2 h => by have:=h st2.tmps rfl rfl; cases e <;> exact this) (fun _ _ _ h => h)
  ·have out:∀ (T':List AV),T'.length = 79 -> Val5 T' = [AV.sl true 0 0 len Cp.no,AV.bool false,AV.ptr false 0 0 0,iI (i:Nat)] -> ToX (roM ty len W A D M X L) [] 1 ⟨T',rwI n E⟩ F' fun st3 F3 => K (blockExit 0 (.exit 0)) st3 F3 :=
    fun T' hl' hv' => fitMx hl' hv' (hk _ _ _ hO)
   refine hcB2 (fun hd => out) (fun hd => hcB2 (fun hd2 => out) (fun hd2 => hcT (by rw [Bool.true_and]; exact hd) ?_))
   have hlt:i < len:=by simpa using hd
   have hlt2:i < 200:=by have:=of_decide_eq_true hd2; omega
   have e1:(0 + (i:Int).toNat) = i:=by simp
   have ew:=wrapSucc i (by omega)
   rw [e1,ew]
   refine hcT (show decide (i < len) = true from decide_eq_true hlt) ⟨X i,N i,V i,⟨rfl,((hF i hlt).le hle).le hO.le⟩,fun F1 y z D1 hp => hcT (by rw [Bool.true_and]; exact hd) (hcT (show decide (i < len) = true from decide_eq_true hlt) ?_)⟩
   obtain ⟨p1,rfl,p3⟩:=hp
   obtain ⟨q1,q2⟩:=dd_ok (N i) (V i) (L i)
   have ok1:∀ j,j < n -> enOK F1 (E j):=fun j hj => (hO.ok j hj).le p1
   refine hcB (fun hs => ?_) (fun hs => hcB (fun hs2 => ?_) (fun hs2 => ?_))
   ·refine ⟨⟨rfl,rfl,rfl,by have:=hO.lt; omega,⟨.inr ⟨rfl,rfl⟩⟩,Nat.zero_le _,fun _ _ => rfl,ok1⟩,fun F2 z1 hf m' E' ha T' hl' hv' => ?_⟩
    obtain ⟨rfl,rfl⟩:=ha
    refine fitM hl' hv' (p:=6) (by decide) rfl rfl ⟨len - (i + 1),by omega,i + 1,_,_,⟨by omega,by omega,by have:=addE_le E ⟨-1,[],0,[]⟩ n; omega,rfl⟩,⟨Fz.le_trans hO.le (Fz.le_trans p1 hf.le),by have:=addE_le E ⟨-1,[],0,[]⟩ n; omega,addX_ok ok1 ⟨⟨.inr ⟨rfl,rfl⟩⟩,Nat.zero_le _⟩ hf.le hf.whole,few_add List.nodup_nil hO.few⟩,rfl⟩
   ·refine ⟨y,_,⟨rfl,rfl,rfl,by have:=hO.lt; omega,p3,q2,fun _ _ => rfl,ok1⟩,fun F2 z1 hf m' E' ha T' hl' hv' => ?_⟩
    obtain ⟨rfl,rfl⟩:=ha
    refine fitM hl' hv' (p:=6) (by decide) rfl rfl ⟨len - (i + 1),by omega,i + 1,_,_,⟨by omega,by omega,Nat.succ_le_succ (Nat.le_trans (addE_le _ _ _) hni),rfl⟩,⟨Fz.le_trans hO.le (Fz.le_trans p1 hf.le),Nat.le_trans (Nat.succ_le_succ (Nat.le_trans (addE_le _ _ _) hni)) (by omega),addX_ok ok1 ⟨p3,q2⟩ hf.le hf.whole,few_add q1 hO.few⟩,rfl⟩
   ·intro T' hl' hv'
    exact fitM hl' hv' (p:=1) (by decide) rfl rfl ⟨len - (i + 1),by omega,i + 1,n,E,⟨by omega,by omega,by omega,rfl⟩,⟨Fz.le_trans hO.le p1,hO.lt,ok1,hO.few⟩,rfl⟩
end Go.Dc.Kb
end
section
namespace Go.Dc.Kb
open Go.Proofs Go.RowKit
set_option maxRecDepth 100000
theorem vc51 (R:RR) (F:Fz) (e:En) (Q:AV -> Rows -> Prop):vcd (envT R F) 1000 51 fi51 [enA e] [] Q = (∃ (x:Nat),∃ (D:List At),(e.x + 15 = x + 15 /\ e.D.length = D.length /\ Whole F x D /\ D.length.le 1000000) /\ Q (AV.agg [iI e.nd,AV.str e.nm,AV.sl false 2 0 D.length Cp.no]) [some (Row.lst 37 3 [AV.agg [iI e.nd,AV.str e.nm,AV.sl false 2 0 D.length Cp.no]]),some (Row.lst 37 3 [AV.agg [iI e.nd,AV.str e.nm,AV.sl false 2 0 D.length Cp.no]]),some (Row.gen 90 2 D.length fun (j:Nat) => AV.agg [AV.str (D.getD j ([],[])).fst,AV.str (D.getD j ([],[])).snd])]):=by kernel_rfl
theorem copy_ok {R:RR} (hR:∀ F x,FrzC F x (R (x + 15))) {F:Fz} {e:En} (he:enOK F e) (r:Rows) :
  SafeCallX Try.prog R 51 [enA e] r F (fun v h' F' => h' = r /\ F.le F' /\ ∃ z,Whole F' z e.D /\ v = enA ⟨e.nd,e.nm,z,e.D⟩) noP:=by
 refine (SafeCallX.at0 (HP:=fun _ _ => False) (Q:=fun v F' => F.le F' /\ ∃ z,Whole F' z e.D /\ v = enA ⟨e.nd,e.nm,z,e.D⟩) rfl ?_).mono (fun v h' F' _ hh => ⟨hh.1,hh.2⟩) (fun _ _ _ _ hh => hh.2.elim)
 have h1:SafeCall Try.prog (RT R F) 51 [enA e] [] fun v h => v = enL e 0 /\ h = [some (.gen 90 2 e.D.length (atL e.D))]:=by
  refine SafeCall.refitS (byVcd (envT_ok R F) (f:=51) (fi:=fi51) (by kernel_rfl) 1000 (vc51 R F e fun v h' => v = enL e 2 /\ h' = [some (.lst 37 3 [enL e 2]),some (.lst 37 3 [enL e 2]),some (.gen 90 2 e.D.length (atL e.D))]) ⟨e.x,e.D,⟨rfl,rfl,he.1,he.2⟩,rfl,rfl⟩) ?_
  rintro v h' ⟨rfl,rfl⟩
  refine ⟨fun c => match c with | 0 => some 2 | _ + 1 => none,enL e 0,[some (.gen 90 2 e.D.length (atL e.D))],ViewS.of ?_ ?_,Vw.aggI (VwL.cons Vw.intI (VwL.cons Vw.strI (VwL.cons (Vw.slI (by simp) rfl) VwL.nil))),fun c hc => absurd hc (Nat.not_lt_zero _),Nat.zero_le _,rfl,rfl⟩
  ·intro c o ho
   match c,ho with
   | 0,ho => cases ho; exact ViewT.at_ (b:=2) rfl rfl (row90 rfl fun _ _ => rfl)
   | c + 1,ho => simp at ho
  ·intro c c' b h1 h2 _ _
   simp at h1 h2
   omega
 refine SafeCallX.post (h1.toXT (HP:=noP) (RT_names R F) (RT_back R F (hR F)) (Q':=fun v h F' => F' = F /\ v = enL e 0 /\ h = [some (.gen 90 2 e.D.length (atL e.D))]) (fun _ _ h => ⟨rfl,h⟩)) ?_ (fun _ _ _ _ h => h.elim)
 rintro v h' F' hle ⟨rfl,rfl,rfl⟩
 refine ToV.freeze 0 (r:=.gen 90 2 e.D.length (atL e.D)) rfl (roD e.D 90) fun F2 y hle2 hfr => ?_
 exact ToV.fitS (vE:=enA ⟨e.nd,e.nm,y,e.D⟩) (hE:=[]) (fun _ => none) (ViewS.of (fun c o ho => by simp at ho) (fun c c' b hc => absurd hc (Nat.not_lt_zero _))) (gnd_vw _ _ _ rfl) (fun c hc => absurd hc (Nat.not_lt_zero _)) (Nat.zero_le _) (ToV.here ⟨rfl,hle2,y,Whole.of hfr,rfl⟩)
structure CopyIn (F:Fz) (a len y:Nat) (D:List At):Prop where
 h:a = y + 15 /\ len = D.length /\ Whole F y D /\ D.length <= 1000000
def spec51X:CallSpecX:=fun args h k F => match args with
 | [.agg [.int .i64 nd,.str nm,.sl true a 0 len .no]] => ∃ y D,CopyIn F a len y D /\ ∀ F' z,AddFr F F' z D -> k (.agg [.int .i64 nd,.str nm,.sl true (z + 15) 0 D.length .no]) h F'
 | _ => False
theorem spec51X_ok {R:RR} (hR:∀ F x,FrzC F x (R (x + 15))):∀ args h k F,spec51X args h k F -> SafeCallX Try.prog R 51 args h F k noP:=by
 intro args h k F hk
 unfold spec51X at hk
 split at hk
 ·rename_i nd nm a len
  obtain ⟨y,D,⟨rfl,rfl,hw,hd⟩,hk⟩:=hk
  refine (copy_ok hR (e:=⟨nd,nm,y,D⟩) ⟨hw,hd⟩ h).mono ?_ (fun _ _ _ _ h => h)
  rintro v h' F' _ ⟨rfl,hle,z,hz,rfl⟩
  exact hk F' z ⟨hle,hz⟩
 ·exact hk.elim
noncomputable abbrev envC (R:RR):EnvX:=(bx R).addCall 51 spec51X
theorem envC_ok {R:RR} (hR:∀ F x,FrzC F x (R (x + 15))):OKX Try.prog (envC R) [] noP:=(bx_ok R [] noP).addCall (f:=51) (fi:=fi51) (by kernel_rfl) (spec51X_ok hR)
def rw19 (n:Nat) (E:Nat -> En) (i:Nat) (E2:Nat -> En):Rows:=[some (lstR 1 n),some (.gen 37 3 n fun j => enA (E j)),some (.gen 37 3 i fun j => enA (E2 j))]
def tm19 (n:Nat) (i:Nat):List AV:=[.any,.any,.any,.sl false 2 0 i .no,.any,.any,.any,.any,.any,.any,.any,.sl false 1 0 n .no,.int .i64 (n:Nat),.int .i64 (i:Nat),.any,.any,.any,.any,.any,.any,.any,.any,.any,.any]
theorem tm19_spr (n:Nat) (i:Nat):tm19 n i = spr [(3,.sl false 2 0 i .no),(11,.sl false 1 0 n .no),(12,.int .i64 (n:Nat)),(13,.int .i64 (i:Nat))] 0 24:=by kernel_rfl
def tm19x (n:Nat):List AV:=[.any,.any,.any,.sl false 2 0 n .no,.any,.any,.any,.any,.any,.any,.any,.any,.any,.any,.any,.any,.any,.any,.any,.any,.any,.any,.any,.any]
theorem tm19x_spr (n:Nat):tm19x n = spr [(3,.sl false 2 0 n .no)] 0 24:=by kernel_rfl
end Go.Dc.Kb
end
section
namespace Go.Dc.Kb
open Go.Proofs Go.RowKit
set_option maxRecDepth 100000
theorem vr19 (R:RR) (n i:Nat) (E E2:Nat -> En) (q:Exit -> Nat -> List AV -> Rows -> Fz -> Prop) (F:Fz):rnx (envC R) 1000 19 (loopOf fi19 0) ⟨tm19 n i,rw19 n E i E2⟩ (fun e st => q e st.tmps.length [nthV st.tmps 3,nthV st.tmps 11,nthV st.tmps 12,nthV st.tmps 13] st.rows) F = (bif decide ((↑i:Int) < (↑n:Int)) then bif true && decide ((↑i:Int) < (↑n:Int)) then bif decide (0 + (↑i:Int).toNat < n) then ∃ (y:Nat),∃ (D:List At),CopyIn F ((E (0 + (↑i:Int).toNat)).x + 15) (E (0 + (↑i:Int).toNat)).D.length y D /\ ∀ (F':Fz) (z:Nat),AddFr F F' z D -> bif decide (0 + i <= i) && (true && (true && decide (((Src.gen i fun (j:Nat) => enA (E2 (0 + j))).len + 1) * 48 <= 140737488355328))) then q Exit.normal 24 [AV.sl false 5 0 ((Src.gen i fun (j:Nat) => enA (E2 (0 + j))).len + 1) Cp.no,AV.sl false 1 0 n Cp.no,iI (↑n:Int),iI (IntKind.i64.wrap ((↑i:Int) + 1))] [some (Row.lst 49 1 [AV.agg [AV.sl false 1 0 n Cp.no]]),some (Row.gen 37 3 n fun (j:Nat) => enA (E j)),none,some (Row.lst 37 3 [AV.agg [iI (E (0 + (↑i:Int).toNat)).nd,AV.str (E (0 + (↑i:Int).toNat)).nm,AV.sl true ((E (0 + (↑i:Int).toNat)).x + 15) 0 (E (0 + (↑i:Int).toNat)).D.length Cp.no]]),some (Row.lst 37 3 [AV.agg [iI (E (0 + (↑i:Int).toNat)).nd,AV.str (E (0 + (↑i:Int).toNat)).nm,AV.sl true (z + 15) 0 D.length Cp.no]]),some (Row.gen 37 3 ((Src.gen i fun (j:Nat) => enA (E2 (0 + j))).len + 1) fun (j:Nat) => bif j.blt (Src.gen i fun (j:Nat) => enA (E2 (0 + j))).len then AV.agg [iI (E2 (0 + j)).nd,AV.str (E2 (0 + j)).nm,AV.sl true ((E2 (0 + j)).x + 15) 0 (E2 (0 + j)).D.length Cp.no] else (Src.lst [AV.agg [iI (E (0 + (↑i:Int).toNat)).nd,AV.str (E (0 + (↑i:Int).toNat)).nm,AV.sl true (z + 15) 0 D.length Cp.no]]).at_ (j - (Src.gen i fun (j:Nat) => enA (E2 (0 + j))).len))] F' else False else False else False else q (Exit.exit 0) 24 [AV.sl false 2 0 i Cp.no,AV.sl false 1 0 n Cp.no,iI (↑n:Int),iI (↑i:Int)] [some (Row.lst 49 1 [AV.agg [AV.sl false 1 0 n Cp.no]]),some (Row.gen 37 3 n fun (j:Nat) => enA (E j)),some (Row.gen 37 3 i fun (j:Nat) => enA (E2 j))] F):=by kernel_rfl
theorem blk190:blockOf fi19 0 = some (.loop (loopOf fi19 0)):=by kernel_rfl
noncomputable def Val19 (T:List AV):List AV:=[nthV T 3,nthV T 11,nthV T 12,nthV T 13]
structure Told (F F':Fz) (n:Nat) (E E2:Nat -> En):Prop where
 le:F.le F'
 ok:∀ j,j < n -> enOK F' (E2 j)
 same:∀ j,j < n -> (E2 j).nd = (E j).nd /\ (E2 j).nm = (E j).nm /\ (E2 j).D = (E j).D
theorem few_told {F F':Fz} {n:Nat} {E E2:Nat -> En} (h:Told F F' n E E2):∀ m,m <= n -> Few (revL E m) -> Few (revL E2 m):=by
 have key:∀ (g:En) m,m <= n -> cntR g (revL E2 m) = cntR g (revL E m):=by
  intro g m
  induction m with
  | zero => intro _; rfl
  | succ m ih =>
   intro hm
   obtain ⟨a1,a2,a3⟩:=h.same m hm
   show (bif mkE (E2 m) then 0 else (bif alE (E2 m) g then 1 else 0) + cntR g (revL E2 m)) = (bif mkE (E m) then 0 else (bif alE (E m) g then 1 else 0) + cntR g (revL E m))
   rw [ih (by omega)]
   unfold mkE alE
   rw [a1,a2,a3]
 have key2:∀ (g g':En) M,g'.nm = g.nm -> g'.D = g.D -> cntR g' M = cntR g M:=by
  intro g g' M h1 h2
  induction M with
  | nil => rfl
  | cons y M ih =>
   unfold cntR
   rw [ih]
   unfold alE
   rw [h1,h2]
 intro m
 induction m with
 | zero => intro _ _; trivial
 | succ m ih =>
  rintro hm ⟨h1,h2,h3⟩
  obtain ⟨a1,a2,a3⟩:=h.same m hm
  refine ⟨by rw [a3]; exact h1,ih (by omega) h2,?_⟩
  rcases h3 with h3 | h3
  ·left; unfold mkE at h3 ⊢; rw [a1]; exact h3
  ·right
   have e1:=key (E2 m) (m + 1) hm
   have e2:=key2 (E m) (E2 m) (revL E (m + 1)) a2 a3
   show cntR (E2 m) (revL E2 (m + 1)) <= 3
   rw [e1,e2]
   exact h3
def spec19L (n:Nat) (E:Nat -> En):LoopSpX:=fun st k F =>
 (nthV st.tmps 3 = .nils /\ nthV st.tmps 11 = .sl false 1 0 n .no /\ nthV st.tmps 12 = .int .i64 (n:Nat) /\ nthV st.tmps 13 = .int .i64 0 /\ st.tmps.length = 24 /\ RowsAre st.rows (rwI n E)) /\
 ∀ F' E2,Told F F' n E E2 -> k .normal ⟨tm19x n,rw19 n E n E2⟩ F'
def k19 (p:Nat):Nat -> Option Nat:=fun c => match c with | 0 => some 0 | 1 => some 1 | 2 => some p | _ + 3 => none
theorem k19_inj {p c c' b:Nat} (hp:2 <= p) (h:k19 p c = some b) (h':k19 p c' = some b):c = c':=by
 match c,c' with
 | 0,0 | 1,1 | 2,2 => rfl
 | 0,1 | 1,0 | 0,2 | 2,0 | 1,2 | 2,1 => simp [k19] at h h'; omega
 | _ + 3,_ => simp [k19] at h
 | 0,_ + 3 | 1,_ + 3 | 2,_ + 3 => simp [k19] at h'
theorem rw19_view {rows:Rows} {p n i m:Nat} {E E2:Nat -> En} {G:Nat -> AV} (hp:2 <= p) (hm:m = i) (h0:rows.live 0 = some (lstR 1 n)) (h1:rows.live 1 = some (.gen 37 3 n fun j => enA (E j))) (h2:rows.live p = some (.gen 37 3 m G)) (hG:∀ j,j < i -> G j = enA (E2 j)):ViewS (k19 p) (rw19 n E i E2) rows:=by
 subst hm
 refine ViewS.of ?_ (fun c c' b _ _ e e' => k19_inj hp e e')
 intro c o ho
 match c,ho with
 | 0,ho => cases ho; exact ViewT.at_ (b:=0) rfl h0 (RowV.lst1 (f:=k19 p) rfl (Vw.aggI (VwL.cons (Vw.slE (b':=1) (by simp [rw19]) rfl) VwL.nil))).s
 | 1,ho => cases ho; exact ViewT.at_ (b:=1) rfl h1 (RowS.gen (Nat.le_refl _) fun j hj => ⟨rfl,en_vw _⟩)
 | 2,ho => cases ho; exact ViewT.at_ (b:=p) rfl h2 (RowS.gen (Nat.le_refl _) fun j hj => ⟨rfl,by rw [hG j hj]; exact en_vw _⟩)
 | c + 3,ho => simp [rw19] at ho
def kI:Nat -> Option Nat:=fun c => match c with | 0 => some 0 | 1 => some 1 | _ + 2 => none
theorem spec19L_ok {R : Nat → RoRow} (hR : ∀ F x, FrzC F x (R (x + 15))) (n : Nat) (E : Nat → En) (hn : n ≤ 1000) (F0 : Fz) (hE : ∀ j, j < n → enOK F0 (E j)) (st : St) (K : Exit → St → Fz → Prop) (F : Fz) (hle : F0.le F) (h : spec19L n E st K F) : SafeX Try.prog (bx R).R [] (.block 0 (.loop (loopOf fi19 0))) st F K noP := by
  obtain ⟨⟨h3, h11, h12, h13, hl, hr⟩, hk⟩ := h
  obtain ⟨T, rows⟩ := st
  simp only at h3 h11 h12 h13 hl
  have hr : rows = rwI n E := hr.h
  subst hr
  refine SafeX.loop_block (Inv := fun m st' F' => ∃ i E2, (i ≤ n ∧ m = n - i) ∧ Told F F' i E E2 ∧ st' = ⟨tm19 n i, rw19 n E i E2⟩) ?_ ?_
  · refine ToX.fitS (stE := ⟨tm19 n 0, rw19 n E 0 (fun _ => ⟨0, [], 0, []⟩)⟩) kI (ViewS.of ?_ ?_) ?_ (fun c hc => by match c, hc with | 0, _ => rfl | 1, _ => rfl) (by simp [rwI, rw19]) (ToX.here ⟨n, 0, _, ⟨Nat.zero_le _, rfl⟩, ⟨F.le_refl, fun j hj => absurd hj (Nat.not_lt_zero _), fun j hj => absurd hj (Nat.not_lt_zero _)⟩, rfl⟩)
    · intro c o ho
      match c, ho with
      | 0, ho => cases ho; exact ViewT.at_ (b := 0) rfl rfl (RowV.lst1 (f := kI) rfl (Vw.aggI (VwL.cons (Vw.slI (b' := 1) (by simp [rw19]) rfl) VwL.nil))).s
      | 1, ho => cases ho; exact ViewT.at_ (b := 1) rfl rfl (RowS.gen (Nat.le_refl _) fun j hj => ⟨rfl, en_vw _⟩)
      | 2, ho => cases ho; exact ViewT.void rfl rfl
      | c + 3, ho => simp [rw19] at ho
    · intro c c' b _ _ e e'
      match c, c' with
      | 0, 0 | 1, 1 => rfl
      | 0, 1 | 1, 0 => simp [kI] at e e'; omega
      | _ + 2, _ => cases e
      | 0, _ + 2 | 1, _ + 2 => cases e'
    · rw [tm19_spr]
      exact VwL.ofKnown hl ⟨by rw [h3]; exact Vw.slN (by simp [rw19]) rfl, by rw [h11]; exact Vw.slI (by simp [rw19]) rfl, by rw [h12]; exact Vw.intI, by rw [h13]; exact Vw.intI, trivial⟩
  · rintro m st' F' ⟨i, E2, ⟨hi, rfl⟩, hO, rfl⟩
    have key := Eq.mpr (vr19 R n i E E2 (fun e l vals rows F2 => ∀ T', T'.length = l → Val19 T' = vals → match e with
      | .normal => ToX R [] 2 ⟨T', rows⟩ F2 fun st3 F3 => ∃ n', n' < n - i ∧ ∃ i E2, (i ≤ n ∧ n' = n - i) ∧ Told F F3 i E E2 ∧ st3 = ⟨tm19 n i, rw19 n E i E2⟩
      | e => ToX R [] 2 ⟨T', rows⟩ F2 fun st3 F3 => K (blockExit 0 e) st3 F3) F') ?_
    · exact (SafeX.round mixed (envC_ok hR) (f := 19) (fi := fi19) (by kernel_rfl) blk190 (subs_loop _) 1000 key).mono (fun e st2 F2 h => by have := h st2.tmps rfl rfl; cases e <;> exact this) (fun _ _ _ h => h)
    · refine hcB2 (fun hd => ?_) (fun hd => ?_)
      · obtain rfl : i = n := by simp at hd; omega
        intro T' hl' hv'
        unfold Val19 at hv'
        simp only [List.cons.injEq, and_true] at hv'
        obtain ⟨v3, v11, v12, v13⟩ := hv'
        refine ToX.fitS (stE := ⟨tm19x i, rw19 i E i E2⟩) (k19 2) (rw19_view (p := 2) (by decide) rfl rfl rfl rfl fun _ _ => rfl) ?_ (fun c hc => by match c, hc with | 0, _ => rfl | 1, _ => rfl) (by simp [rw19]) (ToX.here (hk F' E2 hO))
        rw [tm19x_spr]
        exact VwL.ofKnown hl' ⟨by rw [v3]; exact Vw.slI (by simp [rw19]) rfl, trivial⟩
      · have hlt : i < n := by simpa using hd
        have e1 : (0 + (i : Int).toNat) = i := by simp
        have ew := wrapSucc i (by omega)
        rw [e1, ew]
        have hei := (hE i hlt).le (Fz.le_trans hle hO.le)
        refine hcT (by rw [Bool.true_and]; exact hd) (hcT (decide_eq_true hlt) ⟨(E i).x, (E i).D, ⟨rfl, rfl, hei.1, hei.2⟩, fun F2 z hf => hcT ?_ ?_⟩)
        · rw [Bool.and_eq_true]
          exact ⟨decide_eq_true (by show 0 + i ≤ i; omega), by rw [Bool.true_and, Bool.true_and]; exact decide_eq_true (by show (i + 1) * 48 ≤ 140737488355328; omega)⟩
        · intro T' hl' hv'
          unfold Val19 at hv'
          simp only [List.cons.injEq, and_true] at hv'
          obtain ⟨v3, v11, v12, v13⟩ := hv'
          refine ToX.fitS (stE := ⟨tm19 n (i + 1), rw19 n E (i + 1) (fun j => bif Nat.blt j i then E2 j else ⟨(E i).nd, (E i).nm, z, (E i).D⟩)⟩) (k19 5) (rw19_view (p := 5) (by decide) rfl rfl rfl rfl fun j hj => ?_) ?_ (fun c hc => by match c, hc with | 0, _ => rfl | 1, _ => rfl) (by simp [rw19]) (ToX.here ⟨n - (i + 1), by omega, i + 1, _, ⟨by omega, rfl⟩, ⟨Fz.le_trans hO.le hf.le, fun j hj => ?_, fun j hj => ?_⟩, rfl⟩)
          · cases hb : Nat.blt j i
            · have : j = i := by have : ¬ j < i := fun h => by rw [(show Nat.blt j i = true by simpa [Nat.blt_eq] using h)] at hb; cases hb
                                 omega
              subst this
              simp only [Src.len, hb, cond_false, Nat.sub_self]
              rfl
            · simp only [Src.len, hb, cond_true, Nat.zero_add]
              rfl
          · rw [tm19_spr]
            exact VwL.ofKnown hl' ⟨by rw [v3]; exact Vw.slI (by simp [rw19]) rfl, by rw [v11]; exact Vw.slI (by simp [rw19]) rfl, by rw [v12]; exact Vw.intI, by rw [v13]; exact Vw.intI, trivial⟩
          · show enOK F2 (bif Nat.blt j i then E2 j else ⟨(E i).nd, (E i).nm, z, (E i).D⟩)
            cases hb : Nat.blt j i
            · exact ⟨hf.whole, hei.2⟩
            · exact (hO.ok j (by simpa [Nat.blt_eq] using hb)).le hf.le
          · show (bif Nat.blt j i then E2 j else (⟨(E i).nd, (E i).nm, z, (E i).D⟩ : En)).nd = _ ∧ (bif Nat.blt j i then E2 j else (⟨(E i).nd, (E i).nm, z, (E i).D⟩ : En)).nm = _ ∧ (bif Nat.blt j i then E2 j else (⟨(E i).nd, (E i).nm, z, (E i).D⟩ : En)).D = _
            cases hb : Nat.blt j i
            · have : j = i := by have : ¬ j < i := fun h => by rw [(show Nat.blt j i = true by simpa [Nat.blt_eq] using h)] at hb; cases hb
                                 omega
              subst this
              exact ⟨rfl, rfl, rfl⟩
            · exact hO.same j (by simpa [Nat.blt_eq] using hb)
end Go.Dc.Kb
end
section
namespace Go.Dc.Kb
open Go.Proofs Go.RowKit
set_option maxRecDepth 100000
structure AlkIn (F:Fz) (a b n n' x y:Nat) (D D':List At):Prop where
 h:a = x + 15 /\ b = y + 15 /\ n = D.length /\ n' = D'.length /\ Whole F x D /\ Whole F y D' /\ D.length <= 1000000 /\ D'.length <= 1000000
def spec15X:CallSpecX:=fun args h k F => match args with
 | [.agg [.int .i64 nd,.str nm,.sl true a 0 n .no],.agg [.int .i64 nd',.str nm',.sl true b 0 n' .no]] => ∃ x y D D',AlkIn F a b n n' x y D D' /\ k (.bool (alikeB nm nm' D D')) h F
 | _ => False
theorem spec15X_ok {R:RR} (hR:∀ F x,FrzC F x (R (x + 15))):∀ args h k F,spec15X args h k F -> SafeCallX Try.prog R 15 args h F k noP:=by
 intro args h k F hk
 unfold spec15X at hk
 split at hk
 ·obtain ⟨x,y,D,D',⟨rfl,rfl,rfl,rfl,h1,h2,h3,h4⟩,hk⟩:=hk
  refine (alikeT R F h1 h2 h3 h4 _ _ _ _ h).toXT (RT_names R F) (RT_back R F (hR F)) ?_
  rintro v h' ⟨rfl,rfl⟩
  exact hk
 ·exact hk.elim
noncomputable abbrev envMD (R:RR):EnvX:=(bx R).addCall 15 spec15X
theorem envMD_ok {R:RR} (hR:∀ F x,FrzC F x (R (x + 15))):OKX Try.prog (envMD R) [] noP:=(bx_ok R [] noP).addCall (f:=15) (fi:=fi15) (by kernel_rfl) (spec15X_ok hR)
def tm5i (n i c j:Nat):List AV:=[.any,.any,.bool false,.any,.any,.any,.any,.sl false 2 0 n .no,.int .i64 (i:Nat),.int .i64 (c:Nat),.int .i64 (j:Nat),.any,.any,.any,.any,.any,.any,.any,.any,.any,.any,.any,.any,.any,.any,.any,.any,.any,.any,.any,.any,.any,.any,.any,.any,.any,.any,.any,.any,.any,.any,.any,.any,.any,.any,.any,.any,.any,.any,.any,.any,.any,.any,.any,.any,.any,.any,.any,.any,.any,.any,.any,.any,.any,.any,.any,.any,.any,.any,.any,.any,.any,.any,.any,.any,.any,.any,.any,.any]
theorem tm5i_spr (n i c j:Nat):tm5i n i c j = spr [(2,.bool false),(7,.sl false 2 0 n .no),(8,.int .i64 (i:Nat)),(9,.int .i64 (c:Nat)),(10,.int .i64 (j:Nat))] 0 79:=by kernel_rfl
def tm5j (n i c:Nat):List AV:=[.any,.any,.bool false,.any,.any,.any,.any,.sl false 2 0 n .no,.int .i64 (i:Nat),.int .i64 (c:Nat),.any,.any,.any,.any,.any,.any,.any,.any,.any,.any,.any,.any,.any,.any,.any,.any,.any,.any,.any,.any,.any,.any,.any,.any,.any,.any,.any,.any,.any,.any,.any,.any,.any,.any,.any,.any,.any,.any,.any,.any,.any,.any,.any,.any,.any,.any,.any,.any,.any,.any,.any,.any,.any,.any,.any,.any,.any,.any,.any,.any,.any,.any,.any,.any,.any,.any,.any,.any,.any]
theorem tm5j_spr (n i c:Nat):tm5j n i c = spr [(2,.bool false),(7,.sl false 2 0 n .no),(8,.int .i64 (i:Nat)),(9,.int .i64 (c:Nat))] 0 79:=by kernel_rfl
def tm5o (n i:Nat):List AV:=[.any,.any,.bool false,.any,.any,.any,.any,.sl false 2 0 n .no,.int .i64 (i:Nat),.any,.any,.any,.any,.any,.any,.any,.any,.any,.any,.any,.any,.any,.any,.any,.any,.any,.any,.any,.any,.any,.any,.any,.any,.any,.any,.any,.any,.any,.any,.any,.any,.any,.any,.any,.any,.any,.any,.any,.any,.any,.any,.any,.any,.any,.any,.any,.any,.any,.any,.any,.any,.any,.any,.any,.any,.any,.any,.any,.any,.any,.any,.any,.any,.any,.any,.any,.any,.any,.any]
theorem tm5o_spr (n i:Nat):tm5o n i = spr [(2,.bool false),(7,.sl false 2 0 n .no),(8,.int .i64 (i:Nat))] 0 79:=by kernel_rfl
def tm5z :List AV:=[.any,.any,.any,.any,.any,.any,.any,.any,.any,.any,.any,.any,.any,.any,.any,.any,.any,.any,.any,.any,.any,.any,.any,.any,.any,.any,.any,.any,.any,.any,.any,.any,.any,.any,.any,.any,.any,.any,.any,.any,.any,.any,.any,.any,.any,.any,.any,.any,.any,.any,.any,.any,.any,.any,.any,.any,.any,.any,.any,.any,.any,.any,.any,.any,.any,.any,.any,.any,.any,.any,.any,.any,.any,.any,.any,.any,.any,.any,.any]
theorem tm5z_spr :tm5z  = spr [] 0 79:=by kernel_rfl
def rw5c (n:Nat) (E:Nat -> En):Rows:=[none,none,some (.gen 37 3 n fun j => enA (E j))]
end Go.Dc.Kb
end
section
namespace Go.Dc.Kb
open Go.Proofs Go.RowKit
set_option maxRecDepth 100000
theorem vr54 (R:RR) (n i c j:Nat) (E:Nat -> En) (q:Exit -> Nat -> List AV -> Rows -> Fz -> Prop) (F:Fz):rnx (envMD R) 1000 5 (loopOf fi5 4) ⟨tm5i n i c j,rw5c n E⟩ (fun e st => q e st.tmps.length [nthV st.tmps 2,nthV st.tmps 7,nthV st.tmps 8,nthV st.tmps 9,nthV st.tmps 10] st.rows) F = (bif decide ((↑j:Int) < (↑n:Int)) then bif true && decide ((↑j:Int) < (↑n:Int)) then bif decide (0 + (↑j:Int).toNat < n) then bif (E (0 + (↑j:Int).toNat)).nd != -1 then bif true && decide ((↑i:Int) < (↑n:Int)) then bif decide (0 + (↑i:Int).toNat < n) then bif true && decide ((↑j:Int) < (↑n:Int)) then bif decide (0 + (↑j:Int).toNat < n) then ∃ (x:Nat),∃ (y:Nat),∃ (D:List At),∃ (D':List At),AlkIn F ((E (0 + (↑i:Int).toNat)).x + 15) ((E (0 + (↑j:Int).toNat)).x + 15) (E (0 + (↑i:Int).toNat)).D.length (E (0 + (↑j:Int).toNat)).D.length x y D D' /\ bif alikeB (E (0 + (↑i:Int).toNat)).nm (E (0 + (↑j:Int).toNat)).nm D D' then q Exit.normal 79 [AV.bool false,AV.sl false 2 0 n Cp.no,iI (↑i:Int),iI (IntKind.i64.wrap ((↑c:Int) + 1)),iI (IntKind.i64.wrap ((↑j:Int) + 1))] [none,none,some (Row.gen 37 3 n fun (j:Nat) => enA (E j))] F else q Exit.normal 79 [AV.bool false,AV.sl false 2 0 n Cp.no,iI (↑i:Int),iI (↑c:Int),iI (IntKind.i64.wrap ((↑j:Int) + 1))] [none,none,some (Row.gen 37 3 n fun (j:Nat) => enA (E j))] F else False else False else False else False else q (Exit.exit 4) 79 [AV.bool false,AV.sl false 2 0 n Cp.no,iI (↑i:Int),iI (↑c:Int),iI (↑j:Int)] [none,none,some (Row.gen 37 3 n fun (j:Nat) => enA (E j))] F else False else False else q (Exit.exit 4) 79 [AV.bool false,AV.sl false 2 0 n Cp.no,iI (↑i:Int),iI (↑c:Int),iI (↑j:Int)] [none,none,some (Row.gen 37 3 n fun (j:Nat) => enA (E j))] F):=by kernel_rfl
theorem blk54:blockOf fi5 4 = some (.loop (loopOf fi5 4)):=by kernel_rfl
theorem blk52:blockOf fi5 2 = some (.loop (loopOf fi5 2)):=by kernel_rfl
noncomputable def Val54 (T:List AV):List AV:=[nthV T 2,nthV T 7,nthV T 8,nthV T 9,nthV T 10]
structure ChkIn (F:Fz) (n:Nat) (E:Nat -> En):Prop where
 lt:n <= 1000
 ok:∀ j,j < n -> enOK F (E j)
 few:Few (revL E n)
theorem rw5c_id {n:Nat} {E:Nat -> En} {r0 r1:Option Row}:ViewS some (rw5c n E) [r0,r1,some (.gen 37 3 n fun j => enA (E j))]:=by
 refine ViewS.of ?_ (fun c c' b _ _ e e' => by cases e; cases e'; rfl)
 intro c o ho
 match c,ho with
 | 0,ho => cases ho; exact ViewT.none
 | 1,ho => cases ho; exact ViewT.none
 | 2,ho => cases ho; exact ViewT.at_ (b:=2) rfl rfl (RowS.gen (Nat.le_refl _) fun j hj => ⟨rfl,en_vw _⟩)
 | c + 3,ho => simp [rw5c] at ho
def spec54 (n i:Nat) (E:Nat -> En):LoopSpX:=fun st k F =>
 (nthV st.tmps 2 = .bool false /\ nthV st.tmps 7 = .sl false 2 0 n .no /\ nthV st.tmps 8 = .int .i64 (i:Nat) /\ nthV st.tmps 9 = .int .i64 0 /\ nthV st.tmps 10 = .int .i64 (i:Nat) /\ st.tmps.length = 79 /\ RowsAre st.rows (rw5c n E)) /\ ChkIn F n E /\ i.lt n /\
 ∀ c:Nat,c.le 3 -> k .normal ⟨tm5j n i c,rw5c n E⟩ F
theorem spec54_ok {R:RR} (hR:∀ F x,FrzC F x (R (x + 15))) (n i:Nat) (E:Nat -> En) (st:St) (K:Exit -> St -> Fz -> Prop) (F:Fz) (h:spec54 n i E st K F):SafeX Try.prog (bx R).R [] (.block 4 (.loop (loopOf fi5 4))) st F K noP:=by
 obtain ⟨⟨h2,h7,h8,h9,h10,hl,hr⟩,hC,hin,hk⟩:=h
 have hin:i < n:=hin
 obtain ⟨T,rows⟩:=st
 simp only at h2 h7 h8 h9 h10 hl
 have hr:rows = rw5c n E:=hr.h
 subst hr
 refine SafeX.loop_block (Inv:=fun m st' F' => F' = F /\ ∃ k,(i + k <= n /\ m = n - (i + k)) /\ (∀ t,i <= t -> t < i + k -> mkE (E t) = false) /\ st' = ⟨tm5i n i (pcnt E (E i) i k) (i + k),rw5c n E⟩) ?_ ?_
 ·refine ToX.fitS (stE:=⟨tm5i n i 0 (i + 0),rw5c n E⟩) some rw5c_id ?_ (fun _ _ => rfl) (Nat.le_refl _) (ToX.here ⟨n - (i + 0),rfl,0,⟨by omega,rfl⟩,fun t h1 h2 => by omega,rfl⟩)
  rw [tm5i_spr]
  exact VwL.ofKnown hl ⟨by rw [h2]; exact Vw.boolI,by rw [h7]; exact Vw.slI (by simp [rw5c]) rfl,by rw [h8]; exact Vw.intI,by rw [h9]; exact Vw.intI,by rw [h10]; exact Vw.intI,trivial⟩
 ·rintro m st' F' ⟨rfl,k,⟨hkn,rfl⟩,hm,rfl⟩
  have key:=Eq.mpr (vr54 R n i (pcnt E (E i) i k) (i + k) E (fun e l vals rows F2 => ∀ T',T'.length = l -> Val54 T' = vals -> match e with
   | .normal => ToX R [] 3 ⟨T',rows⟩ F2 fun st3 F3 => ∃ n',n' < n - (i + k) /\ F3 = F' /\ ∃ k,(i + k <= n /\ n' = n - (i + k)) /\ (∀ t,i <= t -> t < i + k -> mkE (E t) = false) /\ st3 = ⟨tm5i n i (pcnt E (E i) i k) (i + k),rw5c n E⟩
   | e => ToX R [] 3 ⟨T',rows⟩ F2 fun st3 F3 => K (blockExit 4 e) st3 F3) F') ?_
  ·exact (SafeX.round mixed (envMD_ok hR) (f:=5) (fi:=fi5) (by kernel_rfl) blk54 (subs_loop _) 1000 key).mono (fun e st2 F2 h => by have:=h st2.tmps rfl rfl; cases e <;> exact this) (fun _ _ _ h => h)
  ·have hc3:pcnt E (E i) i k <= 3:=few_part (few_nodup hC.few hin) hC.few hkn hm
   have out:∀ (T':List AV),T'.length = 79 -> Val54 T' = [AV.bool false,AV.sl false 2 0 n Cp.no,iI (i:Nat),iI (pcnt E (E i) i k:Nat),iI ((i + k:Nat):Int)] -> ToX R [] 3 ⟨T',rw5c n E⟩ F' fun st3 F3 => K (blockExit 4 (.exit 4)) st3 F3:=by
    intro T' hl' hv'
    unfold Val54 at hv'
    simp only [List.cons.injEq,and_true] at hv'
    obtain ⟨v2,v7,v8,v9,v10⟩:=hv'
    refine ToX.fitS (stE:=⟨tm5j n i (pcnt E (E i) i k),rw5c n E⟩) some rw5c_id ?_ (fun _ _ => rfl) (Nat.le_refl _) (ToX.here (hk _ hc3))
    rw [tm5j_spr]
    exact VwL.ofKnown hl' ⟨by rw [v2]; exact Vw.boolI,by rw [v7]; exact Vw.slI (by simp [rw5c]) rfl,by rw [v8]; exact Vw.intI,by rw [v9]; exact Vw.intI,trivial⟩
   have close:∀ (T':List AV) (c2:Nat),T'.length = 79 -> c2 = pcnt E (E i) i (k + 1) -> i + (k + 1) <= n -> mkE (E (i + k)) = false -> Val54 T' = [AV.bool false,AV.sl false 2 0 n Cp.no,iI (i:Nat),iI (c2:Nat),iI ((i + k + 1:Nat):Int)] -> ToX R [] 3 ⟨T',rw5c n E⟩ F' fun st3 F3 => ∃ n',n' < n - (i + k) /\ F3 = F' /\ ∃ k,(i + k <= n /\ n' = n - (i + k)) /\ (∀ t,i <= t -> t < i + k -> mkE (E t) = false) /\ st3 = ⟨tm5i n i (pcnt E (E i) i k) (i + k),rw5c n E⟩:=by
    intro T' c2 hl' hc2 hle hmk hv'
    subst hc2
    unfold Val54 at hv'
    simp only [List.cons.injEq,and_true] at hv'
    obtain ⟨v2,v7,v8,v9,v10⟩:=hv'
    refine ToX.fitS (stE:=⟨tm5i n i (pcnt E (E i) i (k + 1)) (i + (k + 1)),rw5c n E⟩) some rw5c_id ?_ (fun _ _ => rfl) (Nat.le_refl _) (ToX.here ⟨n - (i + (k + 1)),by omega,rfl,k + 1,⟨hle,rfl⟩,fun t h1 h2 => ?_,rfl⟩)
    ·rw [tm5i_spr]
     exact VwL.ofKnown hl' ⟨by rw [v2]; exact Vw.boolI,by rw [v7]; exact Vw.slI (by simp [rw5c]) rfl,by rw [v8]; exact Vw.intI,by rw [v9]; exact Vw.intI,by rw [v10]; exact Vw.intI,trivial⟩
    ·by_cases ht:t = i + k
     ·rw [ht]; exact hmk
     ·exact hm t h1 (by omega)
   refine hcB2 (fun hd => out) (fun hd => ?_)
   have hlt:i + k < n:=by have:=of_decide_eq_true hd; omega
   have hn:=hC.lt
   have e1:(0 + ((i + k:Nat):Int).toNat) = i + k:=by rw [Int.toNat_natCast,Nat.zero_add]
   have e2:(0 + (i:Int).toNat) = i:=by simp
   have ew:=wrapSucc (i + k) (by omega)
   have ew2:=wrapSucc (pcnt E (E i) i k) (by omega)
   rw [e1,e2,ew,ew2]
   have hdi:decide ((i:Int) < (n:Int)) = true:=decide_eq_true (by omega)
   refine hcT (by rw [Bool.true_and]; exact hd) (hcT (decide_eq_true hlt) (hcB2 (fun hmk => out) (fun hmk => ?_)))
   have hmk:mkE (E (i + k)) = false:=by unfold mkE; simpa using hmk
   have w1:=hC.ok i hin
   have w2:=hC.ok (i + k) hlt
   refine hcT (by rw [Bool.true_and]; exact hdi) (hcT (decide_eq_true hin) (hcT (by rw [Bool.true_and]; exact hd) (hcT (decide_eq_true hlt) ⟨_,_,_,_,⟨rfl,rfl,rfl,rfl,w1.1,w2.1,w1.2,w2.2⟩,hcB (fun ha => ?_) (fun ha => ?_)⟩)))
   ·exact fun T' hl' hv' => close T' (pcnt E (E i) i k + 1) hl' (by show _ = pcnt E (E i) i k + (bif alE (E i) (E (i + k)) then 1 else 0); rw [show alE (E i) (E (i + k)) = true from ha]; rfl) (by omega) hmk hv'
   ·exact fun T' hl' hv' => close T' (pcnt E (E i) i k) hl' (by show _ = pcnt E (E i) i k + (bif alE (E i) (E (i + k)) then 1 else 0); rw [show alE (E i) (E (i + k)) = false from ha]; rfl) (by omega) hmk hv'
noncomputable abbrev envMI (R:RR) (n i:Nat) (E:Nat -> En):EnvX:=(bx R).addLoop 5 4 (spec54 n i E)
theorem envMI_ok {R:RR} (hR:∀ F x,FrzC F x (R (x + 15))) (n i:Nat) (E:Nat -> En):OKX Try.prog (envMI R n i E) [] noP:=(bx_ok R [] noP).addLoop (f:=5) (fi:=fi5) (by kernel_rfl) blk54 (spec54_ok hR n i E)
end Go.Dc.Kb
end
section
namespace Go.Dc.Kb
open Go.Proofs Go.RowKit
set_option maxRecDepth 100000
theorem vr52 (R:RR) (n i:Nat) (E:Nat -> En) (q:Exit -> Nat -> List AV -> Rows -> Fz -> Prop) (F:Fz):rnx (envMI R n i E) 1000 5 (loopOf fi5 2) ⟨tm5o n i,rw5c n E⟩ (fun e st => q e st.tmps.length [nthV st.tmps 2,nthV st.tmps 7,nthV st.tmps 8] st.rows) F = (bif decide ((↑i:Int) < (↑n:Int)) then (AV.bool false = AV.bool false /\ AV.sl false 2 0 n Cp.no = AV.sl false 2 0 n Cp.no /\ iI (↑i:Int) = iI (↑i:Int) /\ iI 0 = iI 0 /\ iI (↑i:Int) = iI (↑i:Int) /\ 79 = 79 /\ RowsAre [none,none,some (Row.gen 37 3 n fun (j:Nat) => enA (E j))] [none,none,some (Row.gen 37 3 n fun (j:Nat) => enA (E j))]) /\ ChkIn F n E /\ i.succ.le n /\ ∀ (c:Nat),c.le 3 -> bif decide ((↑c:Int) > 3) then q Exit.ret 79 [AV.bool false,AV.sl false 2 0 n Cp.no,iI (↑i:Int)] [none,none,some (Row.gen 37 3 n fun (j:Nat) => enA (E j))] F else q Exit.normal 79 [AV.bool false,AV.sl false 2 0 n Cp.no,iI (IntKind.i64.wrap ((↑i:Int) + 1))] [none,none,some (Row.gen 37 3 n fun (j:Nat) => enA (E j))] F else q (Exit.exit 2) 79 [AV.bool false,AV.sl false 2 0 n Cp.no,iI (↑i:Int)] [none,none,some (Row.gen 37 3 n fun (j:Nat) => enA (E j))] F):=by kernel_rfl
noncomputable def Val52 (T:List AV):List AV:=[nthV T 2,nthV T 7,nthV T 8]
def spec52:LoopSpX:=fun st k F => ∃ n E0 E,
 (nthV st.tmps 2 = .bool false /\ nthV st.tmps 7 = .sl false 2 0 n .no /\ nthV st.tmps 8 = .int .i64 0 /\ st.tmps.length = 79 /\ RowsAre st.rows (rw19 n E0 n E)) /\ ChkIn F n E /\ k .normal ⟨tm5z,[none,none,none]⟩ F
theorem spec52_ok {R:RR} (hR:∀ F x,FrzC F x (R (x + 15))) (st:St) (K:Exit -> St -> Fz -> Prop) (F:Fz) (h:spec52 st K F):SafeX Try.prog (bx R).R [] (.block 2 (.loop (loopOf fi5 2))) st F K noP:=by
 obtain ⟨n,E0,E,⟨h2,h7,h8,hl,hr⟩,hC,hk⟩:=h
 obtain ⟨T,rows⟩:=st
 simp only at h2 h7 h8 hl
 have hr:rows = rw19 n E0 n E:=hr.h
 subst hr
 refine SafeX.loop_block (Inv:=fun m st' F' => F' = F /\ ∃ i,(i <= n /\ m = n - i) /\ st' = ⟨tm5o n i,rw5c n E⟩) ?_ ?_
 ·refine ToX.fitS (stE:=⟨tm5o n 0,rw5c n E⟩) some rw5c_id ?_ (fun _ _ => rfl) (Nat.le_refl _) (ToX.here ⟨n,rfl,0,⟨Nat.zero_le _,rfl⟩,rfl⟩)
  rw [tm5o_spr]
  exact VwL.ofKnown hl ⟨by rw [h2]; exact Vw.boolI,by rw [h7]; exact Vw.slI (by simp [rw5c]) rfl,by rw [h8]; exact Vw.intI,trivial⟩
 ·rintro m st' F' ⟨rfl,i,⟨hi,rfl⟩,rfl⟩
  have key:=Eq.mpr (vr52 R n i E (fun e l vals rows F2 => ∀ T',T'.length = l -> Val52 T' = vals -> match e with
   | .normal => ToX R [] 3 ⟨T',rows⟩ F2 fun st3 F3 => ∃ n',n' < n - i /\ F3 = F' /\ ∃ i,(i <= n /\ n' = n - i) /\ st3 = ⟨tm5o n i,rw5c n E⟩
   | e => ToX R [] 3 ⟨T',rows⟩ F2 fun st3 F3 => K (blockExit 2 e) st3 F3) F') ?_
  ·exact (SafeX.round mixed (envMI_ok hR n i E) (f:=5) (fi:=fi5) (by kernel_rfl) blk52 (subs_loop _) 1000 key).mono (fun e st2 F2 h => by have:=h st2.tmps rfl rfl; cases e <;> exact this) (fun _ _ _ h => h)
  ·refine hcB2 (fun hd T' hl' hv' => ?_) (fun hd => ?_)
   ·refine ToX.fitS (stE:=⟨tm5z,[none,none,none]⟩) some (ViewS.of ?_ (fun c c' b _ _ e e' => by cases e; cases e'; rfl)) ?_ (fun _ _ => rfl) (Nat.le_refl _) (ToX.here hk)
    ·intro c o ho
     match c,ho with
     | 0,ho => cases ho; exact ViewT.none
     | 1,ho => cases ho; exact ViewT.none
     | 2,ho => cases ho; exact ViewT.none
     | c + 3,ho => simp at ho
    ·rw [tm5z_spr]
     exact VwL.ofKnown hl' trivial
   ·have hlt:i < n:=by simpa using hd
    have hn:=hC.lt
    have ew:=wrapSucc i (by omega)
    rw [ew]
    refine ⟨⟨rfl,rfl,rfl,rfl,rfl,rfl,⟨rfl⟩⟩,hC,hlt,fun c hc => hcF ?_ (fun T' hl' hv' => ?_)⟩
    ·have hc:c <= 3:=hc
     exact decide_eq_false (by omega)
    ·unfold Val52 at hv'
     simp only [List.cons.injEq,and_true] at hv'
     obtain ⟨v2,v7,v8⟩:=hv'
     refine ToX.fitS (stE:=⟨tm5o n (i + 1),rw5c n E⟩) some rw5c_id ?_ (fun _ _ => rfl) (Nat.le_refl _) (ToX.here ⟨n - (i + 1),by omega,rfl,i + 1,⟨by omega,rfl⟩,rfl⟩)
     rw [tm5o_spr]
     exact VwL.ofKnown hl' ⟨by rw [v2]; exact Vw.boolI,by rw [v7]; exact Vw.slI (by simp [rw5c]) rfl,by rw [v8]; exact Vw.intI,trivial⟩
structure EntIn (F:Fz) (n:Nat) (E:Nat -> En):Prop where
 lt:n <= 1000
 ok:∀ j,j < n -> enOK F (E j)
def spec19M (n:Nat) (E:Nat -> En):LoopSpX:=fun st k F => EntIn F n E /\ spec19L n E st k F
theorem spec19M_ok {R:RR} (hR:∀ F x,FrzC F x (R (x + 15))) (n:Nat) (E:Nat -> En) (st:St) (K:Exit -> St -> Fz -> Prop) (F:Fz) (h:spec19M n E st K F):SafeX Try.prog (bx R).R [] (.block 0 (.loop (loopOf fi19 0))) st F K noP :=
 spec19L_ok hR n E h.1.lt F h.1.ok st K F F.le_refl h.2
noncomputable abbrev envN9 (R:RR) (n:Nat) (E:Nat -> En):EnvX:=(bx R).addLoop 19 0 (spec19M n E)
theorem envN9_ok {R:RR} (hR:∀ F x,FrzC F x (R (x + 15))) (n:Nat) (E:Nat -> En):OKX Try.prog (envN9 R n E) [] noP:=(bx_ok R [] noP).addLoop (f:=19) (fi:=fi19) (by kernel_rfl) blk190 (spec19M_ok hR n E)
structure LeF (F F':Fz):Prop where
 h:F.le F'
def spec5M (F0:Fz) (len:Nat):LoopSpX:=fun st k F => LeF F0 F /\ spec5L len st k F
structure Acts (F0:Fz) (len:Nat) (X L:Nat -> Nat) (N V:Nat -> Nat -> Tx):Prop where
 h:∀ j,j < len -> Came F0 (X j) (L j) (N j) (V j)
theorem spec5M_ok (ty len:Nat) (W A D:Nat -> Int) (M:Nat -> Tx) (X L:Nat -> Nat) (N V:Nat -> Nat -> Tx) (F0:Fz) (hF:Acts F0 len X L N V) (st:St) (K:Exit -> St -> Fz -> Prop) (F:Fz) (h:spec5M F0 len st K F):SafeX Try.prog (bx (roM ty len W A D M X L)).R [] (.block 0 (.loop (loopOf fi5 0))) st F K noP :=
 spec5L_ok ty len W A D M X L N V F0 hF.h st K F h.1.h h.2
end Go.Dc.Kb
end
section
namespace Go.Dc.Kb
open Go.Proofs Go.RowKit
set_option maxRecDepth 100000
theorem vc19m (R:RR) (n:Nat) (E:Nat -> En) (q:AV -> Rows -> Fz -> Prop) (F:Fz):vcx (envN9 R n E) 1000 19 fi19 [.ptr false 0 0 0] (rwI n E) q F = (EntIn F n E /\ (AV.nils = AV.nils /\ AV.sl false 1 0 n Cp.no = AV.sl false 1 0 n Cp.no /\ iI (↑n:Int) = iI (↑n:Int) /\ iI 0 = iI 0 /\ 24 = 24 /\ RowsAre [some (Row.lst 49 1 [AV.agg [AV.sl false 1 0 n Cp.no]]),some (Row.gen 37 3 n fun (j:Nat) => enA (E j))] [some (Row.lst 49 1 [AV.agg [AV.sl false 1 0 n Cp.no]]),some (Row.gen 37 3 n fun (j:Nat) => enA (E j))]) /\ ∀ (F':Fz) (E2:Nat -> En),Told F F' n E E2 -> q (AV.sl false 2 0 n Cp.no) [some (Row.lst 49 1 [AV.agg [AV.sl false 1 0 n Cp.no]]),some (Row.gen 37 3 n fun (j:Nat) => enA (E j)),some (Row.gen 37 3 n fun (j:Nat) => enA (E2 j))] F'):=by kernel_rfl
def spec19X:CallSpecX:=fun args h k F => match args with
 | [.ptr false 0 0 0] => ∃ n E,(RowsAre h (rwI n E) /\ EntIn F n E) /\ ∀ F' E2,Told F F' n E E2 -> k (.sl false 2 0 n .no) (rw19 n E n E2) F'
 | _ => False
theorem spec19X_ok {R:RR} (hR:∀ F x,FrzC F x (R (x + 15))):∀ args h k F,spec19X args h k F -> SafeCallX Try.prog R 19 args h F k noP:=by
 intro args h k F hk
 unfold spec19X at hk
 split at hk
 ·obtain ⟨n,E,⟨⟨rfl⟩,hE⟩,hk⟩:=hk
  exact SafeCallX.by mixed (envN9_ok hR n E) (f:=19) (fi:=fi19) (by kernel_rfl) 1000 (vc19m R n E k F) ⟨hE,⟨rfl,rfl,rfl,rfl,rfl,⟨rfl⟩⟩,hk⟩
 ·exact hk.elim
noncomputable abbrev env5 (ty len:Nat) (W A D:Nat -> Int) (M:Nat -> Tx) (X L:Nat -> Nat) (F0:Fz):EnvX:=((((bx (roM ty len W A D M X L)).addCall 13 (liftC isTrue)).addCall 19 spec19X).addLoop 5 0 (spec5M F0 len)).addLoop 5 2 spec52
theorem env5_ok (ty len:Nat) (W A D:Nat -> Int) (M:Nat -> Tx) (X L:Nat -> Nat) (N V:Nat -> Nat -> Tx) (F0:Fz) (hF:Acts F0 len X L N V):OKX Try.prog (env5 ty len W A D M X L F0) [] noP :=
 ((((bx_ok _ [] noP).addCall (f:=13) (fi:=fi13) (by kernel_rfl) (liftC_ok (isTrue_ok (safe13 _)))).addCall (f:=19) (fi:=fi19) (by kernel_rfl) (spec19X_ok (roM_frz ty len W A D M X L))).addLoop (f:=5) (fi:=fi5) (by kernel_rfl) blk50 (spec5M_ok ty len W A D M X L N V F0 hF)).addLoop (f:=5) (fi:=fi5) (by kernel_rfl) blk52 (spec52_ok (roM_frz ty len W A D M X L))
theorem vc5 (ty len:Nat) (W A D:Nat -> Int) (M:Nat -> Tx) (X L:Nat -> Nat) (F0:Fz) (q:AV -> Rows -> Fz -> Prop) (F:Fz):vcx (env5 ty len W A D M X L F0) 1000 5 fi5 [.sl true 0 0 len .no] [] q F = (LeF F0 F /\ (AV.sl true 0 0 len Cp.no = AV.sl true 0 0 len Cp.no /\ AV.bool false = AV.bool false /\ AV.ptr false 0 0 0 = AV.ptr false 0 0 0 /\ iI 0 = iI 0 /\ 79 = 79 /\ RowsAre [some (Row.lst 49 1 [AV.agg [AV.nils]])] [some (Row.lst 49 1 [AV.agg [AV.nils]])]) /\ ∀ (F':Fz) (n:Nat) (E:Nat -> En),MOut F F' n E -> ∃ (n_1:Nat),∃ (E_1:Nat -> En),(RowsAre [some (Row.lst 49 1 [AV.agg [AV.sl false 1 0 n Cp.no]]),some (Row.gen 37 3 n fun (j:Nat) => enA (E j))] [some (Row.lst 49 1 [AV.agg [AV.sl false 1 0 n_1 Cp.no]]),some (Row.gen 37 3 n_1 fun (j:Nat) => enA (E_1 j))] /\ EntIn F' n_1 E_1) /\ ∀ (F'_1:Fz) (E2:Nat -> En),Told F' F'_1 n_1 E_1 E2 -> ∃ (n:Nat),∃ (E0:Nat -> En),∃ (E:Nat -> En),(AV.bool false = AV.bool false /\ AV.sl false 2 0 n_1 Cp.no = AV.sl false 2 0 n Cp.no /\ iI 0 = iI 0 /\ 79 = 79 /\ RowsAre [some (Row.lst 49 1 [AV.agg [AV.sl false 1 0 n_1 Cp.no]]),some (Row.gen 37 3 n_1 fun (j:Nat) => enA (E_1 j)),some (Row.gen 37 3 n_1 fun (j:Nat) => enA (E2 j))] [some (Row.lst 49 1 [AV.agg [AV.sl false 1 0 n Cp.no]]),some (Row.gen 37 3 n fun (j:Nat) => enA (E0 j)),some (Row.gen 37 3 n fun (j:Nat) => enA (E j))]) /\ ChkIn F'_1 n E /\ q (AV.bool true) [none,none,none] F'_1):=by kernel_rfl
theorem safe5 (ty len:Nat) (W A D:Nat -> Int) (M:Nat -> Tx) (X L:Nat -> Nat) (N V:Nat -> Nat -> Tx) (F0:Fz) (hF:Acts F0 len X L N V):SafeCallX Try.prog (roM ty len W A D M X L) 5 [.sl true 0 0 len .no] [] F0 (fun v _ _ => v = .bool true) noP:=by
 refine SafeCallX.by mixed (env5_ok ty len W A D M X L N V F0 hF) (f:=5) (fi:=fi5) (by kernel_rfl) 1000 (vc5 ty len W A D M X L F0 (fun v _ _ => v = .bool true) F0) ?_
 refine ⟨⟨F0.le_refl⟩,⟨rfl,rfl,rfl,rfl,rfl,⟨rfl⟩⟩,fun F1 n E hO => ⟨n,E,⟨⟨rfl⟩,⟨Nat.le_trans hO.lt (by decide),hO.ok⟩⟩,fun F2 E2 hT => ⟨n,E,E2,⟨rfl,rfl,rfl,rfl,⟨rfl⟩⟩,⟨Nat.le_trans hO.lt (by decide),hT.ok,few_told hT n (Nat.le_refl _) hO.few⟩,rfl⟩⟩⟩
end Go.Dc.Kb
end
section
namespace Go.Dc.Kb
open Go.Proofs Go.RowKit
set_option maxRecDepth 100000
def fzAll (w:World):Fz:=fun b => match w.heap[b]? with | some (.cells c ty _) => some (ty,c) | _ => none
theorem fzAll_ok {w:World} {m:Map} (hn:Named m):FzOK (fzAll w) m [] w where
 blk:=fun b ty c h => by
  unfold fzAll at h
  split at h
  ·rename_i c' ty' fz hh
   injection h with h
   injection h with h1 h2
   subst h1; subst h2
   exact ⟨fz,hh⟩
  ·cases h
 apart:=fun b r hb => by simp [Rows.live] at hb
 ro:=hn
theorem tokOf {w:World} {l:Loc} {ty n:Nat} {at_:Nat -> AV} {v:Value} (hro:∀ m,RoOK m l ⟨ty,2,n,at_⟩ w) (hd:SlDen l 0 n .no v):∃ x,FrzC (fzAll w) x ⟨ty,2,n,at_⟩ /\ SlDen (tkLoc x) 0 n .no v:=by
 obtain ⟨g1,g2,g3⟩:=hro mapX
 have g1:l.esz = 2:=g1
 cases hv:l.vir with
 | true =>
  rw [hv] at g3
  simp only [if_true] at g3
  have g3:n = 0:=g3
  refine ⟨2,.inr ⟨g3,by rw [tkLoc_nil 2 (by decide) (by decide)]⟩,?_⟩
  rw [tkLoc_nil 2 (by decide) (by decide)]
  unfold SlDen at hd ⊢
  rw [if_pos hv] at hd
  exact hd
 | false =>
  have hl:tkLoc (tkName 2 l.blk l.shift l.ext) = l:=by rw [tkLoc_name,<- g1,<- hv]
  refine ⟨tkName 2 l.blk l.shift l.ext,?_,by rw [hl]; exact hd⟩
  rcases Nat.eq_zero_or_pos n with h0 | hp
  ·exact .inr ⟨h0,by rw [hl,g1]⟩
  ·rw [hv] at g3
   simp only [Bool.false_eq_true,if_false] at g3
   obtain ⟨c,fz,k1,k2⟩:=g3 hp
   refine .inl ⟨by unfold tkName; omega,.inr ⟨l.blk,l.shift,l.ext,c,rfl,g2,by unfold fzAll; rw [k1],fun i hi => ⟨(k2 i hi).1.trans g1,fun o a ha => ?_⟩⟩⟩
   obtain ⟨k3,u,k4,k5⟩:=(k2 i hi).2 o a ha
   have k4:c[l.shift + (i * l.esz + o)]? = some u:=k4
   rw [g1] at k4
   refine ⟨k3,u,k4,fun m N _ => ?_⟩
   obtain ⟨_,_,f3⟩:=hro m
   rw [hv] at f3
   simp only [Bool.false_eq_true,if_false] at f3
   obtain ⟨c',fz',q1,q2⟩:=f3 hp
   rw [k1] at q1
   injection q1 with q1
   injection q1 with q1 _ _
   subst q1
   obtain ⟨_,u',q4,q5⟩:=(q2 i hi).2 o a ha
   rw [g1,k4] at q4
   injection q4 with q4
   subst q4
   exact q5.mono (Nat.zero_le _) (fun _ hb => absurd hb (Nat.not_lt_zero _)) rfl
theorem rowsArgN (w:World) (a:Addr) (len cap z:Nat) (hz:0 < z) (at_:Nat -> AV) (hl:len <= cap) (hm:cap <= maxLen) (hc:∀ i,i < len -> (at_ i).cells.length = z)
  (hcell:∀ i,i < cap -> ∀ o,o < z -> ∃ v,w.cell? (a.add (i * z + o)) = some v /\ ∀ b,i < len -> (at_ i).cells[o]? = some b -> b.one = true /\ ∀ m n,Named m -> Den m n b v) :
  ∃ ty l,(∀ m,Named m -> RoOK m l ⟨ty,z,len,at_⟩ w) /\ SlDen l 0 len .no (.slice (some a) len cap):=by
 rcases Nat.eq_zero_or_pos cap with h0 | hp
 ·subst h0
  obtain rfl:len = 0:=by omega
  refine ⟨0,⟨0,0,z,0,true⟩,fun m _ => ⟨rfl,Nat.le_refl _,by simp⟩,?_⟩
  unfold SlDen
  simp only [if_true]
  exact ⟨trivial,some a,rfl,trivial⟩
 ·obtain ⟨v0,h0,_⟩:=hcell 0 hp 0 hz
  have hadd0:a.add (0 * z + 0) = a:=by unfold Addr.add; simp
  rw [hadd0] at h0
  obtain ⟨c,ty,fz,hcb⟩:∃ c ty fz,w.heap[a.block]? = some (Obj.cells c ty fz):=by
   unfold World.cell? at h0
   split at h0
   ·rename_i c ty fz hc; exact ⟨c,ty,fz,hc⟩
   ·cases h0
  have hspot:a.spot = none:=by
   unfold World.cell? at h0
   rw [hcb] at h0
   simp only [] at h0
   cases hs:a.spot with
   | none => rfl
   | some s => rw [hs] at h0; simp at h0
  have ha:a = ⟨a.block,a.off,none⟩:=by cases a; simp_all
  have hadd:∀ i,a.add i = ⟨a.block,a.off + i,none⟩:=by
   intro i
   rw [ha]
   unfold Addr.add
   split
   ·rename_i h; subst h; rfl
   ·rfl
  refine ⟨ty,⟨a.block,a.off,z,cap,false⟩,fun m hm' => ⟨rfl,hl,?_⟩,?_⟩
  ·simp only [Bool.false_eq_true,if_false]
   intro hn
   refine ⟨c,fz,hcb,fun i hi => ⟨hc i hi,fun o b hb => ?_⟩⟩
   have hoz:o < z:=by rw [<- hc i hi]; exact (List.getElem?_eq_some_iff.1 hb).1
   obtain ⟨v,hv,hd⟩:=hcell i (by omega) o hoz
   obtain ⟨h1,h2⟩:=hd b hi hb
   refine ⟨h1,v,?_,h2 _ _ hm'⟩
   rw [hadd] at hv
   unfold World.cell? at hv
   rw [hcb] at hv
   simpa using hv
  ·unfold SlDen
   simp only [Bool.false_eq_true,if_false]
   exact ⟨a,cap,rfl,hl,hm,trivial,fun _ => ⟨by simpa using ha,by simp⟩⟩
theorem SafeCallX.lawN {P:Program} {f:FuncId} {args:List AV} {ty z n:Nat} {G:Nat -> AV} {l:Loc} {w:World} (hs:SafeCallX P (rx1 ty z n G) f args [] (fzAll w) (fun v _ _ => v = .bool true) (fun _ _ _ => False)) (vs:Array Value)
  (hro:∀ m,Named m -> RoOK m l ⟨ty,z,n,G⟩ w) (has:∀ m:Map,Named m -> m.ro 0 = l -> DenL m 0 args vs.toList):Calls P f vs w fun e w' => e = .returned (.bool true) /\ Below w.heap.size w w':=by
 have hm:∃ m:Map,m.ro 0 = l /\ (∀ i,m.ro (i + 1) = mapX.ro (i + 1)) /\ m.mu = mapX.mu:=⟨⟨mapX.mu,fun i => match i with | 0 => l | i + 1 => mapX.ro (i + 1)⟩,rfl,fun _ => rfl,rfl⟩
 obtain ⟨m,h0,h1,h2⟩:=hm
 have hn:Named m:=fun i => by rw [h1 (i + 14)]; exact mapX_named i
 have hR:∀ i,RoOK m (m.ro i) (rx1 ty z n G i) w:=by
  intro i
  match i with
  | 0 => rw [h0]; exact hro m hn
  | i + 1 =>
   rw [h1 i]
   have h:=RX_ok w (i + 1)
   refine ⟨h.1,h.2.1,?_⟩
   show if (mapX.ro (i + 1)).vir = true then 0 = 0 else 0 < 0 -> _
   split
   ·rfl
   ·intro h; exact absurd h (Nat.lt_irrefl _)
 have hW:WR (rx1 ty z n G) m [] w:=⟨fun b r hb => by simp [Rows.live] at hb,fun b b' r r' hb => by simp [Rows.live] at hb,hR,fun i b r hb => by simp [Rows.live] at hb⟩
 refine (hs m w m [] w (fzAll w) vs (has m hn h0) hW (fzAll_ok hn) (Step.refl _ _ _) (.refl _ _ _ _)).mono ?_
 rintro e w' ⟨m',h',F',hW',hf',hl',hS,⟨c,v,rfl,rfl,hd⟩ | ⟨c,v,rfl,h,_⟩⟩
 ·simp only [Den] at hd
  subst hd
  exact ⟨rfl,hS.os,hS.tape,hS.output,hS.size,fun k hk => hS.block k hk (fun b r hb => by simp [Rows.live] at hb)⟩
 ·exact h.elim
def MarksAt (w:World) (v:Value):Prop:=∃ (ty n:Nat) (W A D:Nat -> Int) (M:Nat -> Tx) (X L:Nat -> Nat) (N V:Nat -> Nat -> Tx) (l:Loc),Acts (fzAll w) n X L N V /\ (∀ m,Named m -> RoOK m l ⟨ty,5,n,fun j => .agg [.int .i64 (W j),.int .i64 (A j),.int .i64 (D j),.str (M j),.sl true (X j + 15) 0 (L j) .no]⟩ w) /\ SlDen l 0 n .no v
theorem most_walk (w:World) (v:Value) (h:MarksAt w v):Calls Try.prog 5 #[v] w fun e w' => e = .returned (.bool true) /\ Go.RowKit.Below w.heap.size w w':=by
 obtain ⟨ty,n,W,A,D,M,X,L,N,V,l,hF,hro,hd⟩:=h
 refine SafeCallX.lawN (safe5 ty n W A D M X L N V (fzAll w) hF) #[v] hro fun m _ hm => ?_
 simp only [DenL,Den,Map.loc,if_true]
 exact ⟨v,[],rfl,⟨by simp,by rw [hm]; exact hd⟩,rfl⟩
end Go.Dc.Kb
end
