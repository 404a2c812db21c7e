/- A set of buffers is copied: the walk. No condition but those written. -/
import Derived.Test.YtnbhejbpofjamaaGreatDoorBni
import Derived.Test.YtnbhejbpofjamaaGreatDoorBms
namespace Go.Proofs.YtnbhejbpofjamaaGreatDoor
open Go.RowKit

section
variable {W w y y' : World} {b b2 : Bb} {s s' : Bst} {tx : Nat → Bz} {k r sb : Nat} {it : Obj} {T : List Ct} {D : List (Zb × Bz)} {R X Base : Heap}
theorem CpAt.below (h : CpAt W y b2 s tx r it T Base) (hb : Below y.heap.size y y') : CpAt W y' b2 s tx r it T Base := BAt.below h hb
theorem CpAt.turn {m rest : List (Value × Value)} {mb : Nat} (h : CpAt W y b2 s tx r it T Base) (ho : Only (· = r) y y') (hg : MapRg y' mb r m rest) : ∃ it', CpAt W y' b2 s tx r it' T Base := by
  obtain ⟨es, clock, since, seen, c0, h1, h2, h3, h4, h5, h6⟩ := hg.holds
  refine ⟨.mapIter (some mb) since seen c0, BAt.reR h ?_⟩
  have h7 := (h.own.perm (List.perm_middle)).turn (b := .obj (.mapIter (some mb) since seen c0)) ho h5
  exact h7.perm List.perm_middle.symm
theorem cp_cells (h : BAt W y b2 s' X) {x : Nb} (hx : (x.g, nbA x) ∈ X) : y.cell? ⟨b2.sb, 0, none⟩ = some (.map (some b2.mb)) ∧ y.cell? ⟨x.g, 0, none⟩ = some (.pointer (some ⟨x.b, 0, none⟩)) ∧ y.cell? ⟨x.g, 1, none⟩ = some (.string x.name) := by
  have hb : Blk y x.g 77 (nbV x) := h.own.blk (List.mem_append_right _ hx)
  exact ⟨h.c0, (hb.cell 0).trans rfl, (hb.cell 1).trans rfl⟩
theorem nb_in {x : Nb} (hx : x ∈ s.all) : (x.g, nbA x) ∈ s.heap b := List.mem_cons_of_mem _ (List.mem_cons_of_mem _ (List.mem_append_left _ (List.mem_map.2 ⟨x, hx, rfl⟩)))
theorem set_size (v0 v1 v2 v3 v4 v5 v6 : Value) : (Tryz.prog.info? 72).map (·.size) = some (#[v0, v1, v2, v3, v4, v5, v6] : Array Value).size := by
  show (Tryz.prog.info? 72).map (·.size) = some 7
  kernel_rfl
/-- A fresh set: nothing in it yet. -/
theorem cp_start {ob : Nat} {cs : Array Value} {w1 w2 : World} {v2 : Value} (hcs : cs = s.cells b) (O1 : Own W w1 ((ob, .cells 72 cs) :: (s.heap b ++ (zsHeap D ++ R)))) (hs2 : IntSl w2 v2 s.order) (hf : ∀ g, v2.ownBlock = some g → w1.heap.size ≤ g) (hb : Below w1.heap.size w1 w2) :
    Own W (w2.setCell ⟨ob, 1, none⟩ v2) ((ob, .cells 72 (cs.setIfInBounds 1 v2)) :: (rowOf 3 1 v2 s.order.length (ints s.order) ++ (s.heap b ++ (zsHeap D ++ R)))) ∧
    BAt W (((w2.setCell ⟨ob, 1, none⟩ v2).alloc (.map #[] 0)).setCell ⟨ob, 0, none⟩ (.map (some (w2.setCell ⟨ob, 1, none⟩ v2).heap.size))) ⟨ob, (w2.setCell ⟨ob, 1, none⟩ v2).heap.size, v2⟩ (s.withAll (cpAll [])) (s.heap b ++ (zsHeap D ++ R)) := by
  have O2 := (O1.joinRow hb hs2 hf).perm List.perm_middle
  have O3 := O2.setCell 1 v2
  have O4 := (O3.newMap).perm (List.Perm.swap _ _ _)
  have O5 := O4.setCell 0 (.map (some (w2.setCell ⟨ob, 1, none⟩ v2).heap.size))
  refine ⟨O3, BAt.of_own ?_ hs2.rowOk⟩
  subst hcs
  refine O5.perm ?_
  show List.Perm _ ((ob, Ast.cells 72 ((s.withAll (cpAll [])).cells ⟨ob, (w2.setCell ⟨ob, 1, none⟩ v2).heap.size, v2⟩)) :: ((w2.setCell ⟨ob, 1, none⟩ v2).heap.size, .map (nbPairs (cpAll []))) :: (nbHeap (cpAll []) ++ rowOf 3 1 v2 s.order.length (ints s.order)) ++ (s.heap b ++ (zsHeap D ++ R)))
  rfl
set_option maxRecDepth 100000 in
set_option maxHeartbeats 16000000 in
theorem scopy_any (h : BAt W w b s (zsHeap D ++ R)) (hl : s.order.length ≤ 1000000) (hid : (s.all.map Nb.id).Nodup) (hD : ∀ q ∈ D, ZOk q.1 q.2) (hZ : ∀ x ∈ s.all, ∃ z, (z, tx x.b) ∈ D ∧ z.bp = x.b) :
    Calls Tryz.prog 34 #[.pointer (some ⟨b.sb, 0, none⟩)] w fun e w' => ∃ b2 r it T, e = .returned (.pointer (some ⟨b2.sb, 0, none⟩)) ∧ CpAt W w' b2 s tx r it T (s.heap b ++ (zsHeap D ++ R)) ∧ (T.map fun t : Ct => t.1).Perm s.all ∧ ∀ t ∈ T, ZOk t.2.2 (tx t.1.b) := by
  have HN := hide (bnone_any h)
  have hb := h.sb
  have hO := h.own
  obtain ⟨n, hn⟩ : ∃ n, n = s.order.length := ⟨_, rfl⟩
  obtain ⟨A, c, hov, _, _⟩ := h.sl.form
  rw [← hn] at hov
  have HNN := hide hn
  have HOV := hide hov
  obtain ⟨cs, hcs⟩ : ∃ cs, cs = s.cells b := ⟨_, rfl⟩
  have HSZ := hide (show (Tryz.prog.info? 72).map (·.size) = some cs.size from hcs ▸ set_size _ _ _ _ _ _ _)
  have HON := hide (show cs.all (·.oneCell') = true from by rw [hcs]; unfold Bst.cells; rw [hov]; simp [Value.oneCell'])
  have HHB := hide (show w.heap[b.sb]? = some (.cells cs 72 (0, 0)) from hcs ▸ hb)
  have HS7 := hide (show 7 = cs.size from hcs ▸ rfl)
  have HCS := hide hcs
  have H0 := hide (hO.newCells 72 cs)
  have HB := hide h
  have HD := hide hD
  have HZ := hide hZ
  have HID := hide hid
  have hl2 := hide hl
  have k1 : (w.alloc (.cells cs 72)).cell? ⟨b.sb, 1, none⟩ = some (.slice A n c) := by
    rw [← hov]
    exact cell_keep h.c1 (below_box w _)
  have HCL := hide (show Calls Tryz.prog 45 #[.slice A n c] (w.alloc (.cells cs 72)) (FreshI (w.alloc (.cells cs 72)) 3 n (ints s.order)) from by
    rw [← hov, hn]
    exact clone_ints _ _ _ _ ((h.sl.alloc _).rd) (ints_one _) hl)
  clear h hb hO hn hov hcs hl hD hZ hid
  go_enter Tryz.func34, Tryz.ntmps34
  go_wp2_with fail
  refine (Calls.mono HN.out) ?_
  rintro r w2 ⟨rfl, rfl⟩
  go_upto_region 4 with (first
    | (refine wpList_load_row rfl 72 (.tmp 9) rfl b.sb rfl 72 cs (0, 0) _ HHB.out Tryz.underlying72 rfl HSZ.out ?_)
    | (refine wpList_store_row rfl 72 (.tmp 3) (.tmp 10) rfl w.heap.size cs rfl rfl 72 _ (heap_alloc_new _ _) HSZ.out HS7.out HON.out ?_; rw [World.setRow_alloc_new]))
  obtain ⟨ob, hob⟩ : ∃ ob, ob = w.heap.size := ⟨_, rfl⟩
  obtain ⟨w1, hw1⟩ : ∃ q : World, q = w.alloc (.cells cs 72) := ⟨_, rfl⟩
  rw [← hob] at H0 ⊢
  rw [← hw1] at H0 k1 HCL ⊢
  simp only [Act.put]
  clear hw1 hob HN HSZ HON HHB HS7
  go_upto_region 5 with (go_at_call 45; (with_reducible refine Calls.mono HCL.out ?_); rintro r w2 ⟨v2, rfl, hs2, hf2, hb2⟩; obtain ⟨A2, c2, rfl, _, _⟩ := hs2.form; have HS2 := hide (show IntSl w2 (.slice A2 n c2) s.order from (by unfold IntSl; rw [← HNN.out]; exact hs2)); have HF2 := hide hf2; have HB2 := hide hb2; have kb := (H0.out.below hb2).blk (List.mem_cons_self ..); have k4 : w2.cell? ⟨ob, 1, none⟩ = some (.slice A n c) := ((kb.cell 1).trans (by rw [HCS.out]; show some b.ov = _; rw [HOV.out])); have k5 := kb.frozen 1; clear kb hs2 hf2 hb2)
  obtain ⟨O3, O5⟩ := cp_start HCS.out H0.out HS2.out HF2.out HB2.out
  have HL2 := hide (show Below w.heap.size w w from Below.refl _ _)
  obtain ⟨w3, hw3⟩ : ∃ q : World, q = w2.setCell ⟨ob, 1, none⟩ (.slice A2 n c2) := ⟨_, rfl⟩
  rw [← hw3] at O3 O5 ⊢
  obtain ⟨mb2, hmb2⟩ : ∃ q : Nat, q = w3.heap.size := ⟨_, rfl⟩
  obtain ⟨w4, hw4⟩ : ∃ q : World, q = (w3.alloc (.map #[] 0)).setCell ⟨ob, 0, none⟩ (.map (some mb2)) := ⟨_, rfl⟩
  rw [← hmb2, ← hw4] at O5
  have kb := (O3.newMap).blk (g := ob) (List.mem_cons_of_mem _ (List.mem_cons_self ..))
  have k6 : (w3.alloc (.map #[] 0)).cell? ⟨ob, 0, none⟩ = some (.map (some b.mb)) := (kb.cell 0).trans (by rw [HCS.out]; rfl)
  have k7 := kb.frozen 0
  have hmk := make_set
  have HO5 := hide O5
  clear kb O3 O5 hw3 HS2 HF2 HB2 H0 HCL k1 k4 k5
  go_upto_region 6 with fail
  rw [← hmb2, ← hw4]
  have hB4 : BAt W w4 b s ((Bst.heap (s.withAll (cpAll [])) ⟨ob, mb2, .slice A2 n c2⟩) ++ (zsHeap D ++ R)) := HB.out.reR (HO5.out.own.perm (List.perm_append_comm_assoc _ _ _))
  have c0 := hB4.c0
  have hmm := hB4.mb
  clear hB4 hw4 hmb2 hmk k6 k7
  go_wp2_with (refine wpList_range_r rfl _ rfl Tryz.underlying69 rfl hmm ?_; intro r w5 hr hrg hb5)
  have HC0 := hide (show ∃ it, CpAt W w5 ⟨ob, mb2, .slice A2 n c2⟩ s tx r it [] (s.heap b ++ (zsHeap D ++ R)) from by
    obtain ⟨es, clock, since, seen, c0', q1, q2, q3, q4, q5, q6⟩ := hrg.holds
    refine ⟨.mapIter (some b.mb) since seen c0', BAt.reR HO5.out ?_⟩
    have q7 := ((HO5.out.own.below hb5).join (g := r) (a := .obj (.mapIter (some b.mb) since seen c0')) (HO5.out.own.not_in (by omega)) (by have := HO5.out.own.bel.size; omega) q5)
    exact q7.perm List.perm_middle.symm)
  have HG0 := hide hrg
  clear hr hrg hb5 c0 hmm HO5
  simp only [Act.put, List.setIfInBounds_toArray, List.set_cons_succ, List.set_cons_zero]
  go_loopw [] (fun wr => ∃ T L it, CpAt W wr ⟨ob, mb2, .slice A2 n c2⟩ s tx r it T (s.heap b ++ (zsHeap D ++ R)) ∧ MapRg wr b.mb r (nbPairs s.all) (L.map nbP) ∧ ((T.map fun t : Ct => t.1) ++ L).Perm s.all ∧ ∀ t ∈ T, ZOk t.2.2 (tx t.1.b)) (fun wr => wr.rangeLeft b.mb r)
  case atStart =>
    obtain ⟨it, h0⟩ := HC0.out
    exact ⟨[], s.all, it, h0, HG0.out, List.Perm.refl _, fun t ht => by cases ht⟩
  case round =>
    obtain ⟨T, L, it, hc, hg, hp, hT⟩ := hrel
    have HC := hide hc
    have HG := hide hg
    have HP := hide hp
    have HT := hide hT
    have hleft := hg.left
    clear hc hg hp hT
    rcases HG.out.next_r (P := Tryz.prog) nbP L 0 with ⟨hE, hrun⟩ | ⟨x, w6, hMx, hrun, hen⟩
    · clear hleft
      go_wp2
      go_ret
      refine ⟨_, r, it, T, rfl, HC.out, ?_, HT.out⟩
      have h9 := HP.out
      rwa [hE.out, List.append_nil] at h9
    · simp only [nbP] at hrun hen
      have HX := hide (show ∃ (L' : List Nb) (it' : Obj), CpAt W w6 ⟨ob, mb2, .slice A2 n c2⟩ s tx r it' T (s.heap b ++ (zsHeap D ++ R)) ∧ MapRg w6 b.mb r (nbPairs s.all) (L'.map nbP) ∧ L'.length + 1 = L.length ∧ ((T.map fun t : Ct => t.1) ++ [x] ++ L').Perm s.all from by
        obtain ⟨A', B', e, h1, h2⟩ := hMx.out
        obtain ⟨it', h3⟩ := HC.out.turn h2 h1
        refine ⟨A' ++ B', it', h3, h1, by rw [e]; simp; omega, ?_⟩
        refine List.Perm.trans ?_ HP.out
        rw [e, List.append_assoc]
        exact List.Perm.append_left _ (show (x :: (A' ++ B')).Perm (A' ++ x :: B') from List.perm_middle.symm))
      obtain ⟨L', it', x1, x2, x3, x4⟩ := HX.out
      have X1 := hide x1
      have X2 := hide x2
      have X3 := hide x3
      have X4 := hide x4
      have hxm : x ∈ s.all := x4.mem_iff.1 (by simp)
      have HXM := hide hxm
      have HFR := hide (show ∀ t ∈ T, t.1.id ≠ x.id from by
        intro t ht e
        have h9 := (x4.map Nb.id).nodup_iff.2 HID.out
        rw [List.append_assoc, List.map_append, List.nodup_append] at h9
        exact h9.2.2 t.1.id (List.mem_map.2 ⟨t.1, List.mem_map.2 ⟨t, ht, rfl⟩, rfl⟩) x.id (by simp) e)
      obtain ⟨z, hzD, hzb⟩ := HZ.out x hxm
      have HZK := hide (HD.out _ hzD)
      have HCALL := hide (fun (q : World) (hq : Below w6.heap.size w6 q) => (show Calls Tryz.prog 65 #[.pointer (some ⟨x.b, 0, none⟩)] q fun e w' => ∃ z2 : Zb, e = .returned (.pointer (some ⟨z2.bp, 0, none⟩)) ∧ BAt W w' ⟨ob, mb2, .slice A2 n c2⟩ (s.withAll (cpAll T)) ((r, .obj it') :: (zHeap z2 (tx x.b) ++ (zsHeap (cpD tx T) ++ (s.heap b ++ (zsHeap D ++ R))))) ∧ ZOk z2 (tx x.b) ∧ Below q.heap.size q w' from by
        have h9 := cp_call (X1.out.below hq) hzD HZK.out
        rwa [hzb] at h9))
      have HGET := hide (fun (q : World) (s' : Bst) (X : Heap) (hq : BAt W q ⟨ob, mb2, .slice A2 n c2⟩ s' X) (hx : (x.g, nbA x) ∈ X) => (show q.cell? ⟨ob, 0, none⟩ = some (.map (some mb2)) ∧ q.cell? ⟨x.g, 0, none⟩ = some (.pointer (some ⟨x.b, 0, none⟩)) ∧ q.cell? ⟨x.g, 1, none⟩ = some (.string x.name) from cp_cells hq hx))
      have HIN := hide (fun (Y Z : Heap) => (show (x.g, nbA x) ∈ (r, Ast.obj it') :: (Y ++ (Z ++ (s.heap b ++ (zsHeap D ++ R)))) from List.mem_cons_of_mem _ (List.mem_append_right _ (List.mem_append_right _ (List.mem_append_left _ (nb_in HXM.out))))))
      have HIN2 := hide (fun (it2 : Obj) (Z : Heap) => (show (x.g, nbA x) ∈ (r, Ast.obj it2) :: (Z ++ (s.heap b ++ (zsHeap D ++ R))) from List.mem_cons_of_mem _ (List.mem_append_right _ (List.mem_append_left _ (nb_in HXM.out)))))
      have B0 := hide (show Below w6.heap.size w6 w6.drew from (Below.refl _ _).drew)
      have G0 := hide (HGET.out _ _ _ (X1.out.below B0.out) (HIN2.out _ _))
      obtain ⟨c0, c1, c2'⟩ := HGET.out _ _ _ X1.out (HIN2.out _ _)
      clear x1 x2 x3 x4 HX hMx hxm hzD hzb HC HG
      have HLF := hide hleft
      clear hleft
      go_upto_region 9 with fail
      go_region_held3 (fun q => q.cell? ⟨ob, 0, none⟩ = some (.map (some mb2)) ∧ q.cell? ⟨x.g, 0, none⟩ = some (.pointer (some ⟨x.b, 0, none⟩)) ∧ q.cell? ⟨x.g, 1, none⟩ = some (.string x.name))
        (first | with_reducible exact G0.out | with_reducible exact G1.out | with_reducible exact G2.out | with_reducible exact G3.out)
        ((go_at_call 65; (with_reducible refine Calls.mono (HCALL.out _ B0.out) ?_); rintro e7 w7 ⟨z2, rfl, h7, k7, m7⟩; have K7 := hide k7; have G1 := hide (HGET.out _ _ _ h7 (HIN.out _ _)); obtain ⟨w8, hru, h8, g8, o8⟩ := cp_add h7 (X2.out.below (B0.out.trans (m7.mono B0.out.size))) HFR.out; have H8 := hide h8; have GG8 := hide g8; have G2 := hide (And.intro (cell_keep G1.out.1 (below_box w7 (.cells #[.pointer (some ⟨z2.bp, 0, none⟩), .string x.name] 77))) (And.intro (cell_keep G1.out.2.1 (below_box w7 (.cells #[.pointer (some ⟨z2.bp, 0, none⟩), .string x.name] 77))) (cell_keep G1.out.2.2 (below_box w7 (.cells #[.pointer (some ⟨z2.bp, 0, none⟩), .string x.name] 77))))); have G3 := hide (HGET.out _ _ _ h8 (HIN2.out _ _)); clear h7 k7 m7 h8 g8 o8))
      go_wp2
      go_roundw
      case rel => 
        refine ⟨T ++ [(x, w7.heap.size, z2)], L', it', H8.out, GG8.out, ?_, ?_⟩
        · rw [List.map_append]
          exact X4.out
        · intro t ht
          rcases List.mem_append.1 ht with ht | ht
          · exact HT.out t ht
          · obtain rfl := List.mem_singleton.1 ht
            exact K7.out
      case measure =>
        have h1 := GG8.out.left
        rw [h1, HLF.out]
        simp only [List.length_map]
        have := X3.out
        omega
end
end Go.Proofs.YtnbhejbpofjamaaGreatDoor
namespace Go.Proofs.YtnbhejbpofjamaaGreatDoor
open Go.RowKit

theorem ktake_snoc {l : List Nat} {j i : Nat} (h : l[j]? = some i) : l.take (j + 1) = l.take j ++ [i] := by
  rw [List.take_add_one, h]
  rfl
def flt (F : List Nat) (i : Int) : List Nat := F.filter fun y : Nat => decide ((y : Int) ≠ i)
theorem flt_snoc {F : List Nat} {j f : Nat} (i : Int) (h : F[j]? = some f) : flt (F.take (j + 1)) i = if (f : Int) ≠ i then flt (F.take j) i ++ [f] else flt (F.take j) i := by
  unfold flt
  rw [ktake_snoc h, List.filter_append]
  by_cases e : (f : Int) = i
  · rw [if_neg (by simpa using e)]
    simp [e]
  · rw [if_pos e]
    simp [e]
theorem flt_len (F : List Nat) (j : Nat) (i : Int) : (flt (F.take j) i).length ≤ j := Nat.le_trans (List.length_filter_le _ _) (List.length_take_le _ _)
theorem flt_erase {F : List Nat} (h : F.Nodup) (i : Nat) : flt F (i : Int) = F.erase i := filter_erase h i
theorem delB_fnd : ∀ {l : List Nb}, (l.map Nb.id).Nodup → ∀ k i : Int, fndB (delB l k) i = if i = k then none else fndB l i
  | [], _, k, i => by simp [delB, fndB]
  | e :: l, hn, k, i => by
    rw [List.map_cons, List.nodup_cons] at hn
    by_cases hk : k = (e.id : Int)
    · have h1 : delB (e :: l) k = l := by unfold delB; rw [List.eraseP_cons, hk]; simp
      rw [h1]
      split
      · rename_i hi
        unfold fndB
        rw [List.find?_eq_none]
        intro x hx
        simp only [beq_iff_eq]
        intro e2
        exact hn.1 (List.mem_map.2 ⟨x, hx, by omega⟩)
      · rename_i hi
        unfold fndB
        rw [List.find?_cons, show (i == (e.id : Int)) = false by simp; omega]
    · have h1 : delB (e :: l) k = e :: delB l k := by unfold delB; rw [List.eraseP_cons, show (k == (e.id : Int)) = false by simpa using hk]; rfl
      have ih := delB_fnd hn.2 k i
      rw [h1]
      unfold fndB at ih ⊢
      rw [List.find?_cons, List.find?_cons]
      by_cases hi : i = (e.id : Int)
      · rw [show (i == (e.id : Int)) = true by simpa using hi, if_neg (by omega)]
      · rw [show (i == (e.id : Int)) = false by simpa using hi]
        exact ih
theorem kil_self {s : Bst} (ok : s.Ok) (j : Nat) : fndB (kilS s j).all (j : Int) = none := by
  show fndB (delB s.all (j : Int)) (j : Int) = none
  rw [delB_fnd ok.nod, if_pos rfl]
theorem kil_other {s : Bst} (ok : s.Ok) {j : Nat} {i : Int} (h : i ≠ (j : Int)) : fndB (kilS s j).all i = fndB s.all i := by
  show fndB (delB s.all (j : Int)) i = _
  rw [delB_fnd ok.nod, if_neg h]
theorem kil_name {s : Bst} (ok : s.Ok) (hn : (s.all.map Nb.name).Nodup) {x : Nb} (hx : x ∈ s.all) : findR (kilS s x.id) x.name = .tuple #[.int .i64 0, .bool false] := by
  unfold findR
  rw [List.find?_eq_none.2 fun y hy => ?_]
  simp only [decide_eq_true_eq]
  intro e
  have hy2 : y ∈ s.all := (delB_sub s.all _).subset hy
  have h1 := find_nodup Nb.name hn x hx
  have h2 := find_nodup Nb.name hn y hy2
  rw [e, h1] at h2
  obtain rfl := Option.some.inj h2
  exact fndB_none (kil_self ok x.id) x hy rfl
theorem kil_len {s : Bst} (ok : s.Ok) {x : Nb} (hx : x ∈ s.all) : (kilS s x.id).all.length + 1 = s.order.length := by
  rw [← (ok.kilS x.id).len]
  show (s.order.erase x.id).length + 1 = _
  have hm : x.id ∈ s.order := (ok.mem _).2 (List.mem_map.2 ⟨x, hx, rfl⟩)
  rw [List.length_erase_of_mem hm]
  have := List.length_pos_of_mem hm
  omega
theorem kil_cur {s : Bst} {j : Nat} {h : Nat} {t : List Nat} (e : s.cur = j) (he : s.order.erase j = h :: t) : (kilS s j).cur = h := by
  show (if s.cur = j then (s.order.erase j).headD 0 else s.cur) = h
  rw [if_pos e, he]
  rfl
theorem kil_cur2 {s : Bst} {j : Nat} (e : s.cur ≠ j) : (kilS s j).cur = s.cur := if_neg e
theorem LZ.copy {W w : World} {sb : Nat} {s : Bst} {tx : Nat → Bz} {k : Nat} {R : Heap} (h : LZ W w sb s tx k R) (hk : k ≤ 900) : Calls Tryz.prog 34 #[.pointer (some ⟨sb, 0, none⟩)] w fun e w' =>
    ∃ ob s2 tx2 H2, e = .returned (.pointer (some ⟨ob, 0, none⟩)) ∧ SetH ob s2 tx2 k H2 ∧ LZ W w' sb s tx k (H2 ++ R) ∧ CopyOf s tx s2 tx2 := by
  have hl := h.len
  have hz := h
  obtain ⟨D, ⟨b, rfl, h1⟩, hD, hZ⟩ := h.at_
  refine (scopy_any h1 (by omega) hz.ok.nod hD hZ).mono ?_
  rintro e w' ⟨b2, r, it, T, rfl, h2, h3, h4⟩
  obtain ⟨s2, tx2, H2, h5, h6, h7⟩ := cp_done h2 h3 h4 hz
  refine ⟨b2.sb, s2, tx2, H2, rfl, h5, ⟨⟨D, ⟨b, rfl, h1.reR (h6.perm ?_)⟩, hD, hZ⟩, hz.ok, hz.bn, hz.nn, hz.nv, hz.nz, hz.nx, hz.tk, hz.cu⟩, h7⟩
  classical
  rw [List.perm_iff_count]
  intro x
  simp only [List.count_append]
  omega
/-- The forms of what Name returns. -/
theorem nameR_form (s : Bst) (i : Int) : (fndB s.all i = none ∧ nameR s i = .tuple #[.string ⟨#[]⟩, .bool false] ∧ getR s i = .pointer none) ∨ ∃ x, fndB s.all i = some x ∧ nameR s i = .tuple #[.string x.name, .bool true] ∧ getR s i = .pointer (some ⟨x.b, 0, none⟩) := by
  unfold nameR getR
  cases h : fndB s.all i with
  | none => exact .inl ⟨rfl, rfl, rfl⟩
  | some x => exact .inr ⟨x, rfl, rfl, rfl⟩
end Go.Proofs.YtnbhejbpofjamaaGreatDoor
