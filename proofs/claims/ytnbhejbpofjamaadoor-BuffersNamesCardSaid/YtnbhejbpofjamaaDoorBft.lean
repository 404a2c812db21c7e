/- A set of buffers: Name, Get, Rename, Bury. No condition but those written. -/
import Derived.Test.YtnbhejbpofjamaaDoorBfm
namespace Go.Proofs.YtnbhejbpofjamaaDoor
open Go.RowKit

def nameR (s : Bst) (k : Int) : Value := match fndB s.all k with
  | some x => .tuple #[.string x.name, .bool true]
  | none => .tuple #[.string ⟨#[]⟩, .bool false]
def getR (s : Bst) (k : Int) : Value := match fndB s.all k with
  | some x => .pointer (some ⟨x.b, 0, none⟩)
  | none => .pointer none
def useN (l : List Nb) (n : ByteArray) (k : Int) : Bool := l.any fun x => decide (x.name = n ∧ (x.id : Int) ≠ k)
def renE (s : Bst) (k : Int) (n : ByteArray) : Int := if knownE s.all k ≠ 0 then knownE s.all k else if chkE n ≠ 0 then chkE n else if useN s.all n k = true then 17 else 0
def renS (s : Bst) (k : Int) (n : ByteArray) : Bst := { s with all := s.all.map fun x => if (x.id : Int) = k then { x with name := n } else x }
section
variable {W w w' : World} {b : Bb} {s : Bst} {R : Heap}
set_option maxRecDepth 100000 in
theorem name_any (h : BAt W w b s R) (k : Int) : Calls Tryd.prog 12 #[.pointer (some ⟨b.sb, 0, none⟩), .int .i64 k] w fun e w' => e = .returned (nameR s k) ∧ w = w' := by
  have c0 := h.c0
  have HK := hide (known_any h k)
  have hl := (h.mb).lookup (P := Tryd.prog) (nb_keys s.all) Tryd.underlying43 Tryd.underlying3 (.int _ k) (zero_named w) false
  rw [nb_get] at hl
  cases he : fndB s.all k with
  | some x =>
    have c1 : w.cell? ⟨x.g, 1, none⟩ = some (.string x.name) := ((h.nb (fndB_mem he).1).cell 1).trans rfl
    have HE := hide (show nameR s k = .tuple #[.string x.name, .bool true] by unfold nameR; rw [he])
    rw [show knownE s.all k = 0 by unfold knownE; rw [he]; rfl] at HK
    rw [he] at hl
    simp only [Option.map_some, Option.getD_some, Bool.false_eq_true, if_false] at hl
    clear he h
    go_enter Tryd.func12, Tryd.ntmps12
    go_wp2_with (go_at_call 28; refine (Calls.mono HK.out) ?_; rintro e w' ⟨rfl, rfl⟩)
    go_ret2
    exact ⟨by rw [HE.out]; rfl, rfl⟩
  | none =>
    have HE := hide (show nameR s k = .tuple #[.string ⟨#[]⟩, .bool false] by unfold nameR; rw [he])
    rw [show knownE s.all k = 8 by unfold knownE; rw [he]; rfl] at HK
    clear he h hl
    go_enter Tryd.func12, Tryd.ntmps12
    go_wp2_with (go_at_call 28; refine (Calls.mono HK.out) ?_; rintro e w' ⟨rfl, rfl⟩)
    go_ret2
    exact ⟨by rw [HE.out]; rfl, rfl⟩
set_option maxRecDepth 100000 in
theorem get_any (h : BAt W w b s R) (k : Int) : Calls Tryd.prog 15 #[.pointer (some ⟨b.sb, 0, none⟩), .int .i64 k] w fun e w' => e = .returned (getR s k) ∧ w = w' := by
  have c0 := h.c0
  have HK := hide (known_any h k)
  have hl := (h.mb).lookup (P := Tryd.prog) (nb_keys s.all) Tryd.underlying43 Tryd.underlying3 (.int _ k) (zero_named w) false
  rw [nb_get] at hl
  cases he : fndB s.all k with
  | some x =>
    have c1 : w.cell? ⟨x.g, 0, none⟩ = some (.pointer (some ⟨x.b, 0, none⟩)) := ((h.nb (fndB_mem he).1).cell 0).trans rfl
    have HE := hide (show getR s k = .pointer (some ⟨x.b, 0, none⟩) by unfold getR; rw [he])
    rw [show knownE s.all k = 0 by unfold knownE; rw [he]; rfl] at HK
    rw [he] at hl
    simp only [Option.map_some, Option.getD_some, Bool.false_eq_true, if_false] at hl
    clear he h
    go_enter Tryd.func15, Tryd.ntmps15
    go_wp2_with (go_at_call 28; refine (Calls.mono HK.out) ?_; rintro e w' ⟨rfl, rfl⟩)
    go_ret
    exact ⟨by rw [HE.out]; rfl, rfl⟩
  | none =>
    have HE := hide (show getR s k = .pointer none by unfold getR; rw [he])
    rw [show knownE s.all k = 8 by unfold knownE; rw [he]; rfl] at HK
    clear he h hl
    go_enter Tryd.func15, Tryd.ntmps15
    go_wp2_with (go_at_call 28; refine (Calls.mono HK.out) ?_; rintro e w' ⟨rfl, rfl⟩)
    go_ret
    exact ⟨by rw [HE.out]; rfl, rfl⟩
theorem renS_split {s : Bst} {l1 l2 : List Nb} {x : Nb} (hs : s.all = l1 ++ x :: l2) (hn : (s.all.map Nb.id).Nodup) (n : ByteArray) : (renS s (x.id : Int) n).all = l1 ++ { x with name := n } :: l2 := by
  rw [hs, List.map_append, List.map_cons, List.nodup_append] at hn
  obtain ⟨_, h2, h3⟩ := hn
  rw [List.nodup_cons] at h2
  show s.all.map _ = _
  rw [hs, List.map_append, List.map_cons, if_pos rfl]
  congr 1
  · refine (List.map_congr_left fun y hy => ?_).trans (List.map_id l1)
    have : y.id ≠ x.id := h3 _ (List.mem_map.2 ⟨y, hy, rfl⟩) _ (List.mem_cons_self ..)
    rw [if_neg (by omega)]
    rfl
  · congr 1
    refine (List.map_congr_left fun y hy => ?_).trans (List.map_id l2)
    have : y.id ≠ x.id := fun e => h2.1 (List.mem_map.2 ⟨y, hy, e⟩)
    rw [if_neg (by omega)]
    rfl
theorem BAt.rename (h : BAt W w b s R) {x : Nb} (hx : x ∈ s.all) (hn : (s.all.map Nb.id).Nodup) (n : ByteArray) : BAt W (w.setCell ⟨x.g, 1, none⟩ (.string n)) b (renS s (x.id : Int) n) R := by
  obtain ⟨l1, l2, hs⟩ := List.append_of_mem hx
  have hm : (x.g, nbA x) ∈ s.heap b ++ R := List.mem_append_left _ (List.mem_cons_of_mem _ (List.mem_cons_of_mem _ (List.mem_append_left _ (List.mem_map.2 ⟨x, hx, rfl⟩))))
  have h1 := Own.putCell h.own hm 1 (.string n)
  have hr := renS_split hs hn n
  have e0 : s.heap b ++ R = ((b.sb, .cells 46 (s.cells b)) :: (b.mb, .map (nbPairs s.all)) :: nbHeap l1) ++ (x.g, nbA x) :: (nbHeap l2 ++ (ordRow b s ++ R)) := by
    unfold Bst.heap
    rw [show nbHeap s.all = nbHeap l1 ++ (x.g, nbA x) :: nbHeap l2 by rw [hs]; simp [nbHeap]]
    simp [List.append_assoc]
  have hnod := h.own.nod
  rw [e0] at hnod h1
  have a1 : x.g ∉ Heap.blocks ((b.sb, Ast.cells 46 (s.cells b)) :: (b.mb, .map (nbPairs s.all)) :: nbHeap l1) := nodup_sep' hnod (by simp [Heap.blocks])
  have a2 : x.g ∉ Heap.blocks (nbHeap l2 ++ (ordRow b s ++ R)) := by
    rw [Heap.blocks_append, Heap.blocks_cons, List.nodup_append] at hnod
    exact (List.nodup_cons.1 hnod.2.1).1
  rw [Heap.put_append, Heap.put_absent _ a1, Heap.put_hit, Heap.put_absent _ a2] at h1
  have e1 : (renS s (x.id : Int) n).heap b ++ R = ((b.sb, .cells 46 (s.cells b)) :: (b.mb, .map (nbPairs s.all)) :: nbHeap l1) ++ (x.g, nbA { x with name := n }) :: (nbHeap l2 ++ (ordRow b s ++ R)) := by
    show (b.sb, Ast.cells 46 (s.cells b)) :: (b.mb, .map (nbPairs (renS s (x.id : Int) n).all)) :: (nbHeap (renS s (x.id : Int) n).all ++ ordRow b s) ++ R = _
    rw [hr, show nbPairs (l1 ++ { x with name := n } :: l2) = nbPairs s.all by rw [hs]; simp [nbPairs], show nbHeap (l1 ++ { x with name := n } :: l2) = nbHeap l1 ++ (x.g, nbA { x with name := n }) :: nbHeap l2 by simp [nbHeap]]
    simp [List.append_assoc]
  refine ⟨by rw [e1]; exact h1, ?_⟩
  exact h.sl.far (p := ⟨x.g, 1, none⟩) (h.sl.ne_blk (h.nb hx) (by decide)) _
/-- What Rename leaves. -/
def Rened (W : World) (sb : Nat) (s : Bst) (k : Int) (n : ByteArray) (R : Heap) (e : Ending) (w' : World) : Prop := e = .returned (.int .i64 (renE s k n)) ∧ SAt W w' sb (if renE s k n = 0 then renS s k n else s) R
theorem Rened.good {sb : Nat} {k : Int} {n : ByteArray} (he : renE s k n = 0) (h : SAt W w' sb (renS s k n) R) : Rened W sb s k n R (.returned (.int .i64 0)) w' := ⟨by rw [he], by rw [if_pos he]; exact h⟩
theorem Rened.bad {sb : Nat} {k : Int} {n : ByteArray} {e0 : Int} (he : renE s k n = e0) (h0 : e0 ≠ 0) (h : SAt W w' sb s R) : Rened W sb s k n R (.returned (.int .i64 e0)) w' := ⟨by rw [he], by rw [if_neg (by rw [he]; exact h0)]; exact h⟩
set_option maxRecDepth 100000 in
set_option maxHeartbeats 2000000 in
theorem rename_any (h : BAt W w b s R) (hT : Tabs w) (ok : s.Ok) (hu : (s.all.map Nb.name).Nodup) (k : Int) (n : ByteArray) (hs : n.size < 9223372036854775807) :
    Calls Tryd.prog 14 #[.pointer (some ⟨b.sb, 0, none⟩), .int .i64 k, .string n] w (Rened W b.sb s k n R) := by
  have HK := hide (known_any h k)
  have HC := hide (chk_any n w hT hs)
  obtain ⟨ce, hce⟩ : ∃ ce, ce = chkE n := ⟨_, rfl⟩
  rw [← hce] at HC
  have HCE := hide hce
  have H := hide h
  have HOK := hide ok
  have HU := hide hu
  rcases known_split s k with he | he
  · rw [he] at HK
    have HKE := hide he
    obtain ⟨j, rfl, hj, x, hfx, hx, hxj⟩ := known_nat ok he
    have HX := hide hx
    have HXJ := hide hxj
    have HFX := hide hfx
    by_cases h0 : ce = 0
    · have y0 : (ce != 0) = false := by simp [h0]
      have H0 := hide h0
      clear h hT ok hu hs hce he hfx hx hxj hj h0
      go_enter Tryd.func14, Tryd.ntmps14
      go_wp2_with (first | (go_at_call 28; refine (Calls.mono HK.out) ?_; rintro e w' ⟨rfl, rfl⟩) | (go_at_call 25; refine (Calls.mono HC.out) ?_; rintro e w1 ⟨rfl, b1⟩))
      have H1 := hide (H.out.below b1)
      clear b1
      refine (Calls.mono (find_any H1.out n)) ?_
      rintro e w2 ⟨b2, hr⟩
      have H2 := hide (H1.out.below b2)
      clear b2
      have c0 := H2.out.c0
      have hl := (H2.out.mb).lookup (P := Tryd.prog) (nb_keys s.all) Tryd.underlying43 Tryd.underlying3 (.int _ (j : Int)) (zero_named w2) false
      rw [nb_get, HFX.out] at hl
      simp only [Option.map_some, Option.getD_some, Bool.false_eq_true, if_false] at hl
      have f1 := (H2.out.nb HX.out).frozen 1
      have c1 : w2.cell? ⟨x.g, 1, none⟩ = some (.string x.name) := ((H2.out.nb HX.out).cell 1).trans rfl
      have HS := hide (H2.out.rename HX.out HOK.out.nod n)
      rw [HXJ.out] at HS
      rcases hr with ⟨rfl, hr⟩ | ⟨y, hy, hyn, rfl⟩
      · have HE := hide (show renE s (j : Int) n = 0 by
          unfold renE
          rw [if_neg (by rw [HKE.out]; simp), if_neg (by rw [← HCE.out, H0.out]; simp), if_neg]
          unfold useN
          simp
          intro z hz e
          exact absurd e (hr z hz))
        clear hr
        go_wp2_with fail
        go_ret
        exact Rened.good HE.out ⟨b, rfl, HS.out⟩
      · by_cases hyj : y.id = j
        · have HE := hide (show renE s (j : Int) n = 0 by
            unfold renE
            rw [if_neg (by rw [HKE.out]; simp), if_neg (by rw [← HCE.out, H0.out]; simp), if_neg]
            unfold useN
            simp
            intro z hz e
            obtain ⟨l1, l2, hsp⟩ := List.append_of_mem hy
            have hnn := HU.out
            rw [hsp, List.map_append, List.map_cons, List.nodup_append] at hnn
            obtain ⟨_, q2, q3⟩ := hnn
            rw [List.nodup_cons] at q2
            rw [hsp, List.mem_append, List.mem_cons] at hz
            rcases hz with hz | rfl | hz
            · exact absurd (e.trans hyn.symm) (q3 _ (List.mem_map.2 ⟨z, hz, rfl⟩) _ (List.mem_cons_self ..))
            · omega
            · exact absurd (List.mem_map.2 ⟨z, hz, e.trans hyn.symm⟩) q2.1)
          have y1 : ((y.id : Int) != (j : Int)) = false := by simp [hyj]
          clear hy hyn hyj
          go_wp2_with fail
          go_ret
          exact Rened.good HE.out ⟨b, rfl, HS.out⟩
        · have HE := hide (show renE s (j : Int) n = 17 by
            unfold renE
            rw [if_neg (by rw [HKE.out]; simp), if_neg (by rw [← HCE.out, H0.out]; simp), if_pos]
            unfold useN
            rw [List.any_eq_true]
            exact ⟨y, hy, by simpa using ⟨hyn, by omega⟩⟩)
          have y1 : ((y.id : Int) != (j : Int)) = true := by simp; omega
          clear hy hyn hyj
          go_wp2_with fail
          go_ret
          exact Rened.bad HE.out (by decide) ⟨b, rfl, H2.out⟩
    · have y0 : (ce != 0) = true := by simp [h0]
      have HE := hide (show renE s (j : Int) n = ce by
        unfold renE
        rw [if_neg (by rw [HKE.out]; simp), if_pos (by rw [← HCE.out]; exact h0), HCE.out])
      have H0 := hide h0
      clear h hT ok hu hs hce he hfx hx hxj hj h0
      go_enter Tryd.func14, Tryd.ntmps14
      go_wp2_with (first | (go_at_call 28; refine (Calls.mono HK.out) ?_; rintro e w' ⟨rfl, rfl⟩) | (go_at_call 25; refine (Calls.mono HC.out) ?_; rintro e w1 ⟨rfl, b1⟩))
      go_ret
      exact Rened.bad HE.out H0.out ⟨b, rfl, H.out.below b1⟩
  · rw [he] at HK
    have HE := hide (show renE s k n = 8 by unfold renE; rw [he, if_pos (by decide)])
    clear h hT ok hu hs hce he
    go_enter Tryd.func14, Tryd.ntmps14
    go_wp2_with (go_at_call 28; refine (Calls.mono HK.out) ?_; rintro e w' ⟨rfl, rfl⟩)
    go_ret
    exact Rened.bad HE.out (by decide) ⟨b, rfl, H.out⟩
end
end Go.Proofs.YtnbhejbpofjamaaDoor
