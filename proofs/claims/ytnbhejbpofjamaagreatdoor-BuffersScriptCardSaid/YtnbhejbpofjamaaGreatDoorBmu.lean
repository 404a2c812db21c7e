/- A set of buffers: Other. No condition but those written. -/
import Derived.Test.YtnbhejbpofjamaaGreatDoorBmk
namespace Go.Proofs.YtnbhejbpofjamaaGreatDoor
open Go.RowKit

/-- Where the first number lies that is not c. -/
def FirstNe (l : List Nat) (c : Nat) (i : Int) : Prop := (i = -1 ∧ ∀ y ∈ l, y = c) ∨ ∃ (k : Nat) (x : Nat), i = (k : Int) ∧ l[k]? = some x ∧ x ≠ c ∧ ∀ y ∈ l.take k, y = c
def othS (s : Bst) : Nat := (s.order.find? fun k => decide (k ≠ s.cur)).getD s.cur
theorem othS_miss {s : Bst} (h : ∀ y ∈ s.order, y = s.cur) : othS s = s.cur := by
  unfold othS
  rw [List.find?_eq_none.2 (fun x hx => by simp [h x hx])]
  rfl
theorem othS_hit {s : Bst} {k x : Nat} (h : s.order[k]? = some x) (hx : x ≠ s.cur) (h1 : ∀ y ∈ s.order.take k, y = s.cur) : othS s = x := by
  have e : s.order = s.order.take k ++ x :: s.order.drop (k + 1) := by
    obtain ⟨h2, h3⟩ := List.getElem?_eq_some_iff.1 h
    conv => lhs; rw [← List.take_append_drop k s.order]
    rw [List.drop_eq_getElem_cons h2, h3]
  unfold othS
  rw [e, List.find?_append, List.find?_eq_none.2 (fun y hy => by simp [h1 y hy])]
  simp [hx]
section
variable {W w w' : World} {b : Bb} {s : Bst} {R : Heap}
theorem other1_any (x cu pb sb : Nat) (w : World) (h0 : w.cell? ⟨pb, 0, none⟩ = some (.pointer (some ⟨sb, 0, none⟩))) (h2 : w.cell? ⟨sb, 2, none⟩ = some (.int .i64 (cu : Int))) :
    Calls Tryz.prog 58 #[.int .i64 (x : Int), .pointer (some ⟨pb, 0, none⟩)] w fun e w' => e = .returned (.bool (decide (x ≠ cu))) ∧ Below w.heap.size w w' := by
  by_cases hx : x = cu
  · have z1 : ((x : Int) != (cu : Int)) = false := by simp [hx]
    go_enter Tryz.func58, Tryz.ntmps58
    go_wp2
    go_ret
    exact ⟨ret_bool (by simp [hx]), Below.refl _ _⟩
  · have z1 : ((x : Int) != (cu : Int)) = true := by simp; omega
    go_enter Tryz.func58, Tryz.ntmps58
    go_wp2
    go_ret
    exact ⟨ret_bool (by simp [hx]), Below.refl _ _⟩
set_option maxRecDepth 100000 in
set_option maxHeartbeats 4000000 in
theorem idxf_any (l : List Nat) (v : Value) (w : World) (cu pb sb : Nat) (h : IntSl w v l) (h0 : w.cell? ⟨pb, 0, none⟩ = some (.pointer (some ⟨sb, 0, none⟩))) (h2 : w.cell? ⟨sb, 2, none⟩ = some (.int .i64 (cu : Int))) (hl : l.length ≤ 1000000) :
    Calls Tryz.prog 57 #[v, .func (.func 58) #[] #[.pointer (some ⟨pb, 0, none⟩)]] w fun e w' => ∃ i : Int, e = .returned (.int .i64 i) ∧ FirstNe l cu i ∧ Below w.heap.size w w' := by
  obtain ⟨A, c, rfl, hx1⟩ := Sl.form h
  clear hx1
  obtain ⟨N, hn0⟩ : ∃ N, N = l.length := ⟨_, rfl⟩
  have H := hide (show Rd w (.slice A l.length c) 1 l.length (ints l) from Sl.rd h)
  rw [← hn0] at H ⊢
  have hl2 : (N : Int) ≤ 1000000 := by omega
  have HN0 := hide hn0
  have HH0 := hide h0
  have HH2 := hide h2
  clear h hn0 hl h0 h2
  go_enter Tryz.func57, Tryz.ntmps57
  go_wp2
  go_loopw [8] (fun iv wr => ∃ i : Nat, iv = .int .i64 (i : Int) ∧ i ≤ N ∧ (∀ y ∈ l.take i, y = cu) ∧ Below w.heap.size w wr) (fun iv _ => N - (intOf iv).toNat)
  case atStart => exact ⟨0, rfl, Nat.zero_le _, by simp, Below.refl _ _⟩
  case round =>
    obtain ⟨i, rfl, hin, ha, hb⟩ := hrel
    have HA := hide ha
    have HI := hide hin
    have HB := hide hb
    by_cases hij : i < N
    · have z1 : decide ((i : Int) < (N : Int)) = true := by simp; omega
      have z2 : (i : Int) < (N : Int) := by omega
      have z3 : decide (i < N) = true := by simpa using hij
      obtain ⟨x, hx⟩ : ∃ x, l[i]? = some x := ⟨_, List.getElem?_eq_getElem (by rw [← HN0.out]; omega)⟩
      obtain ⟨g, off, rfl, hc⟩ := rd_cells H.out (by omega)
      have c0 := hc wr hb i _ (ints_at hx)
      have HX := hide hx
      have HLT := hide hij
      have HC := hide (other1_any x cu pb sb wr (cell_keep HH0.out hb) (cell_keep HH2.out hb))
      clear hin ha hb hij hx hc
      by_cases he : x = cu
      · rw [decide_eq_false (by simpa using he)] at HC
        have HE := hide he
        clear he
        go_wp2_with (go_at_call 58; (with_reducible refine Calls.mono HC.out ?_); rintro r w2 ⟨rfl, hb2⟩; have HB2 := hide (HB.out.trans (hb2.mono HB.out.size)); clear hb2)
        go_roundw
        case rel => exact ⟨i + 1, by go_num, HLT.out, fun y hy => by
          rw [List.take_add_one, HX.out] at hy
          rcases List.mem_append.1 hy with hy | hy
          · exact HA.out y hy
          · have : y = x := by simpa using hy
            exact this ▸ HE.out, HB2.out⟩
        case measure => have := HLT.out; simp [intOf]; omega
      · rw [decide_eq_true (by simpa using he)] at HC
        have HE := hide he
        clear he
        go_wp2_with (go_at_call 58; (with_reducible refine Calls.mono HC.out ?_); rintro r w2 ⟨rfl, hb2⟩; have HB2 := hide (HB.out.trans (hb2.mono HB.out.size)); clear hb2)
        go_ret
        exact ⟨_, rfl, .inr ⟨i, x, rfl, HX.out, HE.out, HA.out⟩, HB2.out⟩
    · obtain rfl : i = N := by omega
      have z1 : decide ((i : Int) < (i : Int)) = false := by simp
      have HG := hide (show FirstNe l cu (-1) from .inl ⟨rfl, by
        have e := HA.out
        rw [List.take_of_length_le (by rw [HN0.out]; exact Nat.le_refl _)] at e
        exact e⟩)
      clear hin ha hb hij
      go_wp2
      go_ret
      exact ⟨_, rfl, HG.out, HB.out⟩
set_option maxRecDepth 100000 in
set_option maxHeartbeats 2000000 in
theorem other_any (h : BAt W w b s R) (hl : s.order.length ≤ 1000000) : Calls Tryz.prog 26 #[.pointer (some ⟨b.sb, 0, none⟩)] w fun e w' => e = .returned (.int .i64 (othS s : Int)) ∧ Below w.heap.size w w' := by
  have h1 := h.skip (.cells #[.pointer (some ⟨b.sb, 0, none⟩)] 25)
  have hbx := (Blk.new w 25 #[.pointer (some ⟨b.sb, 0, none⟩)])
  have k0 : (w.alloc (.cells #[.pointer (some ⟨b.sb, 0, none⟩)] 25)).cell? ⟨w.heap.size, 0, none⟩ = some (.pointer (some ⟨b.sb, 0, none⟩)) := (hbx.cell 0).trans rfl
  have HN := hide (bnone_any h1)
  have HB := hide (below_box w (.cells #[.pointer (some ⟨b.sb, 0, none⟩)] 25))
  have d1 := h1.c1
  have HC2 := hide h1.c2
  have HIX := hide (idxf_any s.order b.ov _ s.cur w.heap.size b.sb h1.sl k0 h1.c2 hl)
  have H1 := hide h1
  have HK0 := hide k0
  have HL := hide hl
  clear h h1 hbx hl
  obtain ⟨A, c, hov, _, _⟩ := H1.out.sl.form
  rw [hov] at d1 HIX
  obtain ⟨nl, hnl⟩ : ∃ nl, nl = s.order.length := ⟨_, rfl⟩
  rw [← hnl] at d1 HIX
  have HNL := hide hnl
  have HOV := hide hov
  clear hov hnl
  go_enter Tryz.func26, Tryz.ntmps26
  go_wp2_with (go_at_call 44; (with_reducible refine Calls.mono HN.out ?_); rintro r w2 ⟨rfl, rfl⟩)
  refine (Calls.mono HIX.out) ?_
  rintro e w2 ⟨i, rfl, hi, b2⟩
  have HB2 := hide b2
  have m0 := cell_keep HK0.out b2
  have m1 := cell_keep d1 b2
  have m2 := cell_keep HC2.out b2
  rcases hi with ⟨rfl, hi⟩ | ⟨k, x, rfl, hx, hxn, hi⟩
  · have HE := hide (othS_miss hi)
    clear hi b2 k0 d1 HIX HN
    go_wp2
    go_ret
    exact ⟨by rw [HE.out]; rfl, HB.out.trans (HB2.out.mono HB.out.size)⟩
  · have HE := hide (othS_hit hx hxn hi)
    have hlt := (List.getElem?_eq_some_iff.1 hx).1
    have hrd := H1.out.sl.rd
    rw [HOV.out] at hrd
    obtain ⟨g, off, hA, hc⟩ := rd_cells hrd (by omega)
    subst hA
    have m3 := hc w2 b2 k _ (ints_at hx)
    have z1 : (0 : Int) ≤ (k : Int) := by omega
    have z2 : decide ((0 : Int) ≤ (k : Int)) = true := by simp
    have z3 : (k : Int) < (nl : Int) := by rw [HNL.out]; omega
    have z4 : k < nl := by omega
    clear hi b2 k0 d1 HIX HN hlt hrd hc hx hxn
    go_wp2
    go_ret
    exact ⟨by rw [HE.out]; rfl, HB.out.trans (HB2.out.mono HB.out.size)⟩
end
end Go.Proofs.YtnbhejbpofjamaaGreatDoor
namespace Go.Proofs.YtnbhejbpofjamaaGreatDoor
open Go.RowKit

def nameR (s : Bst) (k : Int) : Value := match fndB s.all k with
  | some x => .tuple #[.string x.name, .bool true]
  | none => .tuple #[.string ⟨#[]⟩, .bool false]
def getR (s : Bst) (k : Int) : Value := match fndB s.all k with
  | some x => .pointer (some ⟨x.b, 0, none⟩)
  | none => .pointer none
def useN (l : List Nb) (n : ByteArray) (k : Int) : Bool := l.any fun x => decide (x.name = n ∧ (x.id : Int) ≠ k)
def renE (s : Bst) (k : Int) (n : ByteArray) : Int := if knownE s.all k ≠ 0 then knownE s.all k else if chkE n ≠ 0 then chkE n else if useN s.all n k = true then 17 else 0
def renS (s : Bst) (k : Int) (n : ByteArray) : Bst := { s with all := s.all.map fun x => if (x.id : Int) = k then { x with name := n } else x }
section
variable {W w w' : World} {b : Bb} {s : Bst} {R : Heap}
set_option maxRecDepth 100000 in
theorem name_any (h : BAt W w b s R) (k : Int) : Calls Tryz.prog 13 #[.pointer (some ⟨b.sb, 0, none⟩), .int .i64 k] w fun e w' => e = .returned (nameR s k) ∧ w = w' := by
  have c0 := h.c0
  have HK := hide (known_any h k)
  have hl := (h.mb).lookup (P := Tryz.prog) (nb_keys s.all) Tryz.underlying69 Tryz.underlying3 (.int _ k) (zero_named w) false
  rw [nb_get] at hl
  cases he : fndB s.all k with
  | some x =>
    have c1 : w.cell? ⟨x.g, 1, none⟩ = some (.string x.name) := ((h.nb (fndB_mem he).1).cell 1).trans rfl
    have HE := hide (show nameR s k = .tuple #[.string x.name, .bool true] by unfold nameR; rw [he])
    rw [show knownE s.all k = 0 by unfold knownE; rw [he]; rfl] at HK
    rw [he] at hl
    simp only [Option.map_some, Option.getD_some, Bool.false_eq_true, if_false] at hl
    clear he h
    go_enter Tryz.func13, Tryz.ntmps13
    go_wp2_with (go_at_call 46; refine (Calls.mono HK.out) ?_; rintro e w' ⟨rfl, rfl⟩)
    go_ret2
    exact ⟨by rw [HE.out]; rfl, rfl⟩
  | none =>
    have HE := hide (show nameR s k = .tuple #[.string ⟨#[]⟩, .bool false] by unfold nameR; rw [he])
    rw [show knownE s.all k = 8 by unfold knownE; rw [he]; rfl] at HK
    clear he h hl
    go_enter Tryz.func13, Tryz.ntmps13
    go_wp2_with (go_at_call 46; refine (Calls.mono HK.out) ?_; rintro e w' ⟨rfl, rfl⟩)
    go_ret2
    exact ⟨by rw [HE.out]; rfl, rfl⟩
set_option maxRecDepth 100000 in
theorem get_any (h : BAt W w b s R) (k : Int) : Calls Tryz.prog 16 #[.pointer (some ⟨b.sb, 0, none⟩), .int .i64 k] w fun e w' => e = .returned (getR s k) ∧ w = w' := by
  have c0 := h.c0
  have HK := hide (known_any h k)
  have hl := (h.mb).lookup (P := Tryz.prog) (nb_keys s.all) Tryz.underlying69 Tryz.underlying3 (.int _ k) (zero_named w) false
  rw [nb_get] at hl
  cases he : fndB s.all k with
  | some x =>
    have c1 : w.cell? ⟨x.g, 0, none⟩ = some (.pointer (some ⟨x.b, 0, none⟩)) := ((h.nb (fndB_mem he).1).cell 0).trans rfl
    have HE := hide (show getR s k = .pointer (some ⟨x.b, 0, none⟩) by unfold getR; rw [he])
    rw [show knownE s.all k = 0 by unfold knownE; rw [he]; rfl] at HK
    rw [he] at hl
    simp only [Option.map_some, Option.getD_some, Bool.false_eq_true, if_false] at hl
    clear he h
    go_enter Tryz.func16, Tryz.ntmps16
    go_wp2_with (go_at_call 46; refine (Calls.mono HK.out) ?_; rintro e w' ⟨rfl, rfl⟩)
    go_ret
    exact ⟨by rw [HE.out]; rfl, rfl⟩
  | none =>
    have HE := hide (show getR s k = .pointer none by unfold getR; rw [he])
    rw [show knownE s.all k = 8 by unfold knownE; rw [he]; rfl] at HK
    clear he h hl
    go_enter Tryz.func16, Tryz.ntmps16
    go_wp2_with (go_at_call 46; refine (Calls.mono HK.out) ?_; rintro e w' ⟨rfl, rfl⟩)
    go_ret
    exact ⟨by rw [HE.out]; rfl, rfl⟩
theorem renS_split {s : Bst} {l1 l2 : List Nb} {x : Nb} (hs : s.all = l1 ++ x :: l2) (hn : (s.all.map Nb.id).Nodup) (n : ByteArray) : (renS s (x.id : Int) n).all = l1 ++ { x with name := n } :: l2 := by
  rw [hs, List.map_append, List.map_cons, List.nodup_append] at hn
  obtain ⟨_, h2, h3⟩ := hn
  rw [List.nodup_cons] at h2
  show s.all.map _ = _
  rw [hs, List.map_append, List.map_cons, if_pos rfl]
  congr 1
  · refine (List.map_congr_left fun y hy => ?_).trans (List.map_id l1)
    have : y.id ≠ x.id := h3 _ (List.mem_map.2 ⟨y, hy, rfl⟩) _ (List.mem_cons_self ..)
    rw [if_neg (by omega)]
    rfl
  · congr 1
    refine (List.map_congr_left fun y hy => ?_).trans (List.map_id l2)
    have : y.id ≠ x.id := fun e => h2.1 (List.mem_map.2 ⟨y, hy, e⟩)
    rw [if_neg (by omega)]
    rfl
theorem BAt.rename (h : BAt W w b s R) {x : Nb} (hx : x ∈ s.all) (hn : (s.all.map Nb.id).Nodup) (n : ByteArray) : BAt W (w.setCell ⟨x.g, 1, none⟩ (.string n)) b (renS s (x.id : Int) n) R := by
  obtain ⟨l1, l2, hs⟩ := List.append_of_mem hx
  have hm : (x.g, nbA x) ∈ s.heap b ++ R := List.mem_append_left _ (List.mem_cons_of_mem _ (List.mem_cons_of_mem _ (List.mem_append_left _ (List.mem_map.2 ⟨x, hx, rfl⟩))))
  have h1 := Own.putCell h.own hm 1 (.string n)
  have hr := renS_split hs hn n
  have e0 : s.heap b ++ R = ((b.sb, .cells 72 (s.cells b)) :: (b.mb, .map (nbPairs s.all)) :: nbHeap l1) ++ (x.g, nbA x) :: (nbHeap l2 ++ (ordRow b s ++ R)) := by
    unfold Bst.heap
    rw [show nbHeap s.all = nbHeap l1 ++ (x.g, nbA x) :: nbHeap l2 by rw [hs]; simp [nbHeap]]
    simp [List.append_assoc]
  have hnod := h.own.nod
  rw [e0] at hnod h1
  have a1 : x.g ∉ Heap.blocks ((b.sb, Ast.cells 72 (s.cells b)) :: (b.mb, .map (nbPairs s.all)) :: nbHeap l1) := nodup_sep' hnod (by simp [Heap.blocks])
  have a2 : x.g ∉ Heap.blocks (nbHeap l2 ++ (ordRow b s ++ R)) := by
    rw [Heap.blocks_append, Heap.blocks_cons, List.nodup_append] at hnod
    exact (List.nodup_cons.1 hnod.2.1).1
  rw [Heap.put_append, Heap.put_absent _ a1, Heap.put_hit, Heap.put_absent _ a2] at h1
  have e1 : (renS s (x.id : Int) n).heap b ++ R = ((b.sb, .cells 72 (s.cells b)) :: (b.mb, .map (nbPairs s.all)) :: nbHeap l1) ++ (x.g, nbA { x with name := n }) :: (nbHeap l2 ++ (ordRow b s ++ R)) := by
    show (b.sb, Ast.cells 72 (s.cells b)) :: (b.mb, .map (nbPairs (renS s (x.id : Int) n).all)) :: (nbHeap (renS s (x.id : Int) n).all ++ ordRow b s) ++ R = _
    rw [hr, show nbPairs (l1 ++ { x with name := n } :: l2) = nbPairs s.all by rw [hs]; simp [nbPairs], show nbHeap (l1 ++ { x with name := n } :: l2) = nbHeap l1 ++ (x.g, nbA { x with name := n }) :: nbHeap l2 by simp [nbHeap]]
    simp [List.append_assoc]
  refine ⟨by rw [e1]; exact h1, ?_⟩
  exact h.sl.far (p := ⟨x.g, 1, none⟩) (h.sl.ne_blk (h.nb hx) (by decide)) _
/-- What Rename leaves. -/
def Rened (W : World) (sb : Nat) (s : Bst) (k : Int) (n : ByteArray) (R : Heap) (e : Ending) (w' : World) : Prop := e = .returned (.int .i64 (renE s k n)) ∧ SAt W w' sb (if renE s k n = 0 then renS s k n else s) R
theorem Rened.good {sb : Nat} {k : Int} {n : ByteArray} (he : renE s k n = 0) (h : SAt W w' sb (renS s k n) R) : Rened W sb s k n R (.returned (.int .i64 0)) w' := ⟨by rw [he], by rw [if_pos he]; exact h⟩
theorem Rened.bad {sb : Nat} {k : Int} {n : ByteArray} {e0 : Int} (he : renE s k n = e0) (h0 : e0 ≠ 0) (h : SAt W w' sb s R) : Rened W sb s k n R (.returned (.int .i64 e0)) w' := ⟨by rw [he], by rw [if_neg (by rw [he]; exact h0)]; exact h⟩
set_option maxRecDepth 100000 in
set_option maxHeartbeats 2000000 in
theorem rename_any (h : BAt W w b s R) (hT : Tabs w) (ok : s.Ok) (hu : (s.all.map Nb.name).Nodup) (k : Int) (n : ByteArray) (hs : n.size < 9223372036854775807) :
    Calls Tryz.prog 37 #[.pointer (some ⟨b.sb, 0, none⟩), .int .i64 k, .string n] w (Rened W b.sb s k n R) := by
  have HK := hide (known_any h k)
  have HC := hide (chk_any n w hT hs)
  obtain ⟨ce, hce⟩ : ∃ ce, ce = chkE n := ⟨_, rfl⟩
  rw [← hce] at HC
  have HCE := hide hce
  have H := hide h
  have HOK := hide ok
  have HU := hide hu
  rcases known_split s k with he | he
  · rw [he] at HK
    have HKE := hide he
    obtain ⟨j, rfl, hj, x, hfx, hx, hxj⟩ := known_nat ok he
    have HX := hide hx
    have HXJ := hide hxj
    have HFX := hide hfx
    by_cases h0 : ce = 0
    · have y0 : (ce != 0) = false := by simp [h0]
      have H0 := hide h0
      clear h hT ok hu hs hce he hfx hx hxj hj h0
      go_enter Tryz.func37, Tryz.ntmps37
      go_wp2_with (first | (go_at_call 46; refine (Calls.mono HK.out) ?_; rintro e w' ⟨rfl, rfl⟩) | (go_at_call 48; refine (Calls.mono HC.out) ?_; rintro e w1 ⟨rfl, b1⟩))
      have H1 := hide (H.out.below b1)
      clear b1
      refine (Calls.mono (find_any H1.out n)) ?_
      rintro e w2 ⟨b2, hr⟩
      have H2 := hide (H1.out.below b2)
      clear b2
      have c0 := H2.out.c0
      have hl := (H2.out.mb).lookup (P := Tryz.prog) (nb_keys s.all) Tryz.underlying69 Tryz.underlying3 (.int _ (j : Int)) (zero_named w2) false
      rw [nb_get, HFX.out] at hl
      simp only [Option.map_some, Option.getD_some, Bool.false_eq_true, if_false] at hl
      have f1 := (H2.out.nb HX.out).frozen 1
      have c1 : w2.cell? ⟨x.g, 1, none⟩ = some (.string x.name) := ((H2.out.nb HX.out).cell 1).trans rfl
      have HS := hide (H2.out.rename HX.out HOK.out.nod n)
      rw [HXJ.out] at HS
      rcases hr with ⟨rfl, hr⟩ | ⟨y, hy, hyn, rfl⟩
      · have HE := hide (show renE s (j : Int) n = 0 by
          unfold renE
          rw [if_neg (by rw [HKE.out]; simp), if_neg (by rw [← HCE.out, H0.out]; simp), if_neg]
          unfold useN
          simp
          intro z hz e
          exact absurd e (hr z hz))
        clear hr
        go_wp2_with fail
        go_ret
        exact Rened.good HE.out ⟨b, rfl, HS.out⟩
      · by_cases hyj : y.id = j
        · have HE := hide (show renE s (j : Int) n = 0 by
            unfold renE
            rw [if_neg (by rw [HKE.out]; simp), if_neg (by rw [← HCE.out, H0.out]; simp), if_neg]
            unfold useN
            simp
            intro z hz e
            obtain ⟨l1, l2, hsp⟩ := List.append_of_mem hy
            have hnn := HU.out
            rw [hsp, List.map_append, List.map_cons, List.nodup_append] at hnn
            obtain ⟨_, q2, q3⟩ := hnn
            rw [List.nodup_cons] at q2
            rw [hsp, List.mem_append, List.mem_cons] at hz
            rcases hz with hz | rfl | hz
            · exact absurd (e.trans hyn.symm) (q3 _ (List.mem_map.2 ⟨z, hz, rfl⟩) _ (List.mem_cons_self ..))
            · omega
            · exact absurd (List.mem_map.2 ⟨z, hz, e.trans hyn.symm⟩) q2.1)
          have y1 : ((y.id : Int) != (j : Int)) = false := by simp [hyj]
          clear hy hyn hyj
          go_wp2_with fail
          go_ret
          exact Rened.good HE.out ⟨b, rfl, HS.out⟩
        · have HE := hide (show renE s (j : Int) n = 17 by
            unfold renE
            rw [if_neg (by rw [HKE.out]; simp), if_neg (by rw [← HCE.out, H0.out]; simp), if_pos]
            unfold useN
            rw [List.any_eq_true]
            exact ⟨y, hy, by simpa using ⟨hyn, by omega⟩⟩)
          have y1 : ((y.id : Int) != (j : Int)) = true := by simp; omega
          clear hy hyn hyj
          go_wp2_with fail
          go_ret
          exact Rened.bad HE.out (by decide) ⟨b, rfl, H2.out⟩
    · have y0 : (ce != 0) = true := by simp [h0]
      have HE := hide (show renE s (j : Int) n = ce by
        unfold renE
        rw [if_neg (by rw [HKE.out]; simp), if_pos (by rw [← HCE.out]; exact h0), HCE.out])
      have H0 := hide h0
      clear h hT ok hu hs hce he hfx hx hxj hj h0
      go_enter Tryz.func37, Tryz.ntmps37
      go_wp2_with (first | (go_at_call 46; refine (Calls.mono HK.out) ?_; rintro e w' ⟨rfl, rfl⟩) | (go_at_call 48; refine (Calls.mono HC.out) ?_; rintro e w1 ⟨rfl, b1⟩))
      go_ret
      exact Rened.bad HE.out H0.out ⟨b, rfl, H.out.below b1⟩
  · rw [he] at HK
    have HE := hide (show renE s k n = 8 by unfold renE; rw [he, if_pos (by decide)])
    clear h hT ok hu hs hce he
    go_enter Tryz.func37, Tryz.ntmps37
    go_wp2_with (go_at_call 46; refine (Calls.mono HK.out) ?_; rintro e w' ⟨rfl, rfl⟩)
    go_ret
    exact Rened.bad HE.out (by decide) ⟨b, rfl, H.out⟩
end
end Go.Proofs.YtnbhejbpofjamaaGreatDoor
namespace Go.Proofs.YtnbhejbpofjamaaGreatDoor
open Go.RowKit

section
variable {W w w' : World} {b : Bb} {s : Bst} {R : Heap}
set_option maxRecDepth 100000 in
set_option maxHeartbeats 4000000 in
theorem bury_any (h : BAt W w b s R) (ok : s.Ok) (k : Int) (hl : s.order.length ≤ 1000000) : Calls Tryz.prog 40 #[.pointer (some ⟨b.sb, 0, none⟩), .int .i64 k] w (Moved W b.sb s (burS s k.toNat) R (knownE s.all k)) := by
  have HK := hide (known_any h k)
  rcases known_split s k with he | he
  · obtain ⟨j, rfl, hj, _⟩ := known_nat ok he
    have HV := hide (leave_any h j hj hl)
    have HJ := hide hj
    have hlt : (s.order.erase j).length ≤ 1000000 := Nat.le_trans (List.length_erase_le ..) hl
    have HL := hide hlt
    obtain ⟨i0, hi, hi1, hi2, hi3⟩ := info_parts info_int
    have HI := hide hi
    have HI1 := hide hi1
    have HI2 := hide hi2
    have HI3 := hide hi3
    rw [he] at HK ⊢
    clear h ok he hj hl hlt hi hi1 hi2 hi3
    go_enter Tryz.func40, Tryz.ntmps40
    go_wp2_with (go_at_call 46; refine (Calls.mono HK.out) ?_; rintro e w' ⟨rfl, rfl⟩)
    refine (Calls.mono HV.out) ?_
    rintro e w8 ⟨rfl, ⟨sb2, mb, ov⟩, hb2, h8⟩
    simp only [] at hb2
    subst hb2
    obtain ⟨A, c, hov, _, _⟩ := h8.sl.form
    simp only [] at hov
    subst hov
    have d1 : w8.cell? ⟨b.sb, 1, none⟩ = some (.slice A (s.order.erase j).length c) := h8.c1
    have h8' : BAt W w8 ⟨b.sb, mb, .slice A (s.order.erase j).length c⟩ (leaveS s j) R := h8
    have H8 := hide h8'
    clear h8'
    have HAP := hide (fun o => H8.out.skip o)
    obtain ⟨nl, hnl⟩ : ∃ nl, nl = (s.order.erase j).length := ⟨_, rfl⟩
    rw [← hnl] at d1
    have HNL := hide hnl
    have d1' : (w8.alloc (.cells #[.int .i64 (j : Int)] 3)).cell? ⟨b.sb, 1, none⟩ = some (.slice A nl c) := cell_keep d1 (below_box w8 _)
    clear hnl h8 HV
    go_wp2_with (at_builtin; refine wpList_append_sl rfl (.tmp 18) (.tmp 20) 32 rfl 3 i0 (.int .i64 0) 1 8 Tryz.underlying32 HI.out HI1.out HI2.out HI3.out rfl _ nl (ints (s.order.erase j)) rfl (by rw [HNL.out]; exact (HAP.out _).sl) _ rfl 1 [_] (rd_one _ _ _) ?one ?b1 ?b2 ?_)
    case one => intro u hu; rcases List.mem_singleton.1 hu with rfl; rfl
    case b1 => have := HL.out; have := HNL.out; unfold maxLen; omega
    case b2 => have := HL.out; have := HNL.out; omega
    intro v2 w9 hs ho hv
    obtain ⟨A2, c2, rfl, _, _⟩ := hs.form
    have hs2 : IntSl w9 (.slice A2 (nl + 1) c2) (s.order.erase j ++ [j]) := by
      unfold IntSl
      rw [List.length_append, ← HNL.out, ints_snoc]
      exact hs
    obtain ⟨x1, x2⟩ := (HAP.out (.cells #[.int .i64 (j : Int)] 3)).reorder hs2 (by rw [← HNL.out]; exact ho) (by rw [← HNL.out]; rcases hv with h | h; exact .inl h; exact .inr (h.trans (congrArg some (World.size_alloc ..).symm)))
    have f1 : w9.frozen? ⟨b.sb, 1, none⟩ = false := x1.frozen 1
    have e1 : w9.cell? ⟨b.sb, 1, none⟩ = some (.slice A (s.order.erase j).length c) := (x1.cell 1).trans rfl
    have HF := hide x2
    clear hs ho hv hs2 x1 x2 d1 d1'
    go_wp2
    go_ret
    exact ⟨rfl, _, ⟨Bb.withOv ⟨b.sb, mb, .slice A (s.order.erase j).length c⟩ _, rfl, HF.out⟩, fun h0 => absurd rfl h0, fun _ => rfl⟩
  · have H := hide h
    rw [he] at HK ⊢
    clear h ok he hl
    go_enter Tryz.func40, Tryz.ntmps40
    go_wp2_with (go_at_call 46; refine (Calls.mono HK.out) ?_; rintro e w' ⟨rfl, rfl⟩)
    go_ret
    exact ⟨rfl, s, ⟨b, rfl, H.out⟩, fun _ => rfl, fun h0 => absurd h0 (by decide)⟩
end
end Go.Proofs.YtnbhejbpofjamaaGreatDoor
