/- A buffer lies in memory; the parts of an insertion. No condition but those written. -/
import Derived.Test.YtnbhejbpofjamaaGreatDoorBki
namespace Go.Proofs.YtnbhejbpofjamaaGreatDoor
open Go.RowKit

/-- Where a buffer lies. -/
structure Zb where
  bp : Nat
  gb : Gb
  mks : Nat
  mm : Nat
  pr : Nat
  ov : Nat
  lb : Lb
abbrev ovC (p q : Int) : Array Value := #[.int .i64 p, .int .i64 q, .slice none 0 0, .int .i64 0, .bool true]
def zrest (z : Zb) (p q : Int) : Heap := [(z.mks, .cells 172 #[.map (some z.mm), .int .i64 0]), (z.mm, .map []), (z.pr, .cells 181 prC), (z.ov, .cells 184 (ovC p q))]
/-- A buffer lies in memory, its cells being cs, beside R. -/
structure ZAt (W w : World) (z : Zb) (L : List Nat) (lg : Lg) (cs : Array Value) (p q : Int) (R : Heap) : Prop where
  log : LogAt W w z.lb lg ((z.bp, .cells 104 cs) :: (zrest z p q ++ (z.gb.heap ++ R)))
  okf : RowOk z.gb.fv z.gb.g.F.length
  ok : z.gb.g.Ok L
/-- A block that turns and holds what it held. -/
theorem Own.still {W w w' : World} {L : Heap} {g : Nat} {a : Ast} (h : Own W w L) (hx : (g, a) ∈ L) (ho : Only (· = g) w w') (ha : Holds w' g a) : Own W w' L := by
  obtain ⟨l1, l2, rfl⟩ := List.append_of_mem hx
  exact ((h.perm List.perm_middle).turn ho ha).perm List.perm_middle.symm
section
variable {W w w' : World} {z : Zb} {L L' : List Nat} {lg lg' : Lg} {cs : Array Value} {p q : Int} {R : Heap}
theorem ZAt.own (h : ZAt W w z L lg cs p q R) : Own W w (z.lb.heap lg ++ ((z.bp, .cells 104 cs) :: (zrest z p q ++ (z.gb.heap ++ R)))) := h.log.own
theorem ZAt.re (h : ZAt W w z L lg cs p q R) (ho : Own W w' (z.lb.heap lg ++ ((z.bp, .cells 104 cs) :: (zrest z p q ++ (z.gb.heap ++ R))))) : ZAt W w' z L lg cs p q R := ⟨h.log.re ho, h.okf, h.ok⟩
theorem ZAt.below (h : ZAt W w z L lg cs p q R) (hb : Below w.heap.size w w') : ZAt W w' z L lg cs p q R := h.re (h.own.below hb)
theorem ZAt.bel (h : ZAt W w z L lg cs p q R) : Below W.heap.size W w := h.own.bel
theorem ZAt.blk (h : ZAt W w z L lg cs p q R) : Blk w z.bp 104 cs := h.log.restBlk
theorem ZAt.mk_ (h : ZAt W w z L lg cs p q R) : Blk w z.mks 172 #[.map (some z.mm), .int .i64 0] := h.own.blk (List.mem_append_right _ (by simp [zrest]))
theorem ZAt.mm_ (h : ZAt W w z L lg cs p q R) : MapIs w z.mm [] := h.own.mapIs (List.mem_append_right _ (by simp [zrest]))
theorem ZAt.pr_ (h : ZAt W w z L lg cs p q R) : Blk w z.pr 181 prC := h.own.blk (List.mem_append_right _ (by simp [zrest]))
theorem ZAt.ov_ (h : ZAt W w z L lg cs p q R) : Blk w z.ov 184 (ovC p q) := h.own.blk (List.mem_append_right _ (by simp [zrest]))
theorem ZAt.set_ (h : ZAt W w z L lg cs p q R) (i : Nat) (u : Value) : ZAt W (w.setCell ⟨z.bp, i, none⟩ u) z L lg (cs.setIfInBounds i u) p q R := ⟨h.log.setRest i u, h.okf, h.ok⟩
theorem ZAt.pr_still (h : ZAt W w z L lg cs p q R) (ho : Only (· = z.pr) w w') (hb : Blk w' z.pr 181 prC) : ZAt W w' z L lg cs p q R :=
  h.re (h.own.still (g := z.pr) (a := .cells 181 prC) (List.mem_append_right _ (by simp [zrest])) ho hb)
theorem ZAt.turned {cs' : Array Value} (h : ZAt W w z L lg cs p q R) (ho : Only (· = z.bp) w w') (hb : Blk w' z.bp 104 cs') : ZAt W w' z L lg cs' p q R := by
  have h1 := (h.own.perm List.perm_middle).turn (b := .cells 104 cs') ho hb
  exact ⟨⟨h1.perm List.perm_middle.symm, h.log.grp, h.log.okG, h.log.okO, h.log.okg⟩, h.okf, h.ok⟩
theorem ZAt.noted {b' : Lb} {cs' : Array Value} (h : ZAt W w z L lg cs p q R) (hl : LogAt W w' b' lg' ((z.bp, .cells 104 cs') :: (zrest z p q ++ (z.gb.heap ++ R)))) : ZAt W w' { z with lb := b' } L lg' cs' p q R := ⟨hl, h.okf, h.ok⟩
theorem zperm (A B C R : Heap) (x : Nat × Ast) : (A ++ (x :: (C ++ (B ++ R)))).Perm (B ++ (x :: (C ++ (A ++ R)))) := by
  classical
  rw [List.perm_iff_count]
  intro x
  simp only [List.count_append, List.count_cons]
  omega
theorem ZAt.text (h : ZAt W w z L lg cs p q R) : TextAt W w z.gb L ((z.bp, .cells 104 cs) :: (zrest z p q ++ (z.lb.heap lg ++ R))) :=
  ⟨⟨h.own.perm (zperm _ _ _ _ _), h.okf, h.ok.le1, h.ok.le2, h.ok.lim⟩, h.ok⟩
theorem ZAt.txt (h : ZAt W w z L lg cs p q R) : Txt W w z.gb.tb L ((z.bp, .cells 104 cs) :: (zrest z p q ++ (z.lb.heap lg ++ R))) := ⟨z.gb, rfl, h.text⟩
theorem ZAt.ofTxt (h : ZAt W w z L lg cs p q R) (ht : Txt W w' z.gb.tb L' ((z.bp, .cells 104 cs) :: (zrest z p q ++ (z.lb.heap lg ++ R)))) : ∃ b', b'.tb = z.gb.tb ∧ ZAt W w' { z with gb := b' } L' lg cs p q R := by
  obtain ⟨b', h1, h2⟩ := ht
  exact ⟨b', h1, ⟨h2.gap.own.perm (zperm _ _ _ _ _), h.log.grp, h.log.okG, h.log.okO, h.log.okg⟩, h2.gap.okf, h2.ok⟩
end

/-! ### The first error of three checks -/
set_option maxRecDepth 100000 in
set_option maxHeartbeats 4000000 in
theorem first_any (w : World) (g : Nat) (a0 a1 a2 : Nat) (c0 c1 c2 : Array Value) (E : Int) (hb : Blk w g 138 #[.func (.func a0) #[] c0, .func (.func a1) #[] c1, .func (.func a2) #[] c2]) (k0 : ChkOk w a0 c0 0) (k1 : ChkOk w a1 c1 0) (k2 : ChkOk w a2 c2 E) :
    Calls Tryz.prog 99 #[.slice (some ⟨g, 0, none⟩) 3 3] w fun e w' => e = .returned (.int .i64 E) ∧ Below w.heap.size w w' := by
  have HB := hide hb
  have HC0 := hide k0
  have HC1 := hide k1
  have HC2 := hide k2
  clear hb k0 k1 k2
  go_enter Tryz.func99, Tryz.ntmps99
  go_wp2_with fail
  go_loopw [8] (fun i wr => (i = .int .i64 0 ∨ i = .int .i64 1 ∨ i = .int .i64 2 ∨ (i = .int .i64 3 ∧ E = 0)) ∧ Below w.heap.size w wr) (fun i _ => 3 - (intOf i).toNat)
  case atStart => exact ⟨.inl rfl, Below.refl _ _⟩
  case round =>
    obtain ⟨hi, hbel⟩ := hrel
    have HBE := hide hbel
    have hb2 := HB.out.below hbel HB.out.lt
    rcases hi with rfl | rfl | rfl | ⟨rfl, hE⟩
    · have d0 : wr.cell? ⟨g, 0, none⟩ = some (.func (.func a0) #[] c0) := (hb2.cell 0).trans rfl
      have hcf := HC0.out.cf
      have HK := hide (HC0.out.call wr hbel)
      clear hb2 hbel
      go_wp2_with fail
      refine Calls.mono HK.out ?_
      rintro e w1 ⟨rfl, b1⟩
      have HB1 := hide (HBE.out.trans (b1.mono HBE.out.size))
      clear b1
      go_wp2_with fail
      go_roundw
      case rel => exact ⟨.inr (.inl rfl), HB1.out⟩
      case measure => simp [intOf]
    · have d0 : wr.cell? ⟨g, 1, none⟩ = some (.func (.func a1) #[] c1) := (hb2.cell 1).trans rfl
      have hcf := HC1.out.cf
      have HK := hide (HC1.out.call wr hbel)
      clear hb2 hbel
      go_wp2_with fail
      refine Calls.mono HK.out ?_
      rintro e w1 ⟨rfl, b1⟩
      have HB1 := hide (HBE.out.trans (b1.mono HBE.out.size))
      clear b1
      go_wp2_with fail
      go_roundw
      case rel => exact ⟨.inr (.inr (.inl rfl)), HB1.out⟩
      case measure => simp [intOf]
    · have d0 : wr.cell? ⟨g, 2, none⟩ = some (.func (.func a2) #[] c2) := (hb2.cell 2).trans rfl
      have hcf := HC2.out.cf
      have HK := hide (HC2.out.call wr hbel)
      clear hb2 hbel
      by_cases hE : E = 0
      · have z1 : (E != 0) = false := by simp [hE]
        have HE := hide hE
        clear hE
        go_wp2_with fail
        refine Calls.mono HK.out ?_
        rintro e w1 ⟨rfl, b1⟩
        have HB1 := hide (HBE.out.trans (b1.mono HBE.out.size))
        clear b1
        go_wp2_with fail
        go_roundw
        case rel => exact ⟨.inr (.inr (.inr ⟨rfl, HE.out⟩)), HB1.out⟩
        case measure => simp [intOf]
      · have z1 : (E != 0) = true := by simp [hE]
        have HE := hide hE
        clear hE
        go_wp2_with fail
        refine Calls.mono HK.out ?_
        rintro e w1 ⟨rfl, b1⟩
        have HB1 := hide (HBE.out.trans (b1.mono HBE.out.size))
        clear b1
        go_wp2_with fail
        go_ret
        exact ⟨rfl, HB1.out⟩
    · have HE := hide hE
      clear hb2 hbel hE
      go_wp2_with fail
      go_ret
      exact ⟨by rw [HE.out]; rfl, HBE.out⟩
/-! ### All positions move -/
section
variable {bp tick tb mk pr ov lb : Nat} {fresh : Bool} {r : Int}
set_option maxRecDepth 100000 in
set_option maxHeartbeats 4000000 in
theorem moves_any (w : World) (at' n : Nat) (h : Blk w bp 104 (bzC at' tick fresh r tb mk pr ov lb)) (ha : 1 ≤ at') (ha2 : at' ≤ 1000000) (hn : n ≤ 1000000) (g1 g2 : Nat) (h1 : w.cell? ⟨g1, 0, none⟩ = some (.int .i64 (at' : Int))) (h2 : w.cell? ⟨g2, 0, none⟩ = some (.int .i64 (n : Int))) :
    Calls Tryz.prog 147 #[.pointer (some ⟨bp, 0, none⟩), .func (.func 177) #[] #[.pointer (some ⟨g1, 0, none⟩), .pointer (some ⟨g2, 0, none⟩)], .bool false] w fun e w' => e = .returned (.tuple #[]) ∧ Only (· = bp) w w' ∧ Blk w' bp 104 ((bzC at' tick fresh r tb mk pr ov lb).setIfInBounds 2 (.int .i64 ((at' + n : Nat) : Int))) := by
  have HS := hide (spots_any w at' n h ha ha2 hn g1 g2 h1 h2)
  clear h ha ha2 hn h1 h2
  go_enter Tryz.func147, Tryz.ntmps147
  go_wp2_with fail
  refine Calls.mono HS.out ?_
  rintro e w1 ⟨rfl, ho, hb⟩
  have HO := hide ho
  have HBK := hide hb
  have c17 : w1.cell? ⟨bp, 17, none⟩ = some (.slice none 0 0) := (hb.cell 17).trans rfl
  clear ho hb
  go_wp2_with fail
  go_loopw [18] (fun i wr => i = .int .i64 0 ∧ wr = w1) (fun _ _ => 0)
  case atStart => exact ⟨rfl, rfl⟩
  case round =>
    obtain ⟨rfl, hwr⟩ := hrel
    subst hwr
    go_wp2_with fail
    refine bodyPost_end (results_none rfl _ _ _) rfl ?_
    exact ⟨rfl, HO.out, HBK.out⟩
end
end Go.Proofs.YtnbhejbpofjamaaGreatDoor
