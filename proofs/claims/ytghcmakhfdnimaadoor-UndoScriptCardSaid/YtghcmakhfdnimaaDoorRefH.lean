/- The walk of the reference's Boundary. No condition but those written. -/
import Derived.Test.YtghcmakhfdnimaaDoorRefG
import Derived.Test.YtghcmakhfdnimaaDoorUndI
namespace Go.Proofs.YtghcmakhfdnimaaDoor
open Go.RowKit

section
variable {W w w' : World} {b : Lb} {s : Lg} {R : Heap}
theorem RefAt.toG (h : RefAt W w b s R) : Own W w (rowOf 40 1 b.gv b.gs.length (b.gs.map (·.1)) ++ ((b.lb, .cells 90 (refCells b s)) :: (chgRow b.ov s.O ++ (grpHeap b.gs ++ R)))) := by
  refine h.own.perm ?_
  unfold Lb.rheap
  classical
  rw [List.perm_iff_count]
  intro x
  simp only [List.count_append, List.count_cons]
  omega
/-- What the append of the open group leaves, both fields stored. -/
theorem RefAt.shutAt {v' : Value} (h : RefAt W w b s R) (hs : Sl w' 40 1 v' (b.gs.length + 1) (b.gs.map (·.1) ++ [b.ov])) (ho : Only (fun g => b.gv.ownBlock = some g) w w') (hv : v'.ownBlock = b.gv.ownBlock ∨ v'.ownBlock = some w.heap.size) :
    Blk w' b.lb 90 (refCells b s) ∧ RefAt W ((w'.setCell ⟨b.lb, 0, none⟩ v').setCell ⟨b.lb, 1, none⟩ (.slice none 0 0)) ⟨b.lb, v', .slice none 0 0, b.gs ++ [(b.ov, s.O)]⟩ { s with G := s.G ++ [s.O], O := [] } R := by
  have h1 := h.toG
  have h2 := h1.appended hs ho hv
  have hb : Blk w' b.lb 90 (refCells b s) := h2.blk (by simp)
  have h3 : Own W w' ((b.lb, .cells 90 (refCells b s)) :: (rowOf 40 1 v' (b.gs.length + 1) (b.gs.map (·.1) ++ [b.ov]) ++ (grpHeap (b.gs ++ [(b.ov, s.O)]) ++ R))) := by
    refine h2.perm ?_
    rw [grpHeap_snoc]
    classical
    rw [List.perm_iff_count]
    intro x
    simp only [List.count_append, List.count_cons]
    omega
  refine ⟨hb, ⟨?_, by rw [h.ok.grp]; simp, ?_, RowOk.nil, ?_⟩⟩
  · have h4 := (h3.setCell 0 v').setCell 1 (.slice none 0 0)
    unfold Lb.rheap
    rw [show (b.gs ++ [(b.ov, s.O)]).length = b.gs.length + 1 by simp, show (b.gs ++ [(b.ov, s.O)]).map (·.1) = b.gs.map (·.1) ++ [b.ov] by simp]
    show Own W _ ((b.lb, _) :: ((rowOf 40 1 v' (b.gs.length + 1) (b.gs.map (·.1) ++ [b.ov]) ++ ([] ++ grpHeap (b.gs ++ [(b.ov, s.O)]))) ++ R))
    rw [List.nil_append, List.append_assoc]
    exact h4
  · show RowOk v' (b.gs ++ [(b.ov, s.O)]).length
    rw [show (b.gs ++ [(b.ov, s.O)]).length = b.gs.length + 1 by simp]
    exact hs.rowOk
  · intro x hx
    rcases List.mem_append.1 hx with hx | hx
    · exact h.ok.okg x hx
    · simp at hx
      subst hx
      exact h.ok.okO
theorem RefAt.firstGone {v : Value} {l : List Chg} {r : List (Value × List Chg)} {g off c : Nat} {s' : Lg} (h : RefAt W w b s R) (hg : b.gs = (v, l) :: r) (hv : b.gv = .slice (some ⟨g, off, none⟩) (r.length + 1) c) (hs' : s' = { s with G := s.G.tail }) :
    RefAt W (w.setCell ⟨b.lb, 0, none⟩ (.slice (some ⟨g, off + 1, none⟩) r.length (c - 1))) ⟨b.lb, .slice (some ⟨g, off + 1, none⟩) r.length (c - 1), b.ov, r⟩ s' R := by
  subst hs'
  have h1 : Own W w ((b.lb, .cells 90 (refCells b s)) :: (rowOf 40 1 b.gv b.gs.length (b.gs.map (·.1)) ++ (chgRow b.ov s.O ++ (grpHeap r ++ R)))) := by
    refine (h.own.perm (R := chgRow v l ++ ((b.lb, .cells 90 (refCells b s)) :: (rowOf 40 1 b.gv b.gs.length (b.gs.map (·.1)) ++ (chgRow b.ov s.O ++ (grpHeap r ++ R))))) ?_).right
    unfold Lb.rheap
    rw [show grpHeap b.gs = chgRow v l ++ grpHeap r by rw [hg]; rfl]
    classical
    rw [List.perm_iff_count]
    intro x
    simp only [List.count_append, List.count_cons]
    omega
  have h2 := h1.setCell 0 (.slice (some ⟨g, off + 1, none⟩) r.length (c - 1))
  have h3 := h2.perm (R := (rowOf 40 1 b.gv b.gs.length (b.gs.map (·.1))) ++ ((b.lb, .cells 90 ((refCells b s).setIfInBounds 0 (.slice (some ⟨g, off + 1, none⟩) r.length (c - 1)))) :: (chgRow b.ov s.O ++ (grpHeap r ++ R)))) (by
    classical
    rw [List.perm_iff_count]
    intro x
    simp only [List.count_append, List.count_cons]
    omega)
  rw [rowOf_some (v := b.gv) (g := g) (by rw [hv]; rfl), hv, hg] at h3
  have hrow := (h3.row (List.mem_cons_self ..)).2
  have htl := Sl.tail hrow
  rw [Nat.one_mul] at htl
  have h4 := h3.turn (b := .row 40 1 (.slice (some ⟨g, off + 1, none⟩) r.length (c - 1)) r.length (r.map (·.1))) (Only.refl _ _) ⟨rfl, by simpa using htl⟩
  refine ⟨?_, ?_, RowOk.some (g := g) rfl, h.ok.okO, fun x hx => h.ok.okg x (by rw [hg]; exact List.mem_cons_of_mem _ hx)⟩
  · unfold Lb.rheap
    rw [rowOf_some (v := .slice (some ⟨g, off + 1, none⟩) r.length (c - 1)) (g := g) rfl]
    refine (show Own W _ ((g, Ast.row 40 1 (.slice (some ⟨g, off + 1, none⟩) r.length (c - 1)) r.length (r.map (·.1))) :: ((b.lb, .cells 90 (refCells ⟨b.lb, .slice (some ⟨g, off + 1, none⟩) r.length (c - 1), b.ov, r⟩ { s with G := s.G.tail })) :: (chgRow b.ov s.O ++ (grpHeap r ++ R)))) from h4).perm ?_
    classical
    rw [List.perm_iff_count]
    intro x
    simp only [List.count_append, List.count_cons, List.count_nil]
    omega
  · show s.G.tail = r.map (·.2)
    rw [h.ok.grp, hg]
    rfl
/-- What the loads of the inner loop read. -/
def BoundS (lb : Nat) (cost : Int) (gv : Value) (gb off : Nat) (v0 : Value) (g3 o3 : Nat) (c : Chg) (w' : World) : Prop :=
  w'.cell? ⟨lb, 4, none⟩ = some (.int .i64 cost) ∧ w'.cell? ⟨lb, 0, none⟩ = some gv ∧ w'.cell? ⟨gb, off, none⟩ = some v0 ∧
  w'.cell? ⟨g3, o3, none⟩ = some (.int .i64 c.k) ∧ w'.cell? ⟨g3, o3 + 1, none⟩ = some (.int .i64 c.a) ∧ w'.cell? ⟨g3, o3 + 2, none⟩ = some (.int .i64 c.t) ∧ w'.cell? ⟨g3, o3 + 3, none⟩ = some (.int .i64 c.id) ∧ w'.cell? ⟨g3, o3 + 4, none⟩ = some (.int .i64 c.nm) ∧ w'.cell? ⟨g3, o3 + 5, none⟩ = some (.string c.tx) ∧ w'.cell? ⟨g3, o3 + 6, none⟩ = some (.int .i64 c.vk) ∧ w'.cell? ⟨g3, o3 + 7, none⟩ = some (.int .i64 c.vn) ∧ w'.cell? ⟨g3, o3 + 8, none⟩ = some (.bool c.had)
theorem RefAt.boundS {lb gb off m cp n0 g3 o3 c3 k : Nat} {ov : Value} {g : List Chg} {rs : List (Value × List Chg)} {c : Chg} (h : RefAt W w ⟨lb, .slice (some ⟨gb, off, none⟩) (m + 1) cp, ov, (.slice (some ⟨g3, o3, none⟩) n0 c3, g) :: rs⟩ s R) (hm : m = rs.length) (hn : n0 = g.length) (hc : g[k]? = some c) (hnow : s.now = 0) :
    BoundS lb s.cost (.slice (some ⟨gb, off, none⟩) (m + 1) cp) gb off (.slice (some ⟨g3, o3, none⟩) n0 c3) g3 (o3 + k * 9) c w := by
  subst hm hn
  obtain ⟨gb', off', cp', hv9', _, _, hcell', _⟩ := h.slG.at_ (by simp)
  obtain ⟨rfl, rfl⟩ : gb = gb' ∧ off = off' := by
    injection hv9' with e1 _ e2
    injection e1 with e1
    injection e1 with e3 e4
    exact ⟨e3, e4⟩
  obtain ⟨g4, o4, c4, hv3, _, _, _, _, hat⟩ := Sl.atC (L := g) (h.slg (x := (.slice (some ⟨g3, o3, none⟩) g.length c3, g)) (List.mem_cons_self ..)) (by have := (List.getElem?_eq_some_iff.1 hc).1; omega)
  obtain ⟨rfl, rfl⟩ : g3 = g4 ∧ o3 = o4 := by
    injection hv3 with e1 _ e2
    injection e1 with e1
    injection e1 with e3 e4
    exact ⟨e3, e4⟩
  obtain ⟨p0, p1, p2, p3, p4, p5, p6, p7, p8⟩ := hat k c hc
  have h4 := h.c4
  rw [hnow, Int.sub_zero] at h4
  exact ⟨h4, h.c0, hcell' 0 _ (by simp), p0, p1, p2, p3, p4, p5, p6, p7, p8⟩
def BndRes (W : World) (b : Lb) (s : Lg) (R : Heap) (e : Ending) (w' : World) : Prop := e = .returned (.tuple #[]) ∧ ∃ b', b'.lb = b.lb ∧ RefAt W w' b' s.close R
set_option maxRecDepth 100000 in
set_option maxHeartbeats 4000000 in
theorem rclose_any (h : RefAt W w b s R) (hg : Good s) (hS : Small s) : Calls Tryd.prog 53 #[.pointer (some ⟨b.lb, 0, none⟩)] w (BndRes W b s R) := by
  have H := hide h
  have HG := hide hg
  have HSM := hide hS
  obtain ⟨A1, d1, hv1, _⟩ := h.slO.form
  obtain ⟨nO, hnO⟩ : ∃ nO, nO = s.O.length := ⟨_, rfl⟩
  rw [← hnO] at hv1
  have c1 := h.c1
  rw [hv1] at c1
  have hnn : nO ≤ 1000000 := by rw [hnO]; exact hS.lenO
  have HV1 := hide hv1
  have HNO := hide hnO
  clear h hg hS hv1 hnO
  go_enter Tryd.func53, Tryd.ntmps53
  go_upto_if 8 with fail
  go_cut [] (fun wx => ∃ b1, b1.lb = b.lb ∧ RefAt W wx b1 s.shut R)
  case first =>
    by_cases hO : nO = 0
    · have HSH := hide (show s.shut = s by unfold Lg.shut; rw [if_pos (List.eq_nil_of_length_eq_zero (HNO.out.symm.trans hO))])
      subst hO
      go_wp2_with fail
      go_meet
      exact ⟨b, rfl, by rw [HSH.out]; exact H.out⟩
    · have hpos : 0 < nO := by omega
      have hz1 : decide ((0 : Int) < (nO : Int)) = true := by simp; omega
      have hz2 : decide (0 < nO) = true := by simpa using hpos
      have HSH := hide (show s.shut = { s with G := s.G ++ [s.O], O := [], now := 0 } by unfold Lg.shut; rw [if_neg (fun e => hO (by rw [HNO.out, e]; rfl))])
      clear hO
      obtain ⟨i0, hi, hj0, hj1, hj2⟩ := info_parts info_chgs
      have HI := hide hi
      have HZ := hide hj0
      have HZ1 := hide hj1
      have HZ2 := hide hj2
      clear hi hj0 hj1 hj2
      have hbx2 := (H.out.drew).skip (.cells #[.slice A1 nO d1] 40)
      have hbx := H.out.skip (.cells #[.slice A1 nO d1] 40)
      obtain ⟨A5, d5, hv5, _⟩ := H.out.slG.form
      have g1 : w.cell? ⟨b.lb, 0, none⟩ = some (.slice A5 b.gs.length d5) := H.out.c0.trans (congrArg some hv5)
      have g2 : (w.alloc (.cells #[.slice A1 nO d1] 40)).cell? ⟨b.lb, 0, none⟩ = some (.slice A5 b.gs.length d5) := hbx.c0.trans (congrArg some hv5)
      have HSL := hide (show Sl (w.drew.alloc (.cells #[.slice A1 nO d1] 40)) 40 1 (.slice A5 b.gs.length d5) b.gs.length (b.gs.map (·.1)) by rw [← hv5]; exact hbx2.slG)
      have HX := hide hbx2
      have HV5 := hide hv5
      have HB5 := hide (show b.gs.length ≤ 1000000 by rw [← H.out.len]; exact HSM.out.many)
      clear hbx hbx2 hv5
      go_wp2_with fail
      go_upto_region 1 with fail
      go_cut [] (fun wx => ∃ v', RefAt W wx ⟨b.lb, v', .slice none 0 0, b.gs ++ [(b.ov, s.O)]⟩ { s with G := s.G ++ [s.O], O := [] } R)
      case first =>
        go_region_law
          ((refine step_append_sl rfl (.tmp 14) (.tmp 19) 47 rfl 40 i0 _ 1 24 Tryd.underlying47 HI.out HZ.out HZ1.out HZ2.out rfl _ b.gs.length (b.gs.map fun x : Value × List Chg => x.1) rfl HSL.out _ rfl 1 _ (rd_one w.drew 40 (.slice A1 nO d1)) (by intro u hu; simp at hu; subst hu; rfl) (by have := HB5.out; unfold maxLen; omega) (by have := HB5.out; omega) ?_; intro v' w6 hs6 ho6 hv6; rw [← HV5.out] at ho6 hv6; rw [← HV1.out] at hs6; have hadd := HX.out.shutAt hs6 ho6 hv6; obtain ⟨A6, d6, rfl, _⟩ := hs6.form; have x1 : w6.cell? ⟨b.lb, 0, none⟩ = some b.gv := hadd.1.cell 0; have x2 : w6.cell? ⟨b.lb, 1, none⟩ = some b.ov := hadd.1.cell 1; have f1 : w6.frozen? ⟨b.lb, 0, none⟩ = false := hadd.1.frozen 0; have f2 : w6.frozen? ⟨b.lb, 1, none⟩ = false := hadd.1.frozen 1; have HN6 := hide hadd.2; clear hs6 ho6 hv6 hadd))
        all_goals (go_wp2_with fail; go_meet; exact ⟨_, HN6.out⟩)
      case rest =>
        obtain ⟨v', h6⟩ := hcut
        obtain ⟨d, hd⟩ : ∃ d, d = s.cost - s.now := ⟨_, rfl⟩
        have m4 : wc.cell? ⟨b.lb, 4, none⟩ = some (.int .i64 d) := by rw [hd]; exact h6.c4
        have m5 : wc.cell? ⟨b.lb, 5, none⟩ = some (.int .i64 s.now) := h6.c5
        have f4 : wc.frozen? ⟨b.lb, 4, none⟩ = false := h6.blk.frozen 4
        have f5 : wc.frozen? ⟨b.lb, 5, none⟩ = false := h6.blk.frozen 5
        have hcn : s.cost = ((sumG s.G + total s.O : Nat) : Int) := HG.out.cost
        have hnn2 : s.now = ((total s.O : Nat) : Int) := HG.out.now
        have hcs := HSM.out.cost
        have hd0 : 0 ≤ d := by rw [hd]; omega
        have hd1 : d ≤ 1099511627776 := by rw [hd]; omega
        have hn0 : 0 ≤ s.now := by omega
        have hn1 : s.now ≤ 1099511627776 := by omega
        have hd2 : d + s.now = s.cost := by omega
        have HN7 := hide (show RefAt W ((wc.setCell ⟨b.lb, 4, none⟩ (.int .i64 (d + s.now))).setCell ⟨b.lb, 5, none⟩ (.int .i64 0)) ⟨b.lb, v', .slice none 0 0, b.gs ++ [(b.ov, s.O)]⟩ s.shut R from by
          have k1 := (h6.own)
          unfold Lb.rheap at k1
          have k2 := (Own.setCell k1 4 (.int .i64 (d + s.now))).setCell 5 (.int .i64 0)
          rw [HSH.out]
          refine ⟨?_, ⟨h6.ok.grp, h6.ok.okG, h6.ok.okO, h6.ok.okg⟩⟩
          unfold Lb.rheap
          have e : ((refCells (⟨b.lb, v', .slice none 0 0, b.gs ++ [(b.ov, s.O)]⟩ : Lb) { s with G := s.G ++ [s.O], O := [] }).setIfInBounds 4 (.int .i64 (d + s.now))).setIfInBounds 5 (.int .i64 0) = refCells (⟨b.lb, v', .slice none 0 0, b.gs ++ [(b.ov, s.O)]⟩ : Lb) { s with G := s.G ++ [s.O], O := [], now := 0 } := by
            rw [hd2]
            simp only [refCells]
            rw [Int.sub_zero]
            rfl
          rw [e] at k2
          exact k2)
        clear h6 hd hcn hnn2 hcs hd2
        go_wp2_with fail
        go_region
        all_goals
          go_wp2_with fail
          go_meet
          exact ⟨⟨b.lb, v', .slice none 0 0, b.gs ++ [(b.ov, s.O)]⟩, rfl, HN7.out.below ⟨rfl, rfl, rfl, Nat.le_refl _, fun _ _ => rfl⟩⟩
  case rest =>
    obtain ⟨b1, hb1, h1⟩ := hcut
    obtain ⟨s1, hs1⟩ : ∃ s1, s1 = s.shut := ⟨_, rfl⟩
    rw [← hs1] at h1
    have HS1 := hide hs1
    have HNOW := hide (show s1.now = 0 by rw [hs1]; exact shut_now HG.out)
    have HL := hide (show s1.lim = s.lim by rw [hs1]; unfold Lg.shut; split <;> rfl)
    have HF := hide (show s1.cost = ((sumG s1.G : Nat) : Int) ∧ -1 ≤ s1.ch ∧ s1.ch ≤ 10000000 ∧ s1.G.length ≤ 1000001 ∧ s1.cost ≤ 1099511627776 ∧ (∀ g ∈ s1.G, g.length ≤ 1000000 ∧ ∀ c ∈ g, c.tx.size ≤ 1099511627776) from by
      have g := HG.out
      have m := HSM.out
      rw [hs1, shut_G]
      have e1 : s.shut.cost = s.cost := by unfold Lg.shut; split <;> rfl
      have e2 : s.shut.ch = s.ch := by unfold Lg.shut; split <;> rfl
      rw [e1, e2]
      refine ⟨?_, g.ch1, by have := g.ch2; have := m.many; omega, ?_, m.cost, ?_⟩
      · rw [g.cost]
        unfold Lg.all
        split
        · rename_i e
          rw [e, total_nil, Nat.add_zero]
        · rw [sumG_append, sumG_cons, sumG_nil, Nat.add_zero]
      · have := m.many
        unfold Lg.all
        split
        · omega
        · simp; omega
      · intro x hx
        exact ⟨m.all_len hx, m.all_txt hx⟩)
    have H1 := hide (And.intro hb1 h1)
    clear hb1 h1 hs1 HNO HV1 hnn
    go_wp2
    go_loopw [] (fun wr => ∃ (b' : Lb) (G : List (List Chg)) (cost ch : Int), b'.lb = b.lb ∧ RefAt W wr b' { s1 with G := G, cost := cost, ch := ch } R ∧ trim s1.lim G cost ch = trim s1.lim s1.G s1.cost s1.ch ∧ cost = ((sumG G : Nat) : Int) ∧ (∀ g ∈ G, g ∈ s1.G) ∧ G.length ≤ s1.G.length ∧ -1 ≤ ch ∧ ch ≤ 10000000 ∧ cost ≤ 1099511627776) (fun wr => match wr.cell? ⟨b.lb, 0, none⟩ with | some (.slice _ n _) => n | _ => 0)
    case atStart => exact ⟨b1, s1.G, s1.cost, s1.ch, H1.out.1, H1.out.2, rfl, HF.out.1, fun _ h => h, Nat.le_refl _, HF.out.2.1, HF.out.2.2.1, HF.out.2.2.2.2.1⟩
    case round =>
      obtain ⟨b2, G, cost, ch, hb2, h2, htr, hco, hsub, hlen, hch1, hch2, hcost⟩ := hrel
      obtain ⟨lb2, gv2, ov2, gs2⟩ := b2
      obtain rfl : lb2 = b.lb := hb2
      have hgl : G.length = gs2.length := h2.len
      have c2 : wr.cell? ⟨b.lb, 2, none⟩ = some (.int .i64 s1.lim) := h2.c2
      have c4 : wr.cell? ⟨b.lb, 4, none⟩ = some (.int .i64 cost) := by rw [h2.c4]; show some (Value.int .i64 (cost - s1.now)) = _; rw [HNOW.out, Int.sub_zero]
      have hlim1 : 1 ≤ s1.lim ∧ s1.lim ≤ 1048576 := by rw [HL.out]; exact ⟨HG.out.lim1, HG.out.lim2⟩
      have HCO := hide hco
      have HTR := hide htr
      have HSUB := hide hsub
      have HLEN := hide (And.intro hlen hgl)
      have HLIM := hide hlim1
      have hc0 : 0 ≤ cost := by omega
      clear hco htr hsub hlim1
      by_cases hover : s1.lim < cost
      · have z1 : decide (s1.lim < cost) = true := by simpa using hover
        rcases G with _ | ⟨g, _ | ⟨g2, r⟩⟩
        · obtain ⟨A9, d9, hv9, _⟩ := h2.slG.form
          have hl0 : gs2.length = 0 := hgl.symm
          have c0 : wr.cell? ⟨b.lb, 0, none⟩ = some (.slice A9 0 d9) := h2.c0.trans (congrArg some (by rw [← hl0]; exact hv9))
          have HE := hide (show s.close = { s1 with G := [], cost := cost, ch := ch } by unfold Lg.close; rw [← HS1.out]; unfold Lg.trimmed; rw [← HTR.out]; rw [trim_stop (.inr (by simp))])
          have HH := hide h2
          clear h2 hv9 hover hgl hl0 hlen
          go_wp2
          go_quiet (fail)
          go_wp2
          go_end0
          exact ⟨rfl, ⟨b.lb, gv2, ov2, gs2⟩, rfl, by rw [HE.out]; exact HH.out.drewN _⟩
        · obtain ⟨A9, d9, hv9, _⟩ := h2.slG.form
          have hl0 : gs2.length = 1 := hgl.symm
          have c0 : wr.cell? ⟨b.lb, 0, none⟩ = some (.slice A9 1 d9) := h2.c0.trans (congrArg some (by rw [← hl0]; exact hv9))
          have HE := hide (show s.close = { s1 with G := [g], cost := cost, ch := ch } by unfold Lg.close; rw [← HS1.out]; unfold Lg.trimmed; rw [← HTR.out]; rw [trim_stop (.inr (by simp))])
          have HH := hide h2
          clear h2 hv9 hover hgl hl0 hlen
          go_wp2
          go_quiet (fail)
          go_wp2
          go_end0
          exact ⟨rfl, ⟨b.lb, gv2, ov2, gs2⟩, rfl, by rw [HE.out]; exact HH.out.drewN _⟩
        · have HGRP := hide h2.ok.grp
          rcases gs2 with _ | ⟨⟨v0, l0⟩, _ | ⟨x1, rs⟩⟩
          · simp at hgl
          · simp at hgl
          obtain ⟨hg0, hg1⟩ : g = l0 ∧ g2 :: r = (x1 :: rs).map (·.2) := by
            have := HGRP.out
            simp only [List.map_cons, List.cons.injEq] at this
            exact ⟨this.1, by simpa using this.2⟩
          subst hg0
          have hrl : (x1 :: rs).length = r.length + 1 := by have := congrArg List.length hg1; simpa using this.symm
          obtain ⟨gb, off, cp, hv9, hcp, hcm, hcell, hfz, hgbl⟩ := h2.slG.at_ (by simp)
          obtain rfl : gv2 = .slice (some ⟨gb, off, none⟩) (rs.length + 1 + 1) cp := hv9
          have c0 : wr.cell? ⟨b.lb, 0, none⟩ = some (.slice (some ⟨gb, off, none⟩) (rs.length + 1 + 1) cp) := h2.c0
          have hc9 : wr.cell? ⟨gb, off, none⟩ = some v0 := hcell 0 v0 (by simp)
          have hs0 := h2.slg (x := (v0, g)) (List.mem_cons_self ..)
          obtain ⟨A0, d0, hv0, hd0, hd1⟩ := hs0.form
          obtain ⟨n0, hn0⟩ : ∃ n0, n0 = g.length := ⟨_, rfl⟩
          rw [← hn0] at hv0 hd0
          obtain rfl : v0 = .slice A0 n0 d0 := hv0
          have hn0b : n0 ≤ 1000000 := by rw [hn0]; exact (HF.out.2.2.2.2.2 g (HSUB.out g (List.mem_cons_self ..))).1
          have HN0 := hide hn0
          have HTX := hide ((HF.out.2.2.2.2.2 g (HSUB.out g (List.mem_cons_self ..))).2)
          have HH := hide h2
          have hzr : decide (1 < rs.length + 1 + 1) = true := by simp
          have hzr2 : decide ((1 : Int) < (rs.length : Int) + 1 + 1) = true := by simp; omega
          have hrs : rs.length + 2 ≤ 1000001 := by have q1 := HLEN.out.1; have q2 := HF.out.2.2.2.1; have q3 := HLEN.out.2; simp at q1 q3; omega
          have HTG := hide (show total g ≤ cost from by have := HCO.out; rw [sumG_cons] at this; omega)
          clear h2 hcell hfz hs0 hg1 hrl hn0 hover hgl hlen
          go_wp2
          go_quiet (fail)
          go_wp2
          obtain ⟨wo, hwo⟩ : ∃ wo, wo = wr.drewN nq := ⟨_, rfl⟩
          have HO := hide (show RefAt W wo _ _ R by rw [hwo]; exact HH.out.drewN nq)
          rw [← hwo]
          clear hwo
          go_loopw [2] (fun j w2 => ∃ k : Nat, k ≤ n0 ∧ j = .int .i64 (k : Int) ∧ RefAt W w2 ⟨b.lb, .slice (some ⟨gb, off, none⟩) (rs.length + 1 + 1) cp, ov2, (.slice A0 n0 d0, g) :: x1 :: rs⟩ { s1 with G := g :: g2 :: r, cost := cost - (total (g.take k) : Int), ch := ch } R) (fun j _ => n0 - (intOf j).toNat)
          case atStart => exact ⟨0, Nat.zero_le _, rfl, by simpa [total] using HO.out⟩
          case round =>
            obtain ⟨k, hk, rfl, h3⟩ := hrel
            obtain ⟨gb', off', cp', hv9', _, _, hcell', _⟩ := h3.slG.at_ (by simp)
            obtain ⟨rfl, rfl⟩ : gb = gb' ∧ off = off' := by
              injection hv9' with e1 _ e2
              injection e1 with e1
              injection e1 with e3 e4
              exact ⟨e3, e4⟩
            have m0 : wr.cell? ⟨b.lb, 0, none⟩ = some (.slice (some ⟨gb, off, none⟩) (rs.length + 1 + 1) cp) := h3.c0
            have m9 : wr.cell? ⟨gb, off, none⟩ = some (.slice A0 n0 d0) := hcell' 0 _ (by simp)
            by_cases hlt : k < n0
            · have y1 : decide (k < n0) = true := by simpa using hlt
              have y2 : decide ((k : Int) < (n0 : Int)) = true := by simp; omega
              obtain ⟨c, hc⟩ : ∃ c, g[k]? = some c := ⟨_, List.getElem?_eq_getElem (by rw [← HN0.out]; exact hlt)⟩
              have hs3 := h3.slg (x := (.slice A0 n0 d0, g)) (List.mem_cons_self ..)
              obtain ⟨g3, o3, c3, hv3, _, _, hg3l, _, hat⟩ := Sl.atC (L := g) hs3 (by rw [← HN0.out]; omega)
              obtain ⟨rfl, rfl⟩ : A0 = some ⟨g3, o3, none⟩ ∧ d0 = c3 := by
                injection hv3 with e1 _ e2
                exact ⟨e1, e2⟩
              have HC := hide hc
              have HTS := hide (total_take_succ hc)
              have HTK := hide (total_take_le g (k + 1))
              have HCT := hide (HTX.out c (List.mem_of_getElem? hc))
              obtain ⟨Tk, hTk⟩ : ∃ Tk : Int, Tk = (total (g.take k) : Int) := ⟨_, rfl⟩
              obtain ⟨Pk, hPk⟩ : ∃ Pk : Int, Pk = (c.price : Int) := ⟨_, rfl⟩
              have HPR := hide (fun w => by have := rprice_any c w HCT.out; rwa [← hPk] at this : ∀ w, Calls Tryd.prog 61 #[c.val] w fun e w' => e = .returned (.int .i64 Pk) ∧ Below w.heap.size w w')
              have q1 : (0 : Int) ≤ Tk + Pk := by omega
              have q2 : Tk + Pk ≤ cost := by have h1 := HTS.out; have h2 := HTK.out; have h3 := HTG.out; omega
              have q3 : (0 : Int) ≤ Tk := by omega
              have q4 : (0 : Int) ≤ Pk := by omega
              have HEQ := hide (show cost - (total (g.take (k + 1)) : Int) = cost - Tk - Pk from by have h1 := HTS.out; omega)
              have hw1 : IntKind.i64.wrap (cost - Tk - Pk) = cost - Tk - Pk := IntWalk.i64_in _ (by omega)
              rw [← hTk] at h3
              have H3 := hide h3
              have HSS := hide (fun w2 h => RefAt.boundS (w := w2) h rfl HN0.out HC.out HNOW.out : ∀ w2, RefAt W w2 ⟨b.lb, .slice (some ⟨gb, off, none⟩) (rs.length + 1 + 1) cp, ov2, (.slice (some ⟨g3, o3, none⟩) n0 d0, g) :: x1 :: rs⟩ { s1 with G := g :: g2 :: r, cost := cost - Tk, ch := ch } R → BoundS b.lb (cost - Tk) (.slice (some ⟨gb, off, none⟩) (rs.length + 1 + 1) cp) gb off (.slice (some ⟨g3, o3, none⟩) n0 d0) g3 (o3 + k * 9) c w2)
              have hS := HSS.out _ h3.drew
              have hk0 : (0 : Int) ≤ (k : Int) := by omega
              have hp2 : (0 : Int) < (rs.length : Int) + 1 + 1 := by omega
              have hk1 : (k : Int) < (n0 : Int) := by omega
              clear h3 hs3 hat hv3 hc hTk hPk hcell' hv9'
              go_upto_region 7 with fail
              refine wp_region_d (S := BoundS b.lb (cost - Tk) (.slice (some ⟨gb, off, none⟩) (rs.length + 1 + 1) cp) gb off (.slice (some ⟨g3, o3, none⟩) n0 d0) g3 (o3 + k * 9) c) (D := [18]) (by kernel_rfl) ?_
              change wpAnyD _ _ _ _ _ _ _ _ _ (World.drew _)
              refine wpAnyD_takeW (i := 0) (oi := { dst := some 68, op := Op.move (Operand.tmp 0), type := 63, pos := "ref.go:82", after := #[], guard := none }) (v := ?_) rfl (by kernel_rfl) (by kernel_rfl) (by kernel_rfl) (fun _ _ _ h => h) (Or.inl ⟨by rfl, ?_⟩) ?_
              rotate_left
              · intro w hSw
                clear hSw
                go_simp
                all_goals with_reducible rfl
              simp only [Act.put, List.setIfInBounds_toArray, List.set_cons_zero, List.set_cons_succ]
              refine wpAnyD_takeW (i := 1) (oi := { dst := some 69, op := Op.move (Operand.tmp 0), type := 63, pos := "ref.go:82", after := #[], guard := none }) (v := ?_) rfl (by kernel_rfl) (by kernel_rfl) (by kernel_rfl) (fun _ _ _ h => h) (Or.inl ⟨by rfl, ?_⟩) ?_
              rotate_left
              · intro w hSw
                clear hSw
                go_simp
                all_goals with_reducible rfl
              simp only [Act.put, List.setIfInBounds_toArray, List.set_cons_zero, List.set_cons_succ]
              refine wpAnyD_takeW (i := 2) (oi := { dst := some 70, op := Op.nilCheck (Operand.tmp 69), type := 0, pos := "ref.go:82", after := #[{ on := 1, ground := Ground.data }], guard := none }) (v := ?_) rfl (by kernel_rfl) (by kernel_rfl) (by kernel_rfl) (fun _ _ _ h => h) (Or.inl ⟨by rfl, ?_⟩) ?_
              rotate_left
              · intro w hSw
                clear hSw
                go_simp
                all_goals with_reducible rfl
              simp only [Act.put, List.setIfInBounds_toArray, List.set_cons_zero, List.set_cons_succ]
              refine wpAnyD_takeW (i := 3) (oi := { dst := some 71, op := Op.fieldAddr 90 (Operand.tmp 70) 4, type := 0, pos := "ref.go:82", after := #[{ on := 2, ground := Ground.data }], guard := none }) (v := ?_) rfl (by kernel_rfl) (by kernel_rfl) (by kernel_rfl) (fun _ _ _ h => h) (Or.inl ⟨by rfl, ?_⟩) ?_
              rotate_left
              · intro w hSw
                clear hSw
                go_simp
                all_goals with_reducible rfl
              simp only [Act.put, List.setIfInBounds_toArray, List.set_cons_zero, List.set_cons_succ]
              refine wpAnyD_take (i := 4) (oi := { dst := some 72, op := Op.load 3 (Operand.tmp 71), type := 3, pos := "ref.go:82", after := #[{ on := 3, ground := Ground.data }], guard := none }) (v := ?_) rfl (by kernel_rfl) (by kernel_rfl) (by kernel_rfl) (by kernel_rfl) (by kernel_rfl) (fun _ _ _ h => h) (Or.inl ⟨by rfl, ?_⟩) hS ?_
              rotate_left
              · intro w hSw
                unfold BoundS at hSw
                go_split_ands
                go_simp
                all_goals with_reducible rfl
              simp only [Act.put, List.setIfInBounds_toArray, List.set_cons_zero, List.set_cons_succ]
              refine wpAnyD_takeW (i := 5) (oi := { dst := some 73, op := Op.move (Operand.tmp 0), type := 63, pos := "ref.go:82", after := #[], guard := none }) (v := ?_) rfl (by kernel_rfl) (by kernel_rfl) (by kernel_rfl) (fun _ _ _ h => h) (Or.inl ⟨by rfl, ?_⟩) ?_
              rotate_left
              · intro w hSw
                clear hSw
                go_simp
                all_goals with_reducible rfl
              simp only [Act.put, List.setIfInBounds_toArray, List.set_cons_zero, List.set_cons_succ]
              refine wpAnyD_takeW (i := 6) (oi := { dst := some 74, op := Op.nilCheck (Operand.tmp 73), type := 0, pos := "ref.go:82", after := #[{ on := 5, ground := Ground.data }], guard := none }) (v := ?_) rfl (by kernel_rfl) (by kernel_rfl) (by kernel_rfl) (fun _ _ _ h => h) (Or.inl ⟨by rfl, ?_⟩) ?_
              rotate_left
              · intro w hSw
                clear hSw
                go_simp
                all_goals with_reducible rfl
              simp only [Act.put, List.setIfInBounds_toArray, List.set_cons_zero, List.set_cons_succ]
              refine wpAnyD_takeW (i := 7) (oi := { dst := some 75, op := Op.fieldAddr 90 (Operand.tmp 74) 0, type := 0, pos := "ref.go:82", after := #[{ on := 6, ground := Ground.data }], guard := none }) (v := ?_) rfl (by kernel_rfl) (by kernel_rfl) (by kernel_rfl) (fun _ _ _ h => h) (Or.inl ⟨by rfl, ?_⟩) ?_
              rotate_left
              · intro w hSw
                clear hSw
                go_simp
                all_goals with_reducible rfl
              simp only [Act.put, List.setIfInBounds_toArray, List.set_cons_zero, List.set_cons_succ]
              refine wpAnyD_take (i := 8) (oi := { dst := some 76, op := Op.load 47 (Operand.tmp 75), type := 47, pos := "ref.go:82", after := #[{ on := 7, ground := Ground.data }], guard := none }) (v := ?_) rfl (by kernel_rfl) (by kernel_rfl) (by kernel_rfl) (by kernel_rfl) (by kernel_rfl) (fun _ _ _ h => h) (Or.inl ⟨by rfl, ?_⟩) hS ?_
              rotate_left
              · intro w hSw
                unfold BoundS at hSw
                go_split_ands
                go_simp
                all_goals with_reducible rfl
              simp only [Act.put, List.setIfInBounds_toArray, List.set_cons_zero, List.set_cons_succ]
              refine wpAnyD_takeW (i := 9) (oi := { dst := some 77, op := Op.indexAddr 47 (Operand.tmp 76) (Operand.const (Value.int IntKind.i64 0)), type := 0, pos := "ref.go:82", after := #[{ on := 8, ground := Ground.data }], guard := none }) (v := ?_) rfl (by kernel_rfl) (by kernel_rfl) (by kernel_rfl) (fun _ _ _ h => h) (Or.inl ⟨by rfl, ?_⟩) ?_
              rotate_left
              · intro w hSw
                clear hSw
                go_simp
                all_goals with_reducible rfl
              simp only [Act.put, List.setIfInBounds_toArray, List.set_cons_zero, List.set_cons_succ]
              refine wpAnyD_take (i := 10) (oi := { dst := some 78, op := Op.load 40 (Operand.tmp 77), type := 40, pos := "ref.go:82", after := #[{ on := 9, ground := Ground.data }], guard := none }) (v := ?_) rfl (by kernel_rfl) (by kernel_rfl) (by kernel_rfl) (by kernel_rfl) (by kernel_rfl) (fun _ _ _ h => h) (Or.inl ⟨by rfl, ?_⟩) hS ?_
              rotate_left
              · intro w hSw
                unfold BoundS at hSw
                go_split_ands
                go_simp
                all_goals with_reducible rfl
              simp only [Act.put, List.setIfInBounds_toArray, List.set_cons_zero, List.set_cons_succ]
              refine wpAnyD_takeW (i := 11) (oi := { dst := some 79, op := Op.move (Operand.tmp 2), type := 3, pos := "ref.go:82", after := #[], guard := none }) (v := ?_) rfl (by kernel_rfl) (by kernel_rfl) (by kernel_rfl) (fun _ _ _ h => h) (Or.inl ⟨by rfl, ?_⟩) ?_
              rotate_left
              · intro w hSw
                clear hSw
                go_simp
                all_goals with_reducible rfl
              simp only [Act.put, List.setIfInBounds_toArray, List.set_cons_zero, List.set_cons_succ]
              refine wpAnyD_takeW (i := 12) (oi := { dst := some 80, op := Op.indexAddr 40 (Operand.tmp 78) (Operand.tmp 79), type := 0, pos := "ref.go:82", after := #[{ on := 10, ground := Ground.data }, { on := 11, ground := Ground.data }], guard := none }) (v := ?_) rfl (by kernel_rfl) (by kernel_rfl) (by kernel_rfl) (fun _ _ _ h => h) (Or.inl ⟨by rfl, ?_⟩) ?_
              rotate_left
              · intro w hSw
                clear hSw
                go_simp
                all_goals with_reducible rfl
              simp only [Act.put, List.setIfInBounds_toArray, List.set_cons_zero, List.set_cons_succ]
              refine wpAnyD_take (i := 13) (oi := { dst := some 81, op := Op.load 51 (Operand.tmp 80), type := 51, pos := "ref.go:82", after := #[{ on := 12, ground := Ground.data }], guard := none }) (v := ?_) rfl (by kernel_rfl) (by kernel_rfl) (by kernel_rfl) (by kernel_rfl) (by kernel_rfl) (fun _ _ _ h => h) (Or.inl ⟨by rfl, ?_⟩) hS ?_
              rotate_left
              · intro w hSw
                unfold BoundS at hSw
                go_split_ands
                go_simp
                all_goals with_reducible rfl
              simp only [Act.put, List.setIfInBounds_toArray, List.set_cons_zero, List.set_cons_succ]
              refine wpAnyD_one (i := 14) (o := { dst := some 82, op := Op.call { callee := Callee.value (Operand.func 61), args := #[Operand.tmp 81], argTypes := #[51] }, type := 3, pos := "ref.go:82", after := #[{ on := 13, ground := Ground.data }], guard := none }) (by kernel_rfl) rfl (fun K hK => ?_)
              go_simp
              refine (Calls.mono (HPR.out _)) ?_
              rintro e w7 ⟨rfl, hb⟩
              have h7 := H3.out.drew.below hb
              have H7 := hide h7
              clear hb
              go_wp2_with fail
              refine hK _ _ (fun _ _ => HSS.out _ h7) ?_
              clear hK K hS
              have hS := HSS.out _ h7
              clear h7
              refine wpAnyD_takeW (i := 15) (oi := { dst := some 83, op := Op.binOp BinOp.sub 3 (Operand.tmp 72) (Operand.tmp 82) 3, type := 3, pos := "ref.go:82", after := #[{ on := 4, ground := Ground.data }, { on := 14, ground := Ground.data }], guard := none }) (v := ?_) rfl (by kernel_rfl) (by kernel_rfl) (by kernel_rfl) (fun _ _ _ h => h) (Or.inl ⟨by rfl, ?_⟩) ?_
              rotate_left
              · intro w hSw
                clear hSw
                go_simp
                all_goals with_reducible rfl
              simp only [Act.put, List.setIfInBounds_toArray, List.set_cons_zero, List.set_cons_succ]
              refine wpAnyD_takeW (i := 16) (oi := { dst := some 84, op := Op.nilCheck (Operand.tmp 68), type := 0, pos := "ref.go:82", after := #[{ on := 0, ground := Ground.data }, { on := 0, ground := Ground.phase }, { on := 1, ground := Ground.phase }, { on := 2, ground := Ground.phase }, { on := 3, ground := Ground.phase }, { on := 4, ground := Ground.phase }, { on := 5, ground := Ground.phase }, { on := 6, ground := Ground.phase }, { on := 7, ground := Ground.phase }, { on := 8, ground := Ground.phase }, { on := 9, ground := Ground.phase }, { on := 10, ground := Ground.phase }, { on := 11, ground := Ground.phase }, { on := 12, ground := Ground.phase }, { on := 13, ground := Ground.phase }, { on := 14, ground := Ground.phase }, { on := 15, ground := Ground.phase }], guard := none }) (v := ?_) rfl (by kernel_rfl) (by kernel_rfl) (by kernel_rfl) (fun _ _ _ h => h) (Or.inl ⟨by rfl, ?_⟩) ?_
              rotate_left
              · intro w hSw
                clear hSw
                go_simp
                all_goals with_reducible rfl
              simp only [Act.put, List.setIfInBounds_toArray, List.set_cons_zero, List.set_cons_succ]
              refine wpAnyD_takeW (i := 17) (oi := { dst := some 85, op := Op.fieldAddr 90 (Operand.tmp 84) 4, type := 0, pos := "ref.go:82", after := #[{ on := 16, ground := Ground.data }, { on := 0, ground := Ground.phase }, { on := 1, ground := Ground.phase }, { on := 2, ground := Ground.phase }, { on := 3, ground := Ground.phase }, { on := 4, ground := Ground.phase }, { on := 5, ground := Ground.phase }, { on := 6, ground := Ground.phase }, { on := 7, ground := Ground.phase }, { on := 8, ground := Ground.phase }, { on := 9, ground := Ground.phase }, { on := 10, ground := Ground.phase }, { on := 11, ground := Ground.phase }, { on := 12, ground := Ground.phase }, { on := 13, ground := Ground.phase }, { on := 14, ground := Ground.phase }, { on := 15, ground := Ground.phase }], guard := none }) (v := ?_) rfl (by kernel_rfl) (by kernel_rfl) (by kernel_rfl) (fun _ _ _ h => h) (Or.inl ⟨by rfl, ?_⟩) ?_
              rotate_left
              · intro w hSw
                clear hSw
                go_simp
                all_goals with_reducible rfl
              simp only [Act.put, List.setIfInBounds_toArray, List.set_cons_zero, List.set_cons_succ]
              refine wpAnyD_one (i := 18) (o := { dst := none, op := Op.store 3 (Operand.tmp 85) (Operand.tmp 83), type := 0, pos := "ref.go:82", after := #[{ on := 17, ground := Ground.data }, { on := 15, ground := Ground.data }, { on := 14, ground := Ground.chain }, { on := 0, ground := Ground.phase }, { on := 1, ground := Ground.phase }, { on := 2, ground := Ground.phase }, { on := 3, ground := Ground.phase }, { on := 4, ground := Ground.phase }, { on := 5, ground := Ground.phase }, { on := 6, ground := Ground.phase }, { on := 7, ground := Ground.phase }, { on := 8, ground := Ground.phase }, { on := 9, ground := Ground.phase }, { on := 10, ground := Ground.phase }, { on := 11, ground := Ground.phase }, { on := 12, ground := Ground.phase }, { on := 13, ground := Ground.phase }, { on := 14, ground := Ground.phase }, { on := 15, ground := Ground.phase }], guard := none }) (by kernel_rfl) rfl (fun K hK => ?_)
              have n4 : w7.cell? ⟨b.lb, 4, none⟩ = some (.int .i64 (cost - Tk)) := hS.1
              have f4 : w7.frozen? ⟨b.lb, 4, none⟩ = false := H7.out.blk.frozen 4
              clear hS
              go_simp
              refine hK _ _ (fun h _ => absurd h (by decide)) ?_
              clear hK K
              refine wpAnyD_done (by kernel_rfl) ?_ _
              go_wp2
              go_roundw
              case rel => exact ⟨k + 1, by omega, by go_num, by rw [HEQ.out]; exact H7.out.setCell (i := 4) (u := .int .i64 (cost - Tk - Pk)) (s' := { s1 with G := g :: g2 :: r, cost := cost - Tk - Pk, ch := ch }) (by simp only [refCells]; rw [HNOW.out, Int.sub_zero, Int.sub_zero]; rfl) rfl rfl⟩
              case measure => simp [intOf]; omega
            · have y1 : decide (k < n0) = false := by simpa using hlt
              have y2 : decide ((k : Int) < (n0 : Int)) = false := by simp; omega
              obtain rfl : k = n0 := by omega
              have HTL := hide (show total (g.take k) = total g by rw [List.take_of_length_le (by rw [HN0.out]; exact Nat.le_refl _)])
              rw [HTL.out] at h3
              have m4 : wr.frozen? ⟨b.lb, 0, none⟩ = false := h3.blk.frozen 0
              have m5 : wr.cell? ⟨b.lb, 3, none⟩ = some (.int .i64 ch) := h3.c3
              have m6 : wr.frozen? ⟨b.lb, 3, none⟩ = false := h3.blk.frozen 3
              have HGO := hide (show RefAt W (wr.setCell ⟨b.lb, 0, none⟩ (.slice (some ⟨gb, off + 1, none⟩) (rs.length + 1) (cp - 1))) ⟨b.lb, .slice (some ⟨gb, off + 1, none⟩) (rs.length + 1) (cp - 1), ov2, x1 :: rs⟩ { s1 with G := g2 :: r, cost := cost - (total g : Int), ch := ch } R from h3.firstGone (v := .slice A0 k d0) (l := g) (r := x1 :: rs) (g := gb) (off := off) (c := cp) rfl rfl rfl)
              have hcp1 : 1 < cp := by simp at hcp; omega
              clear hlt hk h3 hcell' hv9'
              have HQ := hide c0
              have HG2 := hide (show trim s1.lim (g2 :: r) (cost - (total g : Int)) (if 0 < ch then ch - 1 else ch) = trim s1.lim s1.G s1.cost s1.ch by rw [← HTR.out, trim_step (by simpa using z1)])
              have HCO2 := hide (show cost - (total g : Int) = ((sumG (g2 :: r) : Nat) : Int) by have := HCO.out; rw [sumG_cons] at this; omega)
              have HL2 := hide (show (g2 :: r).length ≤ s1.G.length by have := HLEN.out.1; simp at this ⊢; omega)
              clear c0
              by_cases hch : 0 < ch
              · have zc : decide (0 < ch) = true := by simpa using hch
                rw [if_pos hch] at HG2
                have HN := hide (HGO.out.setCell (i := 3) (u := .int .i64 (ch - 1)) (s' := { s1 with G := g2 :: r, cost := cost - (total g : Int), ch := ch - 1 }) rfl rfl rfl)
                have HC1 := hide (show ((wr.setCell ⟨b.lb, 0, none⟩ (.slice (some ⟨gb, off + 1, none⟩) (rs.length + 1) (cp - 1))).setCell ⟨b.lb, 3, none⟩ (.int .i64 (ch - 1))).cell? ⟨b.lb, 0, none⟩ = some (.slice (some ⟨gb, off + 1, none⟩) (rs.length + 1) (cp - 1)) from HN.out.c0)
                go_wp2
                go_roundw
                case rel => exact ⟨⟨b.lb, (.slice (some ⟨gb, off + 1, none⟩) (rs.length + 1) (cp - 1)), ov2, x1 :: rs⟩, g2 :: r, cost - (total g : Int), ch - 1, rfl, HN.out, HG2.out, HCO2.out, fun y hy => HSUB.out y (List.mem_cons_of_mem _ hy), HL2.out, by omega, by omega, by have := HTG.out; omega⟩
                case measure =>
                  rw [HQ.out, HC1.out]
                  exact Nat.lt_succ_self _
              · have zc : decide (0 < ch) = false := by simpa using hch
                rw [if_neg hch] at HG2
                have HC1 := hide (show (wr.setCell ⟨b.lb, 0, none⟩ (.slice (some ⟨gb, off + 1, none⟩) (rs.length + 1) (cp - 1))).cell? ⟨b.lb, 0, none⟩ = some (.slice (some ⟨gb, off + 1, none⟩) (rs.length + 1) (cp - 1)) from HGO.out.c0)
                go_wp2
                go_roundw
                case rel => exact ⟨⟨b.lb, (.slice (some ⟨gb, off + 1, none⟩) (rs.length + 1) (cp - 1)), ov2, x1 :: rs⟩, g2 :: r, cost - (total g : Int), ch, rfl, HGO.out, HG2.out, HCO2.out, fun y hy => HSUB.out y (List.mem_cons_of_mem _ hy), HL2.out, by omega, by omega, by have := HTG.out; omega⟩
                case measure =>
                  rw [HQ.out, HC1.out]
                  exact Nat.lt_succ_self _
      · have z1 : decide (s1.lim < cost) = false := by simpa using hover
        obtain ⟨A9, d9, hv9, _⟩ := h2.slG.form
        have c0 : wr.cell? ⟨b.lb, 0, none⟩ = some (.slice A9 gs2.length d9) := h2.c0.trans (congrArg some hv9)
        have HE := hide (show s.close = { s1 with G := G, cost := cost, ch := ch } by unfold Lg.close; rw [← HS1.out]; unfold Lg.trimmed; rw [← HTR.out]; rw [trim_stop (.inl (by omega))])
        have HH := hide h2
        clear h2 hv9 hover
        go_wp2
        go_quiet (fail)
        go_wp2
        go_end0
        exact ⟨rfl, ⟨b.lb, gv2, ov2, gs2⟩, rfl, by rw [HE.out]; exact HH.out.drewN _⟩
end
end Go.Proofs.YtghcmakhfdnimaaDoor
