/- The walk of Copy. No condition but those written. -/
import Derived.Test.YtghcmakhfdnimaaDoorUndR
namespace Go.Proofs.YtghcmakhfdnimaaDoor
open Go.RowKit

/-- What Copy leaves. -/
def CopyRes (W : World) (b : Lb) (s : Lg) (R : Heap) (e : Ending) (w' : World) : Prop :=
  ∃ b2 : Lb, e = .returned (.pointer (some ⟨b2.lb, 0, none⟩)) ∧ LogAt W w' b s (b2.heap s ++ R) ∧ LbOk b2 s
section
variable {W w w' : World} {b b2 : Lb} {s s2 : Lg} {R : Heap}
/-- A group joins the closed ones. -/
theorem LogAt.addG {v' x : Value} {l : List Chg} (h : LogAt W w b s (chgRow x l ++ R)) (hs : Sl w' 40 1 v' (b.gs.length + 1) (b.gs.map (·.1) ++ [x])) (ho : Only (fun g => b.gv.ownBlock = some g) w w') (hv : v'.ownBlock = b.gv.ownBlock ∨ v'.ownBlock = some w.heap.size) (okx : RowOk x l.length) :
    Blk w' b.lb 77 (logCells b s) ∧ LogAt W (w'.setCell ⟨b.lb, 1, none⟩ v') ⟨b.lb, v', b.ov, b.gs ++ [(x, l)]⟩ { s with G := s.G ++ [l] } R := by
  have h1 := h.toG
  have h2 := h1.appended hs ho hv
  have hb : Blk w' b.lb 77 (logCells b s) := h2.blk (by simp)
  have h3 : Own W w' ((b.lb, .cells 77 (logCells b s)) :: (rowOf 40 1 v' (b.gs.length + 1) (b.gs.map (·.1) ++ [x]) ++ (chgRow b.ov s.O ++ grpHeap (b.gs ++ [(x, l)])) ++ R)) := by
    refine h2.perm ?_
    rw [grpHeap_snoc]
    classical
    rw [List.perm_iff_count]
    intro x
    simp only [List.count_append, List.count_cons]
    omega
  refine ⟨hb, ⟨?_, by rw [h.grp]; simp, ?_, h.okO, ?_⟩⟩
  · have h4 := h3.setCell 1 v'
    unfold Lb.heap
    rw [show (b.gs ++ [(x, l)]).length = b.gs.length + 1 by simp, show (b.gs ++ [(x, l)]).map (·.1) = b.gs.map (·.1) ++ [x] by simp]
    exact h4
  · show RowOk v' (b.gs ++ [(x, l)]).length
    rw [show (b.gs ++ [(x, l)]).length = b.gs.length + 1 by simp]
    exact hs.rowOk
  · intro y hy
    rcases List.mem_append.1 hy with hy | hy
    · exact h.okg y hy
    · simp at hy
      subst hy
      exact okx
/-- The copy begins: the struct, and the copied open group. -/
theorem LogAt.copied {v : Value} {g : Nat} (h2 : LogAt W w b s (chgRow v s.O ++ ((g, .cells 77 (logCells b s)) :: R))) (_okv : RowOk v s.O.length) :
    LogAt W ((w.setCell ⟨g, 2, none⟩ v).setCell ⟨g, 1, none⟩ (.slice none 0 0)) b s ((⟨g, .slice none 0 0, v, []⟩ : Lb).heap s ++ R) := by
  have h3 := h2.own.perm (R := (g, .cells 77 (logCells b s)) :: (chgRow v s.O ++ (b.heap s ++ R))) (by
    classical
    rw [List.perm_iff_count]
    intro x
    simp only [List.count_append, List.count_cons]
    omega)
  have h4 := (h3.setCell 2 v).setCell 1 (.slice none 0 0)
  refine LogAt.ofOwn (h4.perm ?_) h2.ok
  unfold Lb.heap
  classical
  rw [List.perm_iff_count]
  intro x
  have e : ((logCells b s).setIfInBounds 2 v).setIfInBounds 1 (.slice none 0 0) = logCells ⟨g, .slice none 0 0, v, []⟩ s := rfl
  rw [e]
  simp only [List.count_append, List.count_cons, gosHeap, rowOf_nil, grpHeap, List.flatMap_nil, List.count_nil, List.map_nil, List.length_nil]
  omega
/-- The other log's view, with a fresh group ahead. -/
theorem LogAt.flipC {x : Value} {l : List Chg} (h : LogAt W w b s (chgRow x l ++ (b2.heap s2 ++ R))) (k : LbOk b2 s2) : LogAt W w b2 s2 (chgRow x l ++ (b.heap s ++ R)) := by
  refine LogAt.ofOwn (h.own.perm ?_) k
  classical
  rw [List.perm_iff_count]
  intro x
  simp only [List.count_append]
  omega
set_option maxRecDepth 100000 in
set_option maxHeartbeats 4000000 in
theorem copy_any (h : LogAt W w b s R) (hl : 1 ≤ s.lim) (hS : Small s) : Calls Tryd.prog 40 #[.pointer (some ⟨b.lb, 0, none⟩)] w (CopyRes W b s R) := by
  have HN := hide (none_any h hl)
  have HS := hide hS
  have hlb : b.lb < w.heap.size := h.blk.lt
  obtain ⟨A2, d2, hv2, _, _⟩ := h.slO.form
  obtain ⟨A1, d1, hv1, _, _⟩ := h.slG.form
  obtain ⟨nO, hnO⟩ : ∃ nO, nO = s.O.length := ⟨_, rfl⟩
  obtain ⟨nG, hnG⟩ : ∃ nG, nG = b.gs.length := ⟨_, rfl⟩
  rw [← hnO] at hv2
  rw [← hnG] at hv1
  have c0 := h.c0
  have c1 := h.c1
  have c2 := h.c2
  have c3 := h.c3
  have c4 := h.c4
  have c5 := h.c5
  rw [hv1] at c1
  rw [hv2] at c2
  have hbx := h.box 77 #[.int .i64 s.lim, .slice A1 nG d1, .slice A2 nO d2, .int .i64 s.ch, .int .i64 s.cost, .int .i64 s.now]
  have e1 := hbx.c1
  have e2 := hbx.c2
  rw [hv1] at e1
  rw [hv2] at e2
  have hrd := hbx.slO.rd
  rw [hv2] at hrd
  have HC := hide (clone_any _ s.O _ hrd hS.lenO)
  have HX := hide hbx
  have HV1 := hide hv1
  have HV2 := hide hv2
  have HNG := hide hnG
  have hnm : nG ≤ 1000000 := by rw [hnG, ← h.len]; exact hS.many
  have HGL := hide (h.grp)
  clear h hS hbx hrd hv1 hv2 hnO hnG
  go_enter Tryd.func40, Tryd.ntmps40
  go_wp2_with fail
  refine (Calls.mono HN.out) ?_
  rintro e w2 ⟨rfl, rfl⟩
  go_wp2_with fail
  refine (Calls.mono HC.out) ?_
  rintro e w5 ⟨v, rfl, hs5, hf5, hb5⟩
  have h5 := HX.out.joinC hb5 hs5 hf5
  have kb := h5.own.blk (g := w.heap.size) (t := 77) (cs := #[.int .i64 s.lim, .slice A1 nG d1, .slice A2 nO d2, .int .i64 s.ch, .int .i64 s.cost, .int .i64 s.now]) (by simp)
  have k1 := kb.cell 1
  have k2 := kb.cell 2
  have f1 := kb.frozen 1
  have f2 := kb.frozen 2
  have g1 := h5.c1
  rw [HV1.out] at g1
  have hbw : b.lb ≠ w.heap.size := by omega
  obtain ⟨Av, dv, rfl, _⟩ := id hs5.form
  have h6 := LogAt.copied (v := .slice Av s.O.length dv) (b := b) (s := s) (g := w.heap.size) (R := R) (by
    have e : logCells b s = #[.int .i64 s.lim, .slice A1 nG d1, .slice A2 nO d2, .int .i64 s.ch, .int .i64 s.cost, .int .i64 s.now] := by unfold logCells; rw [HV1.out, HV2.out]
    rw [e]
    exact h5) hs5.rowOk
  obtain ⟨nv, hnv⟩ : ∃ nv, nv = s.O.length := ⟨_, rfl⟩
  have HOV := hide hs5.rowOk
  rw [← hnv] at h6 HOV ⊢
  have HNV := hide hnv
  have HOK6 := hide (show LbOk ⟨w.heap.size, .slice none 0 0, .slice Av nv dv, []⟩ { s with G := s.G.take 0 } from ⟨by simp, RowOk.nil, by show RowOk _ s.O.length; rw [← hnv]; exact HOV.out, fun x hx => by cases hx⟩)
  have H6 := hide (show LogAt W _ b s ((⟨w.heap.size, .slice none 0 0, .slice Av nv dv, []⟩ : Lb).heap { s with G := s.G.take 0 } ++ R) from h6)
  obtain ⟨i0, hi, hj0, hj1, hj2⟩ := info_parts info_chgs
  have HI := hide hi
  have HZ := hide hj0
  have HZ1 := hide hj1
  have HZ2 := hide hj2
  obtain ⟨ob, hob⟩ : ∃ ob, ob = w.heap.size := ⟨_, rfl⟩
  rw [← hob] at H6 HOK6 k1 k2 f1 f2 hbw ⊢
  clear h5 kb hs5 hf5 hb5 h6 hnv HC HX hi hj0 hj1 hj2 hob
  go_wp2
  go_loopw [23] (fun i wr => ∃ (k : Nat) (v3 : Value) (hs : List (Value × List Chg)), k ≤ nG ∧ i = .int .i64 (k : Int) ∧ LogAt W wr b s ((⟨ob, v3, .slice Av nv dv, hs⟩ : Lb).heap { s with G := s.G.take k } ++ R) ∧ LbOk ⟨ob, v3, .slice Av nv dv, hs⟩ { s with G := s.G.take k }) (fun i _ => nG - (intOf i).toNat)
  case atStart => exact ⟨0, _, [], Nat.zero_le _, rfl, H6.out, HOK6.out⟩
  case round =>
    clear H6 HOK6 k1 k2 f1 f2 c0 c1 c2 c3 c4 c5 e1 e2 g1
    obtain ⟨k, v3, hs, hk, rfl, h3, ok3⟩ := hrel
    by_cases hlt : k < nG
    · have y1 : decide (k < nG) = true := by simpa using hlt
      have y2 : decide ((k : Int) < (nG : Int)) = true := by simp; omega
      obtain ⟨gb, off, cp, hv, _, _, hcell, _, _⟩ := h3.slG.at_ (by rw [← HNG.out]; omega)
      have hvv := HV1.out
      rw [hv, ← HNG.out] at hvv
      obtain ⟨rfl, rfl⟩ : A1 = some ⟨gb, off, none⟩ ∧ d1 = cp := by
        injection hvv with e1 _ e2
        exact ⟨e1.symm, e2.symm⟩
      obtain ⟨⟨v0, l0⟩, hx0⟩ : ∃ x, b.gs[k]? = some x := ⟨_, List.getElem?_eq_getElem (by rw [← HNG.out]; exact hlt)⟩
      have hmem := List.mem_of_getElem? hx0
      have p0 := hcell k v0 (by rw [List.getElem?_map, hx0]; rfl)
      obtain ⟨A0, d0, hv0, hd0, hd0m⟩ := (h3.slg hmem).form
      have hrd := (h3.slg hmem).rd
      obtain ⟨n0, hn0⟩ : ∃ n0, n0 = l0.length := ⟨_, rfl⟩
      simp only at hv0 hrd hd0
      rw [← hn0] at hv0 hd0
      obtain rfl : v0 = .slice A0 n0 d0 := hv0
      have hl0 : l0.length ≤ 1000000 := HS.out.len l0 (h3.gtr hmem)
      have HC := hide (clone_any _ l0 wr.drew hrd hl0)
      have HM := hide (show s.G.take (k + 1) = s.G.take k ++ [l0] by rw [List.take_add_one, h3.grp, List.getElem?_map, hx0]; rfl)
      have hgr := ok3.grp
      have hhs : hs.length ≤ 1000000 := by have h1 := congrArg List.length hgr; simp at h1; omega
      have h3f := h3.flip ok3
      obtain ⟨A3, d3, hv3, _, _⟩ := h3f.slG.form
      obtain ⟨nh, hnh⟩ : ∃ nh, nh = hs.length := ⟨_, rfl⟩
      simp only at hv3
      rw [← hnh] at hv3 hhs
      subst hv3
      have q1 := h3f.c1
      simp only at q1
      have HN0 := hide hn0
      have HNH := hide hnh
      have HH := hide h3
      have OK3 := hide ok3
      have HLT := hide hlt
      clear hcell hx0 hmem hrd h3 h3f ok3 hv hvv hk hlt hn0 hnh hgr hd0 hd0m hl0
      go_wp2_with fail
      go_region_law (first
        | (refine step_append_sl rfl (.tmp 28) (.tmp 31) 47 rfl 40 i0 _ 1 24 Tryd.underlying47 HI.out HZ.out HZ1.out HZ2.out rfl (.slice A3 nh d3) nh (hs.map fun x : Value × List Chg => x.1) rfl HSL.out _ rfl 1 _ (rd_one w5 40 (.slice Ax n0 dx)) (by intro u hu; simp at hu; subst hu; rfl) (by unfold maxLen; omega) (by omega) ?_; intro v' w6 hs6 ho6 hv6; rw [HNH.out] at hs6; have hadd := HX.out.addG hs6 ho6 (by simpa using hv6) HXO.out; obtain ⟨A6, d6, hv6e, _⟩ := id hs6.form; rw [← HNH.out] at hv6e; subst hv6e; have x1 : w6.cell? ⟨ob, 1, none⟩ = some (.slice A3 nh d3) := hadd.1.cell 1; have x2 : w6.frozen? ⟨ob, 1, none⟩ = false := hadd.1.frozen 1; have HN6 := hide hadd.2; clear hs6 ho6 hv6 hadd)
        | (go_simp; go_at_call 48; refine (Calls.mono HC.out) ?_; rintro e w5 ⟨x, rfl, hs5, hf5, hb5⟩; have h5 := (HH.out.drew.joinC hb5 hs5 hf5).flipC OK3.out; have HXO := hide hs5.rowOk; obtain ⟨Ax, dx, hx, _⟩ := id hs5.form; rw [← HN0.out] at hx; subst hx; have h6 := h5.skip (.cells #[.slice Ax n0 dx] 40); have r1 : w5.cell? ⟨ob, 1, none⟩ = some (.slice A3 nh d3) := h5.c1; have r2 : (w5.alloc (.cells #[.slice Ax n0 dx] 40)).cell? ⟨ob, 1, none⟩ = some (.slice A3 nh d3) := h6.c1; have HSL := hide (show Sl (w5.alloc (.cells #[.slice Ax n0 dx] 40)) 40 1 (.slice A3 nh d3) nh (hs.map fun x : Value × List Chg => x.1) by rw [HNH.out]; have := h6.slG; rw [HNH.out] at this; exact this); have HX := hide h6; clear h5 h6 hs5 hf5 hb5))
      all_goals
        go_wp2
        go_roundw
        case rel => exact ⟨k + 1, .slice A6 (nh + 1) d6, hs ++ [(.slice Ax n0 dx, l0)], HLT.out, by go_num, by rw [HM.out]; exact HN6.out.flip HH.out.ok, by rw [HM.out]; exact HN6.out.ok⟩
        case measure => have := HLT.out; simp [intOf]; omega
    · have y1 : decide (k < nG) = false := by simpa using hlt
      have y2 : decide ((k : Int) < (nG : Int)) = false := by simp; omega
      obtain rfl : k = nG := by omega
      have hall : s.G.take k = s.G := List.take_of_length_le (by rw [h3.len, HNG.out]; exact Nat.le_refl _)
      rw [hall] at h3 ok3
      have HH := hide h3
      have OK3 := hide ok3
      clear h3 ok3 hall hlt hk
      go_wp2
      go_ret
      exact ⟨⟨ob, v3, .slice Av nv dv, hs⟩, rfl, HH.out, OK3.out⟩
end
end Go.Proofs.YtghcmakhfdnimaaDoor
