/- The walks of All and of the reference's comparison of groups. No condition but those written. -/
import Derived.Test.YtghcmakhfdnimaaDoorUndI
namespace Go.Proofs.YtghcmakhfdnimaaDoor
open Go.RowKit
attribute [local go_sem 2000] neq_chg

/-- What All leaves. -/
def AllRes (W : World) (b : Lb) (s : Lg) (R : Heap) (e : Ending) (w' : World) : Prop :=
  ∃ v hs, e = .returned v ∧ hs.map (fun x : Value × List Chg => x.2) = s.all ∧ LogAt W w' b s (gosHeap v hs ++ R) ∧ GosOk v hs
section
variable {W w w' : World} {b : Lb} {s : Lg} {R : Heap}
theorem LogAt.gosSnoc {v v' x : Value} {hs : List (Value × List Chg)} {l : List Chg} (h : LogAt W w b s (chgRow x l ++ (gosHeap v hs ++ R))) (hs' : Sl w' 40 1 v' (hs.length + 1) (hs.map (·.1) ++ [x])) (ho : Only (fun b => v.ownBlock = some b) w w') (hv : v'.ownBlock = v.ownBlock ∨ v'.ownBlock = some w.heap.size) :
    LogAt W w' b s (gosHeap v' (hs ++ [(x, l)]) ++ R) := by
  refine h.back ?_
  rw [List.append_assoc]
  refine Own.gosSnoc (v := v) ?_ hs' ho hv
  refine h.swap.perm ?_
  classical
  rw [List.perm_iff_count]
  intro y
  simp only [List.count_append]
  omega
set_option maxRecDepth 100000 in
set_option maxHeartbeats 4000000 in
theorem all_any (h : LogAt W w b s R) (hl : 1 ≤ s.lim) (hS : Small s) : Calls Tryd.prog 23 #[.pointer (some ⟨b.lb, 0, none⟩)] w (AllRes W b s R) := by
  have HN := hide (none_any h hl)
  have H := hide h
  have HS := hide hS
  obtain ⟨nG, hnG⟩ : ∃ nG, nG = b.gs.length := ⟨_, rfl⟩
  obtain ⟨A1, d1, hv1, hd1, hdm⟩ := h.slG.form
  rw [← hnG] at hv1 hd1
  have c1 := h.c1
  rw [hv1] at c1
  have hnm : nG ≤ 1000000 := by rw [hnG, ← h.len]; exact hS.many
  have HNG := hide hnG
  have HV1 := hide hv1
  obtain ⟨i0, hi, hj0, hj1, hj2⟩ := info_parts info_chgs
  have HI := hide hi
  have HZ := hide hj0
  have HZ1 := hide hj1
  have HZ2 := hide hj2
  clear hi hj0 hj1 hj2 h hS hl hnG hv1
  go_enter Tryd.func23, Tryd.ntmps23
  go_wp2_with fail
  refine (Calls.mono HN.out) ?_
  rintro e w2 ⟨rfl, rfl⟩
  go_wp2
  go_loopw [3, 13] (fun v i wr => ∃ (k : Nat) (hs : List (Value × List Chg)), k ≤ nG ∧ i = .int .i64 (k : Int) ∧ hs.map (fun x : Value × List Chg => x.2) = s.G.take k ∧ LogAt W wr b s (gosHeap v hs ++ R) ∧ GosOk v hs) (fun _ i _ => nG - (intOf i).toNat)
  case atStart => exact ⟨0, [], Nat.zero_le _, rfl, by simp, H.out, GosOk.nil⟩
  case round =>
    obtain ⟨k, hs, hk, rfl, hmap, h3, hok⟩ := hrel
    by_cases hlt : k < nG
    · have y1 : decide (k < nG) = true := by simpa using hlt
      have y2 : decide ((k : Int) < (nG : Int)) = true := by simp; omega
      obtain ⟨gb, off, cp, hv, _, _, hcell, _, _⟩ := h3.slG.at_ (by rw [← HNG.out]; omega)
      have hvv := HV1.out
      rw [hv, ← HNG.out] at hvv
      obtain ⟨rfl, rfl⟩ : A1 = some ⟨gb, off, none⟩ ∧ d1 = cp := by
        injection hvv with e1 _ e2
        exact ⟨e1.symm, e2.symm⟩
      obtain ⟨⟨v0, l0⟩, hx0⟩ : ∃ x, b.gs[k]? = some x := ⟨_, List.getElem?_eq_getElem (by rw [← HNG.out]; exact hlt)⟩
      have hmem := List.mem_of_getElem? hx0
      have p0 := hcell k v0 (by rw [List.getElem?_map, hx0]; rfl)
      obtain ⟨A0, d0, hv0, hd0, hd0m⟩ := (h3.slg hmem).form
      have hrd := (h3.slg hmem).rd
      obtain ⟨n0, hn0⟩ : ∃ n0, n0 = l0.length := ⟨_, rfl⟩
      simp only at hv0 hrd hd0
      rw [← hn0] at hv0 hd0
      obtain rfl : v0 = .slice A0 n0 d0 := hv0
      have hl0 : l0.length ≤ 1000000 := HS.out.len l0 (h3.gtr hmem)
      have hn0m : n0 ≤ 1000000 := by rw [hn0]; exact hl0
      have hrd2 : Rd wr (.slice A0 n0 n0) 9 l0.length (rows Chg.cells l0) := by
        obtain ⟨A, c, e1, e2, e3⟩ := hrd
        injection e1 with e4 e5 e6
        exact ⟨A, n0, by rw [e4, ← e5], e2, e3⟩
      have HC := hide (clone_any _ l0 wr hrd2 hl0)
      have HM := hide (show s.G.take (k + 1) = s.G.take k ++ [l0] by rw [List.take_add_one, h3.grp, List.getElem?_map, hx0]; rfl)
      have HMAP := hide hmap
      have HOK := hide hok
      have HH := hide h3
      have hhs : hs.length ≤ 1000000 := by have := congrArg List.length hmap; rw [List.length_map, List.length_take] at this; omega
      have HHS := hide hhs
      have HLT := hide hlt
      clear hcell hx0 hmem hrd hrd2 hmap hok h3 hhs hv hvv hk hlt hn0
      go_wp2_with fail
      refine (Calls.mono HC.out) ?_
      rintro e w5 ⟨x, rfl, hs5, hf5, hb5⟩
      have h5 := HH.out.joinC hb5 hs5 hf5
      have HXO := hide hs5.rowOk
      obtain ⟨Ax, dx, rfl, _⟩ := hs5.form
      have h6 := h5.skip (.cells #[.slice Ax l0.length dx] 40)
      have HSL := hide (h6.own.gosSl (v := u3) (hs := hs) (fun y hy => by simp only [List.mem_append]; exact .inr (.inr (.inl hy))) HOK.out)
      have H6 := hide h6
      have hhs := HHS.out
      obtain ⟨nl, hnl⟩ : ∃ nl, nl = l0.length := ⟨_, rfl⟩
      rw [← hnl] at HXO
      have HNL := hide hnl
      rw [← hnl] at HSL H6 ⊢
      clear h5 h6 hs5 hf5 hb5 hnl HC
      go_wp2_with (at_builtin; go_loud (refine wpList_append_sl rfl (.tmp 17) (.tmp 25) 47 rfl 40 i0 _ 1 24 Tryd.underlying47 HI.out HZ.out HZ1.out HZ2.out rfl u3 hs.length (hs.map fun x : Value × List Chg => x.1) rfl HSL.out _ rfl 1 _ (rd_one w5 40 (.slice Ax nl dx)) ?one ?b1 ?b2 ?_))
      case one => intro u hu; simp at hu; subst hu; rfl
      case b1 => unfold maxLen; omega
      case b2 => omega
      intro v' w6 hs6 ho6 hv6
      have HR := hide (H6.out.gosSnoc hs6 ho6 (by simpa using hv6))
      have HO6 := hide (HOK.out.snoc (l := l0) hs6.rowOk (by rw [← HNL.out]; exact HXO.out))
      clear hs6 ho6 hv6 H6 HSL
      go_wp2
      go_roundw
      case rel => exact ⟨k + 1, _, HLT.out, by go_num, by rw [HM.out, List.map_append, HMAP.out]; rfl, HR.out, HO6.out⟩
      case measure => have := HLT.out; simp [intOf]; omega
    · have y1 : decide (k < nG) = false := by simpa using hlt
      have y2 : decide ((k : Int) < (nG : Int)) = false := by simp; omega
      obtain rfl : k = nG := by omega
      have HMAP := hide (show hs.map (fun x : Value × List Chg => x.2) = s.G by rw [hmap, List.take_of_length_le (by rw [h3.len, HNG.out]; exact Nat.le_refl _)])
      have HOK := hide hok
      have HH := hide h3
      have HHS := hide (show hs.length ≤ 1000000 by have := congrArg List.length hmap; rw [List.length_map, List.length_take] at this; omega)
      obtain ⟨A2, d2, hv2, hd2, hd2m⟩ := h3.slO.form
      obtain ⟨nO, hnO⟩ : ∃ nO, nO = s.O.length := ⟨_, rfl⟩
      rw [← hnO] at hv2 hd2
      have c2 := h3.c2
      rw [hv2] at c2
      have HNO := hide hnO
      have hOm : nO ≤ 1000000 := by rw [hnO]; exact HS.out.lenO
      have hrd := h3.slO.rd
      rw [hv2] at hrd
      have HC := hide (clone_any _ s.O wr hrd HS.out.lenO)
      clear h3 hok hmap hlt hk hnO hv2 hrd y1 y2
      by_cases hO : nO = 0
      · have HALL := hide (show s.all = s.G by unfold Lg.all; rw [if_pos (List.eq_nil_of_length_eq_zero (HNO.out.symm.trans hO))])
        subst hO
        go_wp2
        go_ret
        exact ⟨_, hs, rfl, by rw [HALL.out]; exact HMAP.out, HH.out, HOK.out⟩
      · have hpos : 0 < nO := by omega
        have hz1 : decide ((0 : Int) < (nO : Int)) = true := by simp; omega
        have hz2 : decide (0 < nO) = true := by simpa using hpos
        have HALL := hide (show s.all = s.G ++ [s.O] by unfold Lg.all; rw [if_neg (fun e => hO (by rw [HNO.out, e]; rfl))])
        clear hO
        go_wp2_with fail
        refine (Calls.mono HC.out) ?_
        rintro e w5 ⟨x, rfl, hs5, hf5, hb5⟩
        have h5 := HH.out.joinC hb5 hs5 hf5
        have HXO := hide hs5.rowOk
        obtain ⟨Ax, dx, rfl, _⟩ := hs5.form
        have h6 := h5.skip (.cells #[.slice Ax s.O.length dx] 40)
        have HSL := hide (h6.own.gosSl (v := u3) (hs := hs) (fun y hy => by simp only [List.mem_append]; exact .inr (.inr (.inl hy))) HOK.out)
        have H6 := hide h6
        have hhs := HHS.out
        obtain ⟨nl, hnl⟩ : ∃ nl, nl = s.O.length := ⟨_, rfl⟩
        rw [← hnl] at HXO
        have HNL := hide hnl
        rw [← hnl] at HSL H6 ⊢
        clear h5 h6 hs5 hf5 hb5 hnl HC
        go_wp2_with (at_builtin; go_loud (refine wpList_append_sl rfl (.tmp 34) (.tmp 40) 47 rfl 40 i0 _ 1 24 Tryd.underlying47 HI.out HZ.out HZ1.out HZ2.out rfl u3 hs.length (hs.map fun x : Value × List Chg => x.1) rfl HSL.out _ rfl 1 _ (rd_one w5 40 (.slice Ax nl dx)) ?one ?b1 ?b2 ?_))
        case one => intro u hu; simp at hu; subst hu; rfl
        case b1 => unfold maxLen; omega
        case b2 => omega
        intro v' w6 hs6 ho6 hv6
        have HR := hide (H6.out.gosSnoc hs6 ho6 (by simpa using hv6))
        have HO6 := hide (HOK.out.snoc (l := s.O) hs6.rowOk (by rw [← HNL.out]; exact HXO.out))
        clear hs6 ho6 hv6 H6 HSL
        go_wp2
        go_ret
        exact ⟨_, hs ++ [(_, s.O)], rfl, by rw [HALL.out, List.map_append, HMAP.out]; rfl, HR.out, HO6.out⟩
end
end Go.Proofs.YtghcmakhfdnimaaDoor
