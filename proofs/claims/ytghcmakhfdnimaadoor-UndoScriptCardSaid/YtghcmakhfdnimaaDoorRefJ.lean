/- The walk of the reference's All. No condition but those written. -/
import Derived.Test.YtghcmakhfdnimaaDoorRefI
import Derived.Test.YtghcmakhfdnimaaDoorUndJ
namespace Go.Proofs.YtghcmakhfdnimaaDoor
open Go.RowKit

section
variable {W w w' : World} {b : Lb} {s : Lg} {R : Heap}
theorem RefAt.swap (h : RefAt W w b s R) : Own W w (R ++ b.rheap s) := h.own.perm List.perm_append_comm
theorem RefAt.back {R' : Heap} (h : RefAt W w b s R) (ho : Own W w' (R' ++ b.rheap s)) : RefAt W w' b s R' := ⟨ho.perm List.perm_append_comm, h.ok⟩
theorem RefAt.joinC {v : Value} {l : List Chg} (h : RefAt W w b s R) (hb : Below w.heap.size w w') (hs : Sl w' 51 9 v l.length (rows Chg.cells l)) (hf : ∀ g, v.ownBlock = some g → w.heap.size ≤ g) : RefAt W w' b s (chgRow v l ++ R) := by
  refine h.back ?_
  have := h.swap.joinRow hb hs hf
  unfold chgRow
  rw [List.append_assoc]
  exact this
theorem RefAt.gosSnoc {v v' x : Value} {hs : List (Value × List Chg)} {l : List Chg} (h : RefAt W w b s (chgRow x l ++ (gosHeap v hs ++ R))) (hs' : Sl w' 40 1 v' (hs.length + 1) (hs.map (·.1) ++ [x])) (ho : Only (fun b => v.ownBlock = some b) w w') (hv : v'.ownBlock = v.ownBlock ∨ v'.ownBlock = some w.heap.size) :
    RefAt W w' b s (gosHeap v' (hs ++ [(x, l)]) ++ R) := by
  refine h.back ?_
  rw [List.append_assoc]
  refine Own.gosSnoc (v := v) ?_ hs' ho hv
  refine h.swap.perm ?_
  classical
  rw [List.perm_iff_count]
  intro x
  simp only [List.count_append, List.count_cons]
  omega
/-- What All leaves. -/
def RAllRes (W : World) (b : Lb) (s : Lg) (R : Heap) (e : Ending) (w' : World) : Prop :=
  ∃ v hs, e = .returned v ∧ hs.map (fun x : Value × List Chg => x.2) = s.all ∧ RefAt W w' b s (gosHeap v hs ++ R) ∧ GosOk v hs
set_option maxRecDepth 100000 in
set_option maxHeartbeats 4000000 in
theorem rall_any (h : RefAt W w b s R) (hS : Small s) : Calls Tryd.prog 38 #[.pointer (some ⟨b.lb, 0, none⟩)] w (RAllRes W b s R) := by
  have H := hide h
  have HS := hide hS
  obtain ⟨nG, hnG⟩ : ∃ nG, nG = b.gs.length := ⟨_, rfl⟩
  obtain ⟨A1, d1, hv1, hd1, hdm⟩ := h.slG.form
  rw [← hnG] at hv1 hd1
  have hnm : nG ≤ 1000000 := by rw [hnG, ← h.len]; exact hS.many
  have HNG := hide hnG
  have HV1 := hide hv1
  obtain ⟨i0, hi, hj0, hj1, hj2⟩ := info_parts info_chgs
  obtain ⟨k0, ki, kj0, kj1, kj2⟩ := info_parts info_chg
  have HI := hide hi
  have HZ := hide hj0
  have HZ1 := hide hj1
  have HZ2 := hide hj2
  have KI := hide ki
  have KZ := hide kj0
  have KZ1 := hide kj1
  have KZ2 := hide kj2
  clear hi hj0 hj1 hj2 ki kj0 kj1 kj2
  clear h hS hnG hv1
  go_enter Tryd.func38, Tryd.ntmps38
  go_wp2
  go_loopw [3, 4] (fun v i wr => ∃ (k : Nat) (hs : List (Value × List Chg)), k ≤ nG ∧ i = .int .i64 (k : Int) ∧ hs.map (fun x : Value × List Chg => x.2) = s.G.take k ∧ RefAt W wr b s (gosHeap v hs ++ R) ∧ GosOk v hs) (fun _ i _ => nG - (intOf i).toNat)
  case atStart => exact ⟨0, [], Nat.zero_le _, rfl, by simp, H.out, GosOk.nil⟩
  case round =>
    obtain ⟨k, hs, hk, rfl, hmap, h3, hok⟩ := hrel
    have c0 := h3.c0
    rw [HV1.out] at c0
    by_cases hlt : k < nG
    · have y1 : decide (k < nG) = true := by simpa using hlt
      have y2 : decide ((k : Int) < (nG : Int)) = true := by simp; omega
      obtain ⟨gb, off, cp, hv, _, _, hcell, _, hgb⟩ := h3.slG.at_ (by rw [← HNG.out]; omega)
      have hlb := h3.blk.lt
      have hvv := HV1.out
      rw [hv, ← HNG.out] at hvv
      obtain ⟨rfl, rfl⟩ : A1 = some ⟨gb, off, none⟩ ∧ d1 = cp := by
        injection hvv with e1 _ e2
        exact ⟨e1.symm, e2.symm⟩
      obtain ⟨⟨v0, l0⟩, hx0⟩ : ∃ x, b.gs[k]? = some x := ⟨_, List.getElem?_eq_getElem (by rw [← HNG.out]; exact hlt)⟩
      have hmem := List.mem_of_getElem? hx0
      have p0 := hcell k v0 (by rw [List.getElem?_map, hx0]; rfl)
      obtain ⟨A0, d0, hv0, hd0, hd0m⟩ := (h3.slg hmem).form
      have hrd := (h3.slg hmem).rd
      obtain ⟨n0, hn0⟩ : ∃ n0, n0 = l0.length := ⟨_, rfl⟩
      simp only at hv0 hrd hd0
      rw [← hn0] at hv0 hd0
      obtain rfl : v0 = .slice A0 n0 d0 := hv0
      have hn0m : n0 ≤ 1000000 := by rw [hn0]; exact HS.out.len l0 (h3.gtr hmem)
      have HM := hide (show s.G.take (k + 1) = s.G.take k ++ [l0] by rw [List.take_add_one, h3.ok.grp, List.getElem?_map, hx0]; rfl)
      have HMAP := hide hmap
      have HOK := hide hok
      have HH := hide h3
      have hhs : hs.length ≤ 1000000 := by have := congrArg List.length hmap; rw [List.length_map, List.length_take] at this; omega
      have HHS := hide hhs
      have HLT := hide hlt
      clear hcell hx0 hmem hmap hok h3 hhs hv hvv hk hlt hd0
      have c0' := (((Below.refl _ wr).alloc (Nat.le_refl _) (.cells #[] 51)).cell (p := ⟨b.lb, 0, none⟩) hlb).trans c0
      have p0' := (((Below.refl _ wr).alloc (Nat.le_refl _) (.cells #[] 51)).cell (p := ⟨gb, off + k, none⟩) hgb).trans p0
      clear hlb hgb
      have hB : Below wr.heap.size wr (wr.alloc (.cells #[] 51)) := (Below.refl _ _).alloc (Nat.le_refl _) _
      have HBE := hide hB
      have HE2 := hide (show Sl (wr.alloc (.cells #[] 51)) 51 9 (.slice (some ⟨wr.heap.size, 0, none⟩) 0 0) 0 [] by simpa using Sl.new wr 51 9 #[] 0 0 (Nat.le_refl _) (by simp [maxLen]) (by simp))
      have HRE := hide (hrd.only (Only.of_below hB) fun _ _ f => f)
      have HNN := hide hn0
      clear hB hrd hn0
      go_wp2_with (at_builtin; go_loud (refine wpList_append_sl rfl (.tmp 15) (.tmp 22) 40 rfl 51 k0 _ 9 80 Tryd.underlying40 KI.out KZ.out KZ1.out KZ2.out rfl _ 0 [] rfl HE2.out _ rfl l0.length (rows Chg.cells l0) HRE.out (rows_cells fun x _ => chg_one x) ?b1 ?b2 ?_))
      case b1 => have := HNN.out; unfold maxLen; omega
      case b2 => have := HNN.out; omega
      intro x w5 hs5 ho5 hv5
      have hb5 := HBE.out.trans (ho5.below (B := wr.heap.size) (by simp) fun i hi => by simp [Value.ownBlock] at hi; omega)
      have hf5 : ∀ g, x.ownBlock = some g → wr.heap.size ≤ g := fun g hg => by
        rcases hv5 with e | e <;> rw [e] at hg <;> simp [Value.ownBlock] at hg <;> omega
      have hs5' : Sl w5 51 9 x l0.length (rows Chg.cells l0) := by simpa using hs5
      have h5 := HH.out.joinC hb5 hs5' hf5
      have HXO := hide hs5'.rowOk
      obtain ⟨Ax, dx, hxe, _⟩ := hs5'.form
      rw [← HNN.out] at hxe
      subst hxe
      have h6 := h5.skip (.cells #[.slice Ax n0 dx] 40)
      have HSL := hide (h6.own.gosSl (v := u3) (hs := hs) (fun y hy => by simp only [List.mem_append]; exact .inr (.inr (.inl hy))) HOK.out)
      have H6 := hide h6
      have hhs := HHS.out
      clear h5 h6 hs5 hs5' hf5 hb5 ho5 hv5 HBE HE2 HRE
      go_wp2_with (at_builtin; go_loud (refine wpList_append_sl rfl (.tmp 14) (.tmp 24) 47 rfl 40 i0 _ 1 24 Tryd.underlying47 HI.out HZ.out HZ1.out HZ2.out rfl u3 hs.length (hs.map fun x : Value × List Chg => x.1) rfl HSL.out _ rfl 1 _ (rd_one w5 40 (.slice Ax n0 dx)) ?one ?b3 ?b4 ?_))
      case one => intro u hu; simp at hu; subst hu; rfl
      case b3 => unfold maxLen; omega
      case b4 => omega
      intro v' w6 hs6 ho6 hv6
      have HR := hide (H6.out.gosSnoc hs6 ho6 (by simpa using hv6))
      have HO6 := hide (HOK.out.snoc (l := l0) hs6.rowOk HXO.out)
      clear hs6 ho6 hv6 H6 HSL
      go_wp2
      go_roundw
      case rel => exact ⟨k + 1, _, HLT.out, by go_num, by rw [HM.out, List.map_append, HMAP.out]; rfl, HR.out, HO6.out⟩
      case measure => have := HLT.out; simp [intOf]; omega
    · have y1 : decide (k < nG) = false := by simpa using hlt
      have y2 : decide ((k : Int) < (nG : Int)) = false := by simp; omega
      obtain rfl : k = nG := by omega
      have HMAP := hide (show hs.map (fun x : Value × List Chg => x.2) = s.G by rw [hmap, List.take_of_length_le (by rw [h3.len, HNG.out]; exact Nat.le_refl _)])
      have HOK := hide hok
      have HH := hide h3
      have HHS := hide (show hs.length ≤ 1000000 by have := congrArg List.length hmap; rw [List.length_map, List.length_take] at this; omega)
      obtain ⟨A0, d0, hv2, hd2, hd2m⟩ := h3.slO.form
      obtain ⟨l0, hl0⟩ : ∃ l0, l0 = s.O := ⟨_, rfl⟩
      obtain ⟨n0, hn0⟩ : ∃ n0, n0 = l0.length := ⟨_, rfl⟩
      rw [← hl0, ← hn0] at hv2 hd2
      have c1 := h3.c1
      have hrd := h3.slO.rd
      rw [hv2] at c1 hrd
      rw [← hl0] at hrd
      have hn0m : n0 ≤ 1000000 := by rw [hn0, hl0]; exact HS.out.lenO
      have HL0 := hide hl0
      clear hmap hok h3 hlt hk hv2 hd2 hl0
      rcases Nat.eq_zero_or_pos n0 with h0 | h0
      · subst h0
        have HE := hide (show s.all = s.G by unfold Lg.all; rw [if_pos (by rw [← HL0.out]; exact List.eq_nil_of_length_eq_zero hn0.symm)])
        clear hrd hn0
        go_wp2
        go_ret
        exact ⟨_, hs, rfl, by rw [HMAP.out, HE.out], HH.out, HOK.out⟩
      · have z1 : decide ((0 : Int) < (n0 : Int)) = true := by simp; omega
        have z2 : decide (0 < n0) = true := by simpa using h0
        have HE := hide (show s.all = s.G ++ [l0] by rw [HL0.out]; unfold Lg.all; rw [if_neg (fun e => by rw [hn0, HL0.out, e] at h0; simp at h0)])
        clear h0
        have c1' := (((Below.refl _ wr).alloc (Nat.le_refl _) (.cells #[] 51)).cell (p := ⟨b.lb, 1, none⟩) HH.out.blk.lt).trans c1
        have hB : Below wr.heap.size wr (wr.alloc (.cells #[] 51)) := (Below.refl _ _).alloc (Nat.le_refl _) _
        have HBE := hide hB
        have HE2 := hide (show Sl (wr.alloc (.cells #[] 51)) 51 9 (.slice (some ⟨wr.heap.size, 0, none⟩) 0 0) 0 [] by simpa using Sl.new wr 51 9 #[] 0 0 (Nat.le_refl _) (by simp [maxLen]) (by simp))
        have HRE := hide (hrd.only (Only.of_below hB) fun _ _ f => f)
        have HNN := hide hn0
        clear hB hrd hn0
        go_wp2_with (at_builtin; go_loud (refine wpList_append_sl rfl (.tmp 33) (.tmp 37) 40 rfl 51 k0 _ 9 80 Tryd.underlying40 KI.out KZ.out KZ1.out KZ2.out rfl _ 0 [] rfl HE2.out _ rfl l0.length (rows Chg.cells l0) HRE.out (rows_cells fun x _ => chg_one x) ?b1 ?b2 ?_))
        case b1 => have := HNN.out; unfold maxLen; omega
        case b2 => have := HNN.out; omega
        intro x w5 hs5 ho5 hv5
        have hb5 := HBE.out.trans (ho5.below (B := wr.heap.size) (by simp) fun i hi => by simp [Value.ownBlock] at hi; omega)
        have hf5 : ∀ g, x.ownBlock = some g → wr.heap.size ≤ g := fun g hg => by
          rcases hv5 with e | e <;> rw [e] at hg <;> simp [Value.ownBlock] at hg <;> omega
        have hs5' : Sl w5 51 9 x l0.length (rows Chg.cells l0) := by simpa using hs5
        have h5 := HH.out.joinC hb5 hs5' hf5
        have HXO := hide hs5'.rowOk
        obtain ⟨Ax, dx, hxe, _⟩ := hs5'.form
        rw [← HNN.out] at hxe
        subst hxe
        have h6 := h5.skip (.cells #[.slice Ax n0 dx] 40)
        have HSL := hide (h6.own.gosSl (v := u3) (hs := hs) (fun y hy => by simp only [List.mem_append]; exact .inr (.inr (.inl hy))) HOK.out)
        have H6 := hide h6
        have hhs := HHS.out
        clear h5 h6 hs5 hs5' hf5 hb5 ho5 hv5 HBE HE2 HRE
        go_wp2_with (at_builtin; go_loud (refine wpList_append_sl rfl (.tmp 32) (.tmp 39) 47 rfl 40 i0 _ 1 24 Tryd.underlying47 HI.out HZ.out HZ1.out HZ2.out rfl u3 hs.length (hs.map fun x : Value × List Chg => x.1) rfl HSL.out _ rfl 1 _ (rd_one w5 40 (.slice Ax n0 dx)) ?one ?b3 ?b4 ?_))
        case one => intro u hu; simp at hu; subst hu; rfl
        case b3 => unfold maxLen; omega
        case b4 => omega
        intro v' w6 hs6 ho6 hv6
        have HR := hide (H6.out.gosSnoc hs6 ho6 (by simpa using hv6))
        have HO6 := hide (HOK.out.snoc (l := l0) hs6.rowOk HXO.out)
        clear hs6 ho6 hv6 H6 HSL
        go_wp2
        go_ret
        exact ⟨_, _, rfl, by rw [HE.out, List.map_append, HMAP.out]; rfl, HR.out, HO6.out⟩
end
end Go.Proofs.YtghcmakhfdnimaaDoor
