/- Words of a table: the walk. No condition but those written. -/
import Derived.Test.YtdojcgefiekleaaDoorSci
import Derived.OwnWalk
namespace Go.Proofs.YtdojcgefiekleaaDoor
open Go.RowKit

/-- What Words answers of a text. -/
def wordsR (T : Tb) (s : ByteArray) (at_ n : Int) : Nat × Bool × Int := match charsL s.data.toList with
  | none => (0, false, 5)
  | some L => if at_ < 0 ∨ (L.length : Int) < at_ then (0, false, 3) else ((words T L n at_.toNat).1, (words T L n at_.toNat).2, 0)
def wrdV (r : Nat × Bool × Int) : Value := .tuple #[.int .i64 (r.1 : Int), .bool r.2.1, .int .i64 r.2.2]
theorem wordsF_some {T : Tb} {L : List Nat} {m : Int} {i j k : Nat} (hm : 0 < m) (hj : wF T L i = j) (hjl : j ≠ L.length) (hk : wE T L j = k) : wordsF T L m.toNat i = wordsF T L (m - 1).toNat k := by
  rw [show m.toNat = (m - 1).toNat + 1 by omega]
  simp only [wordsF, hj, hk]
  rw [if_neg hjl]
theorem wordsF_none {T : Tb} {L : List Nat} {m : Int} {i : Nat} (hm : 0 < m) (hj : wF T L i = L.length) : wordsF T L m.toNat i = (L.length, false) := by
  rw [show m.toNat = (m - 1).toNat + 1 by omega]
  simp [wordsF, hj]
theorem wordsB_some {T : Tb} {L : List Nat} {m : Int} {i j k : Nat} (hm : m < 0) (hj : bN T L i = j) (hjl : j ≠ 0) (hk : bE T L j = k) : wordsB T L (-m).toNat i = wordsB T L (-(m + 1)).toNat k := by
  rw [show (-m).toNat = (-(m + 1)).toNat + 1 by omega]
  simp only [wordsB, hj, hk]
  rw [if_neg hjl]
theorem wordsB_none {T : Tb} {L : List Nat} {m : Int} {i : Nat} (hm : m < 0) (hj : bN T L i = 0) : wordsB T L (-m).toNat i = (0, false) := by
  rw [show (-m).toNat = (-(m + 1)).toNat + 1 by omega]
  simp [wordsB, hj]
theorem bN_at {T : Tb} {L : List Nat} {j : Nat} (h : 0 < j) (hw : T.at_ L (j - 1) ≠ 1) : bN T L j = bN T L (j - 1) := by
  obtain ⟨q, rfl⟩ : ∃ q, j = q + 1 := ⟨j - 1, by omega⟩
  exact bN_step hw
theorem bN_here {T : Tb} {L : List Nat} {j : Nat} (h : 0 < j) (hw : T.at_ L (j - 1) = 1) : bN T L j = j := by
  obtain ⟨q, rfl⟩ : ∃ q, j = q + 1 := ⟨j - 1, by omega⟩
  exact bN_stop hw
theorem bE_at {T : Tb} {L : List Nat} {j : Nat} (h : 0 < j) (hw : T.at_ L (j - 1) = 1) : bE T L j = bE T L (j - 1) := by
  obtain ⟨q, rfl⟩ : ∃ q, j = q + 1 := ⟨j - 1, by omega⟩
  exact bE_step hw
theorem bE_here {T : Tb} {L : List Nat} {j : Nat} (h : 0 < j) (hw : T.at_ L (j - 1) ≠ 1) : bE T L j = j := by
  obtain ⟨q, rfl⟩ : ∃ q, j = q + 1 := ⟨j - 1, by omega⟩
  exact bE_stop hw
theorem WSt.next {w0 w : World} {p : TL} {L : List Nat} {v : Value} {g : Nat} {i nx : Int} (h : WSt w0 w g p v L i nx) (k : Int) : WSt w0 (w.setCell ⟨g + 1, 0, none⟩ (.int .i64 k)) g p v L i k := by
  have hlt := h.lt
  refine ⟨h.bel.setCell (by simp only []; omega) _, h.bt.far (by simp only []; omega) _, h.ba.far (by simp only []; omega) _, h.bl.far (by simp) _, h.bn.set_ 0 _, h.row.far (fun e => ?_) _, hlt, h.own⟩
  have := (h.own _ e).2
  simp only [] at this
  omega
theorem WSt.begin {w w1 w2 : World} {p : TL} {L : List Nat} {A : Option Addr} {c : Nat} {i : Int} (hb0 : Below w.heap.size w w1) (hf0 : Blk w1 w.heap.size 28 #[.pointer (some ⟨p.t, 0, none⟩)]) (hf1 : Blk w1 (w.heap.size + 1) 3 #[.int .i64 i]) (hsz : w1.heap.size = w.heap.size + 2) (hb2 : Below w1.heap.size w1 w2)
    (hsl : Sl w2 3 1 (.slice A L.length c) L.length (ints L)) (ho : ∀ g, (Value.slice A L.length c).ownBlock = some g → w1.heap.size ≤ g) (nx : Int) :
    WSt w ((w2.alloc (.cells #[.slice A L.length c] 24)).alloc (.cells #[.int .i64 nx] 3)) w2.heap.size p (.slice A L.length c) L i nx := by
  have hs2 := hb2.size
  refine ⟨((hb0.trans (hb2.mono hb0.size)).alloc (by omega) _).alloc (by simp; omega) _, ((hf0.below hb2 hf0.lt).alloc _).alloc _, ((hf1.below hb2 hf1.lt).alloc _).alloc _, (Blk.new w2 _ _).alloc _, ?_, (hsl.alloc _).alloc _, by omega, fun k hk => ⟨by have := ho k hk; omega, hsl.lt k hk⟩⟩
  have := Blk.new (w2.alloc (.cells #[.slice A L.length c] 24)) 3 #[.int .i64 nx]
  rwa [World.size_alloc] at this
section
variable {w w' : World} {p : TL} {T : Tb}
set_option maxRecDepth 100000 in
set_option maxHeartbeats 4000000 in
theorem words_bad (h : TabAt w p T) (s : ByteArray) (hs : s.size ≤ 1000000000000) (hT : Tabs w) (at_ n : Int) (hbad : (wordsR T s at_ n).2.2 ≠ 0) : Calls Tryd.prog 14 #[.pointer (some ⟨p.t, 0, none⟩), .string s, .int .i64 at_, .int .i64 n] w fun e w' => e = .returned (wrdV (wordsR T s at_ n)) ∧ Below w.heap.size w w' := by
  have hb0 : Below w.heap.size w ((w.alloc (.cells #[.pointer (some ⟨p.t, 0, none⟩)] 28)).alloc (.cells #[.int .i64 at_] 3)) := ((Below.refl _ w).alloc (Nat.le_refl _) _).alloc (by simp) _
  have hT1 := hT.below hb0
  have h1 := h.below hb0
  have hf0 := (Blk.new w 28 #[.pointer (some ⟨p.t, 0, none⟩)]).alloc (.cells #[.int .i64 at_] 3)
  have hf1 : Blk ((w.alloc (.cells #[.pointer (some ⟨p.t, 0, none⟩)] 28)).alloc (.cells #[.int .i64 at_] 3)) (w.heap.size + 1) 3 #[.int .i64 at_] := by
    have := Blk.new (w.alloc (.cells #[.pointer (some ⟨p.t, 0, none⟩)] 28)) 3 #[.int .i64 at_]
    rwa [World.size_alloc] at this
  have hsz : ((w.alloc (.cells #[.pointer (some ⟨p.t, 0, none⟩)] 28)).alloc (.cells #[.int .i64 at_] 3)).heap.size = w.heap.size + 2 := by simp
  have t0 := hf0.cell 0
  obtain ⟨w1, hw1⟩ : ∃ w1, w1 = ((w.alloc (.cells #[.pointer (some ⟨p.t, 0, none⟩)] 28)).alloc (.cells #[.int .i64 at_] 3)) := ⟨_, rfl⟩
  rw [← hw1] at hb0 hT1 h1 hf0 hf1 hsz
  have HW := hide hw1
  have HB0 := hide hb0
  have HF0 := hide hf0
  have HF1 := hide hf1
  have HSZ := hide hsz
  cases hc : charsL s.data.toList with
  | none =>
    have HCH := hide (chars_none h1 s (by omega) hT1 hc)
    have HR := hide (show wordsR T s at_ n = (0, false, 5) by unfold wordsR; rw [hc])
    clear h h1 hT hT1 hw1 hb0 hf0 hf1 hsz hc hbad
    go_enter Tryd.func14, Tryd.ntmps14
    go_wp2_with (go_at_call 43; (try rw [← HW.out]); (with_reducible refine Calls.mono HCH.out ?_); rintro r w2 ⟨rfl, hb2⟩; have t1 := ((HF1.out.below hb2 HF1.out.lt).cell 0).trans rfl)
    go_ret3
    exact ⟨by rw [HR.out]; rfl, (HB0.out.trans (hb2.mono HB0.out.size)).alloc (HB0.out.trans (hb2.mono HB0.out.size)).size _⟩
  | some L =>
    have hL1 : L.length ≤ s.size := chars_le _ _ hc
    have hl2 : (L.length : Int) ≤ 1000000000000 := by omega
    have HCH := hide (chars_some h1 s (by omega) hT1 hc)
    have hr : at_ < 0 ∨ (L.length : Int) < at_ := by
      by_cases hr : at_ < 0 ∨ (L.length : Int) < at_
      · exact hr
      · unfold wordsR at hbad
        rw [hc] at hbad
        simp only [] at hbad
        rw [if_neg hr] at hbad
        exact absurd rfl hbad
    have HR := hide (show wordsR T s at_ n = (0, false, 3) by unfold wordsR; rw [hc]; simp only []; rw [if_pos hr])
    clear h h1 hT hT1 hw1 hb0 hf0 hf1 hsz hc hbad
    by_cases q1 : at_ < 0
    · clear hr
      go_enter Tryd.func14, Tryd.ntmps14
      go_wp2_with (go_at_call 43; (try rw [← HW.out]); (with_reducible refine Calls.mono HCH.out ?_); rintro r w2 ⟨A, c, rfl, hlc, hb2, hsl, -⟩; have t1 := ((HF1.out.below hb2 HF1.out.lt).alloc (.cells #[.slice A L.length c] 24)).cell 0; have t2 := (Blk.new w2 24 #[.slice A L.length c]).cell 0; clear hsl)
      go_ret3
      exact ⟨by rw [HR.out]; rfl, (HB0.out.trans (hb2.mono HB0.out.size)).alloc (HB0.out.trans (hb2.mono HB0.out.size)).size _⟩
    · have q2 : (L.length : Int) < at_ := hr.resolve_left q1
      clear hr
      go_enter Tryd.func14, Tryd.ntmps14
      go_wp2_with (go_at_call 43; (try rw [← HW.out]); (with_reducible refine Calls.mono HCH.out ?_); rintro r w2 ⟨A, c, rfl, hlc, hb2, hsl, -⟩; have t1 := ((HF1.out.below hb2 HF1.out.lt).alloc (.cells #[.slice A L.length c] 24)).cell 0; have t2 := (Blk.new w2 24 #[.slice A L.length c]).cell 0; clear hsl)
      go_ret3
      exact ⟨by rw [HR.out]; rfl, (HB0.out.trans (hb2.mono HB0.out.size)).alloc (HB0.out.trans (hb2.mono HB0.out.size)).size _⟩
set_option maxRecDepth 100000 in
set_option maxHeartbeats 4000000 in
theorem wordsF_any (h : TabAt w p T) (s : ByteArray) (hs : s.size ≤ 1000000000000) (hT : Tabs w) {L : List Nat} (hc : charsL s.data.toList = some L) (i0 : Nat) (hi0 : i0 ≤ L.length) (n : Int) (hn : 0 ≤ n) (hn2 : n ≤ 1000000) : Calls Tryd.prog 14 #[.pointer (some ⟨p.t, 0, none⟩), .string s, .int .i64 (i0 : Int), .int .i64 n] w fun e w' => e = .returned (wrdV ((words T L n i0).1, (words T L n i0).2, 0)) ∧ Below w.heap.size w w' := by
  have hb0 : Below w.heap.size w ((w.alloc (.cells #[.pointer (some ⟨p.t, 0, none⟩)] 28)).alloc (.cells #[.int .i64 (i0 : Int)] 3)) := ((Below.refl _ w).alloc (Nat.le_refl _) _).alloc (by simp) _
  have hT1 := hT.below hb0
  have h1 := h.below hb0
  have hf0 := (Blk.new w 28 #[.pointer (some ⟨p.t, 0, none⟩)]).alloc (.cells #[.int .i64 (i0 : Int)] 3)
  have hf1 : Blk ((w.alloc (.cells #[.pointer (some ⟨p.t, 0, none⟩)] 28)).alloc (.cells #[.int .i64 (i0 : Int)] 3)) (w.heap.size + 1) 3 #[.int .i64 (i0 : Int)] := by
    have := Blk.new (w.alloc (.cells #[.pointer (some ⟨p.t, 0, none⟩)] 28)) 3 #[.int .i64 (i0 : Int)]
    rwa [World.size_alloc] at this
  have hsz : ((w.alloc (.cells #[.pointer (some ⟨p.t, 0, none⟩)] 28)).alloc (.cells #[.int .i64 (i0 : Int)] 3)).heap.size = w.heap.size + 2 := by simp
  have t0 := hf0.cell 0
  obtain ⟨w1, hw1⟩ : ∃ w1, w1 = ((w.alloc (.cells #[.pointer (some ⟨p.t, 0, none⟩)] 28)).alloc (.cells #[.int .i64 (i0 : Int)] 3)) := ⟨_, rfl⟩
  rw [← hw1] at hb0 hT1 h1 hf0 hf1 hsz
  have HW := hide hw1
  have HB0 := hide hb0
  have HF0 := hide hf0
  have HF1 := hide hf1
  have HSZ := hide hsz
  have hL1 : L.length ≤ s.size := chars_le _ _ hc
  have hl : L.length ≤ 1000000000000 := by omega
  have hl2 : (L.length : Int) ≤ 1000000000000 := by omega
  have HCH := hide (chars_some h1 s (by omega) hT1 hc)
  rw [show words T L n i0 = wordsF T L n.toNat i0 by unfold words; rw [if_neg (by omega)]]
  obtain ⟨R, hR⟩ : ∃ R, wordsF T L n.toNat i0 = R := ⟨_, rfl⟩
  rw [hR]
  have HRR := hide hR
  have HT := hide h
  have q1 : decide ((i0 : Int) < 0) = false := by simp
  have q2 : decide ((L.length : Int) < (i0 : Int)) = false := by simp; omega
  have q3 : decide (L.length < i0) = false := by simp; omega
  have qn : decide (n < 0) = false := by simp; omega
  have HI0 := hide hi0
  clear h h1 hT hT1 hw1 hb0 hf0 hf1 hsz hc hR hi0
  go_enter Tryd.func14, Tryd.ntmps14
  go_wp2_with (go_at_call 43; (try rw [← HW.out]); (with_reducible refine Calls.mono HCH.out ?_); rintro r w2 ⟨A, c, rfl, hlc, hb2, hsl, hown⟩; have HX := hide (fun nx => WSt.begin HB0.out HF0.out HF1.out HSZ.out hb2 hsl hown nx); have t1 := ((HF1.out.below hb2 HF1.out.lt).alloc (.cells #[.slice A L.length c] 24)).cell 0; have t2 := (Blk.new w2 24 #[.slice A L.length c]).cell 0; clear hb2 hsl hown)
  go_loopw [3] (fun nv wr => ∃ (m : Int) (i : Nat), nv = .int .i64 m ∧ i ≤ L.length ∧ 0 ≤ m ∧ m ≤ 1000000 ∧ wordsF T L m.toNat i = R ∧ WSt w wr w2.heap.size p (.slice A L.length c) L i 0) (fun nv _ => (intOf nv).toNat)
  case atStart => exact ⟨n, i0, rfl, HI0.out, hn, hn2, HRR.out, HX.out 0⟩
  case round =>
    obtain ⟨m, i, rfl, hi, hm0, hm1, he, hx⟩ := hrel
    have HI := hide hx
    have HE := hide he
    have ca := hx.ca
    clear he hx
    by_cases hm : 0 < m
    · have ym : (m != 0) = true := by simp; omega
      go_wp2
      go_loopw [] (fun wr => ∃ j : Nat, j ≤ L.length ∧ wF T L j = wF T L i ∧ WSt w wr w2.heap.size p (.slice A L.length c) L j 0) (fun wr => L.length - boxN wr (w.heap.size + 1))
      case atStart => exact ⟨i, hi, rfl, HI.out⟩
      case round =>
        clear ca
        obtain ⟨j, hj, he2, hy⟩ := hrel
        have HJ := hide hy
        have HE2 := hide he2
        have ca := hy.ca
        clear he2 hy
        have hj2 : (j : Int) ≤ 1000000000000 := by omega
        by_cases hg : j < L.length
        · cases hw : (T.at_ L (j) == 1)
          · go_wp2_with (first | (go_at_call 44; (with_reducible refine Calls.mono (in_yes HJ.out hl (by omega) (by omega)) ?_); rintro r w3 ⟨rfl, hb3⟩; have HK3 := hide (HJ.out.below hb3); have i30 := HK3.out.ca; have i31 := HK3.out.fa; clear hb3) | (go_at_call 45; (with_reducible refine Calls.mono (word_is HK3.out HT.out hl (j := j) (by omega) (by omega)) ?_); rw [hw]; rintro r w4 ⟨rfl, hb4⟩; have HK4 := hide (HK3.out.below hb4); have i40 := HK4.out.ca; have i41 := HK4.out.fa; clear hb4))
            refine ⟨⟨j + 1, by omega, ?_, HK4.out.put _⟩, ?_⟩
            · rw [← HE2.out]
              exact (wF_step hg (by simpa using hw)).symm
            · rw [(HK4.out.put _).boxN, HJ.out.boxN]
              omega
          · have HWJ := hide (show wF T L j = j from wF_stop hg (by simpa using hw))
            go_wp2_with (first | (go_at_call 44; (with_reducible refine Calls.mono (in_yes HJ.out hl (by omega) (by omega)) ?_); rintro r w3 ⟨rfl, hb3⟩; have HK3 := hide (HJ.out.below hb3); have i30 := HK3.out.ca; have i31 := HK3.out.fa; clear hb3) | (go_at_call 45; (with_reducible refine Calls.mono (word_is HK3.out HT.out hl (j := j) (by omega) (by omega)) ?_); rw [hw]; rintro r w4 ⟨rfl, hb4⟩; have HK4 := hide (HK3.out.below hb4); have i40 := HK4.out.ca; have i41 := HK4.out.fa; clear hb4) | (go_at_call 44; (with_reducible refine Calls.mono (in_yes HK4.out hl (by omega) (by omega)) ?_); rintro r w5 ⟨rfl, hb5⟩; have HK5 := hide (HK4.out.below hb5); have i50 := HK5.out.ca; have i51 := HK5.out.fa; clear hb5))
            go_loopw [] (fun wr => ∃ k : Nat, k ≤ L.length ∧ wE T L k = wE T L j ∧ WSt w wr w2.heap.size p (.slice A L.length c) L k 0) (fun wr => L.length - boxN wr (w.heap.size + 1))
            case atStart => exact ⟨j, hj, rfl, HK5.out⟩
            case round =>
              have HG := hide hg
              clear ca i30 i31 i40 i41 i50 i51 hg hw
              obtain ⟨k, hk, he3, hz⟩ := hrel
              have HZ := hide hz
              have HE3 := hide he3
              have ca := hz.ca
              clear he3 hz
              have hk2 : (k : Int) ≤ 1000000000000 := by omega
              by_cases hg2 : k < L.length
              · cases hw2 : (T.at_ L (k) == 1)
                · go_wp2_with (first | (go_at_call 44; (with_reducible refine Calls.mono (in_yes HZ.out hl (by omega) (by omega)) ?_); rintro r w6 ⟨rfl, hb6⟩; have HK6 := hide (HZ.out.below hb6); have i60 := HK6.out.ca; have i61 := HK6.out.fa; clear hb6) | (go_at_call 45; (with_reducible refine Calls.mono (word_is HK6.out HT.out hl (j := k) (by omega) (by omega)) ?_); rw [hw2]; rintro r w7 ⟨rfl, hb7⟩; have HK7 := hide (HK6.out.below hb7); have i70 := HK7.out.ca; have i71 := HK7.out.fa; clear hb7))
                  refine ⟨⟨m - 1, k, rfl, hk, by omega, by omega, ?_, HK7.out⟩, by simp [intOf]; omega⟩
                  rw [← HE.out]
                  exact (wordsF_some hm (HE2.out.symm.trans HWJ.out) (by have := HG.out; omega) (HE3.out.symm.trans (show _ = k from wE_stop hg2 (by simpa using hw2)))).symm
                · go_wp2_with (first | (go_at_call 44; (with_reducible refine Calls.mono (in_yes HZ.out hl (by omega) (by omega)) ?_); rintro r w6 ⟨rfl, hb6⟩; have HK6 := hide (HZ.out.below hb6); have i60 := HK6.out.ca; have i61 := HK6.out.fa; clear hb6) | (go_at_call 45; (with_reducible refine Calls.mono (word_is HK6.out HT.out hl (j := k) (by omega) (by omega)) ?_); rw [hw2]; rintro r w7 ⟨rfl, hb7⟩; have HK7 := hide (HK6.out.below hb7); have i70 := HK7.out.ca; have i71 := HK7.out.fa; clear hb7))
                  refine ⟨⟨k + 1, by omega, ?_, HK7.out.put _⟩, ?_⟩
                  · rw [← HE3.out]
                    exact (wE_step hg2 (by simpa using hw2)).symm
                  · rw [(HK7.out.put _).boxN, HZ.out.boxN]
                    omega
              · go_wp2_with (first | (go_at_call 44; (with_reducible refine Calls.mono (in_no HZ.out hl (by omega) (by omega) (by omega)) ?_); rintro r w6 ⟨rfl, hb6⟩; have HK6 := hide (HZ.out.below hb6); have i60 := HK6.out.ca; have i61 := HK6.out.fa; clear hb6))
                refine ⟨⟨m - 1, k, rfl, hk, by omega, by omega, ?_, HK6.out⟩, by simp [intOf]; omega⟩
                rw [← HE.out]
                exact (wordsF_some hm (HE2.out.symm.trans HWJ.out) (by have := HG.out; omega) (HE3.out.symm.trans (show _ = k from by rw [show k = L.length by omega]; exact wE_end (Nat.le_refl _)))).symm
        · have HWJ := hide (show wF T L j = L.length from by rw [show j = L.length by omega]; exact wF_end (Nat.le_refl _))
          go_wp2_with (first | (go_at_call 44; (with_reducible refine Calls.mono (in_no HJ.out hl (by omega) (by omega) (by omega)) ?_); rintro r w3 ⟨rfl, hb3⟩; have HK3 := hide (HJ.out.below hb3); have i30 := HK3.out.ca; have i31 := HK3.out.fa; clear hb3) | (go_at_call 44; (with_reducible refine Calls.mono (in_no HK3.out hl (by omega) (by omega) (by omega)) ?_); rintro r w4 ⟨rfl, hb4⟩; have HK4 := hide (HK3.out.below hb4); have i40 := HK4.out.ca; have i41 := HK4.out.fa; clear hb4))
          go_ret3
          refine ⟨?_, HK4.out.bel⟩
          rw [← HE.out, wordsF_none hm (HE2.out.symm.trans HWJ.out)]
          rw [show j = L.length by omega]; rfl
    · have ym : (m != 0) = false := by simp; omega
      have hm2 : m = 0 := by omega
      have HE0 := hide (show (i, true) = R from by rw [← HE.out, hm2]; rfl)
      clear hm2
      go_wp2
      go_ret3
      exact ⟨by rw [← HE0.out]; rfl, HI.out.bel⟩
set_option maxRecDepth 100000 in
set_option maxHeartbeats 4000000 in
theorem wordsB_any (h : TabAt w p T) (s : ByteArray) (hs : s.size ≤ 1000000000000) (hT : Tabs w) {L : List Nat} (hc : charsL s.data.toList = some L) (i0 : Nat) (hi0 : i0 ≤ L.length) (n : Int) (hn : -1000000 ≤ n) (hn2 : n < 0) : Calls Tryd.prog 14 #[.pointer (some ⟨p.t, 0, none⟩), .string s, .int .i64 (i0 : Int), .int .i64 n] w fun e w' => e = .returned (wrdV ((words T L n i0).1, (words T L n i0).2, 0)) ∧ Below w.heap.size w w' := by
  have hb0 : Below w.heap.size w ((w.alloc (.cells #[.pointer (some ⟨p.t, 0, none⟩)] 28)).alloc (.cells #[.int .i64 (i0 : Int)] 3)) := ((Below.refl _ w).alloc (Nat.le_refl _) _).alloc (by simp) _
  have hT1 := hT.below hb0
  have h1 := h.below hb0
  have hf0 := (Blk.new w 28 #[.pointer (some ⟨p.t, 0, none⟩)]).alloc (.cells #[.int .i64 (i0 : Int)] 3)
  have hf1 : Blk ((w.alloc (.cells #[.pointer (some ⟨p.t, 0, none⟩)] 28)).alloc (.cells #[.int .i64 (i0 : Int)] 3)) (w.heap.size + 1) 3 #[.int .i64 (i0 : Int)] := by
    have := Blk.new (w.alloc (.cells #[.pointer (some ⟨p.t, 0, none⟩)] 28)) 3 #[.int .i64 (i0 : Int)]
    rwa [World.size_alloc] at this
  have hsz : ((w.alloc (.cells #[.pointer (some ⟨p.t, 0, none⟩)] 28)).alloc (.cells #[.int .i64 (i0 : Int)] 3)).heap.size = w.heap.size + 2 := by simp
  have t0 := hf0.cell 0
  obtain ⟨w1, hw1⟩ : ∃ w1, w1 = ((w.alloc (.cells #[.pointer (some ⟨p.t, 0, none⟩)] 28)).alloc (.cells #[.int .i64 (i0 : Int)] 3)) := ⟨_, rfl⟩
  rw [← hw1] at hb0 hT1 h1 hf0 hf1 hsz
  have HW := hide hw1
  have HB0 := hide hb0
  have HF0 := hide hf0
  have HF1 := hide hf1
  have HSZ := hide hsz
  have hL1 : L.length ≤ s.size := chars_le _ _ hc
  have hl : L.length ≤ 1000000000000 := by omega
  have hl2 : (L.length : Int) ≤ 1000000000000 := by omega
  have HCH := hide (chars_some h1 s (by omega) hT1 hc)
  rw [show words T L n i0 = wordsB T L (-n).toNat i0 by unfold words; rw [if_pos hn2]]
  obtain ⟨R, hR⟩ : ∃ R, wordsB T L (-n).toNat i0 = R := ⟨_, rfl⟩
  rw [hR]
  have HRR := hide hR
  have HT := hide h
  have q1 : decide ((i0 : Int) < 0) = false := by simp
  have q2 : decide ((L.length : Int) < (i0 : Int)) = false := by simp; omega
  have q3 : decide (L.length < i0) = false := by simp; omega
  have qn : decide (n < 0) = true := by simpa using hn2
  have HI0 := hide hi0
  clear h h1 hT hT1 hw1 hb0 hf0 hf1 hsz hc hR hi0
  go_enter Tryd.func14, Tryd.ntmps14
  go_wp2_with (go_at_call 43; (try rw [← HW.out]); (with_reducible refine Calls.mono HCH.out ?_); rintro r w2 ⟨A, c, rfl, hlc, hb2, hsl, hown⟩; have HX := hide (fun nx => WSt.begin HB0.out HF0.out HF1.out HSZ.out hb2 hsl hown nx); have t1 := ((HF1.out.below hb2 HF1.out.lt).alloc (.cells #[.slice A L.length c] 24)).cell 0; have t2 := (Blk.new w2 24 #[.slice A L.length c]).cell 0; clear hb2 hsl hown)
  go_loopw [3] (fun nv wr => ∃ (m : Int) (i : Nat), nv = .int .i64 m ∧ i ≤ L.length ∧ -1000000 ≤ m ∧ m ≤ 0 ∧ wordsB T L (-m).toNat i = R ∧ WSt w wr w2.heap.size p (.slice A L.length c) L i (-1)) (fun nv _ => (-(intOf nv)).toNat)
  case atStart => exact ⟨n, i0, rfl, HI0.out, hn, by omega, HRR.out, HX.out (-1)⟩
  case round =>
    obtain ⟨m, i, rfl, hi, hm0, hm1, he, hx⟩ := hrel
    have HI := hide hx
    have HE := hide he
    have ca := hx.ca
    clear he hx
    by_cases hm : m < 0
    · have ym : (m != 0) = true := by simp; omega
      go_wp2
      go_loopw [] (fun wr => ∃ j : Nat, j ≤ L.length ∧ bN T L j = bN T L i ∧ WSt w wr w2.heap.size p (.slice A L.length c) L j (-1)) (fun wr => boxN wr (w.heap.size + 1))
      case atStart => exact ⟨i, hi, rfl, HI.out⟩
      case round =>
        clear ca
        obtain ⟨j, hj, he2, hy⟩ := hrel
        have HJ := hide hy
        have HE2 := hide he2
        have ca := hy.ca
        clear he2 hy
        have hj2 : (j : Int) ≤ 1000000000000 := by omega
        by_cases hg : 0 < j
        · cases hw : (T.at_ L (j - 1) == 1)
          · go_wp2_with (first | (go_at_call 44; (with_reducible refine Calls.mono (in_yes HJ.out hl (by omega) (by omega)) ?_); rintro r w3 ⟨rfl, hb3⟩; have HK3 := hide (HJ.out.below hb3); have i30 := HK3.out.ca; have i31 := HK3.out.fa; clear hb3) | (go_at_call 45; (with_reducible refine Calls.mono (word_is HK3.out HT.out hl (j := j - 1) (by omega) (by omega)) ?_); rw [hw]; rintro r w4 ⟨rfl, hb4⟩; have HK4 := hide (HK3.out.below hb4); have i40 := HK4.out.ca; have i41 := HK4.out.fa; clear hb4))
            refine ⟨⟨j - 1, by omega, ?_, by rw [show ((j : Int) + -1) = ((j - 1 : Nat) : Int) from by omega]; exact HK4.out.put _⟩, ?_⟩
            · rw [← HE2.out]
              exact (bN_at hg (by simpa using hw)).symm
            · rw [(HK4.out.put _).boxN, HJ.out.boxN]
              omega
          · have HWJ := hide (show bN T L j = j from bN_here hg (by simpa using hw))
            go_wp2_with (first | (go_at_call 44; (with_reducible refine Calls.mono (in_yes HJ.out hl (by omega) (by omega)) ?_); rintro r w3 ⟨rfl, hb3⟩; have HK3 := hide (HJ.out.below hb3); have i30 := HK3.out.ca; have i31 := HK3.out.fa; clear hb3) | (go_at_call 45; (with_reducible refine Calls.mono (word_is HK3.out HT.out hl (j := j - 1) (by omega) (by omega)) ?_); rw [hw]; rintro r w4 ⟨rfl, hb4⟩; have HK4 := hide (HK3.out.below hb4); have i40 := HK4.out.ca; have i41 := HK4.out.fa; clear hb4) | (go_at_call 44; (with_reducible refine Calls.mono (in_yes HK4.out hl (by omega) (by omega)) ?_); rintro r w5 ⟨rfl, hb5⟩; have HK5 := hide (HK4.out.below hb5); have i50 := HK5.out.ca; have i51 := HK5.out.fa; clear hb5))
            go_loopw [] (fun wr => ∃ k : Nat, k ≤ L.length ∧ bE T L k = bE T L j ∧ WSt w wr w2.heap.size p (.slice A L.length c) L k (-1)) (fun wr => boxN wr (w.heap.size + 1))
            case atStart => exact ⟨j, hj, rfl, HK5.out⟩
            case round =>
              have HG := hide hg
              clear ca i30 i31 i40 i41 i50 i51 hg hw
              obtain ⟨k, hk, he3, hz⟩ := hrel
              have HZ := hide hz
              have HE3 := hide he3
              have ca := hz.ca
              clear he3 hz
              have hk2 : (k : Int) ≤ 1000000000000 := by omega
              by_cases hg2 : 0 < k
              · cases hw2 : (T.at_ L (k - 1) == 1)
                · go_wp2_with (first | (go_at_call 44; (with_reducible refine Calls.mono (in_yes HZ.out hl (by omega) (by omega)) ?_); rintro r w6 ⟨rfl, hb6⟩; have HK6 := hide (HZ.out.below hb6); have i60 := HK6.out.ca; have i61 := HK6.out.fa; clear hb6) | (go_at_call 45; (with_reducible refine Calls.mono (word_is HK6.out HT.out hl (j := k - 1) (by omega) (by omega)) ?_); rw [hw2]; rintro r w7 ⟨rfl, hb7⟩; have HK7 := hide (HK6.out.below hb7); have i70 := HK7.out.ca; have i71 := HK7.out.fa; clear hb7))
                  refine ⟨⟨m + 1, k, rfl, hk, by omega, by omega, ?_, HK7.out⟩, by simp [intOf]; omega⟩
                  rw [← HE.out]
                  exact (wordsB_some hm (HE2.out.symm.trans HWJ.out) (by have := HG.out; omega) (HE3.out.symm.trans (show _ = k from bE_here hg2 (by simpa using hw2)))).symm
                · go_wp2_with (first | (go_at_call 44; (with_reducible refine Calls.mono (in_yes HZ.out hl (by omega) (by omega)) ?_); rintro r w6 ⟨rfl, hb6⟩; have HK6 := hide (HZ.out.below hb6); have i60 := HK6.out.ca; have i61 := HK6.out.fa; clear hb6) | (go_at_call 45; (with_reducible refine Calls.mono (word_is HK6.out HT.out hl (j := k - 1) (by omega) (by omega)) ?_); rw [hw2]; rintro r w7 ⟨rfl, hb7⟩; have HK7 := hide (HK6.out.below hb7); have i70 := HK7.out.ca; have i71 := HK7.out.fa; clear hb7))
                  refine ⟨⟨k - 1, by omega, ?_, by rw [show ((k : Int) + -1) = ((k - 1 : Nat) : Int) from by omega]; exact HK7.out.put _⟩, ?_⟩
                  · rw [← HE3.out]
                    exact (bE_at hg2 (by simpa using hw2)).symm
                  · rw [(HK7.out.put _).boxN, HZ.out.boxN]
                    omega
              · go_wp2_with (first | (go_at_call 44; (with_reducible refine Calls.mono (in_no HZ.out hl (by omega) (by omega) (by omega)) ?_); rintro r w6 ⟨rfl, hb6⟩; have HK6 := hide (HZ.out.below hb6); have i60 := HK6.out.ca; have i61 := HK6.out.fa; clear hb6))
                refine ⟨⟨m + 1, k, rfl, hk, by omega, by omega, ?_, HK6.out⟩, by simp [intOf]; omega⟩
                rw [← HE.out]
                exact (wordsB_some hm (HE2.out.symm.trans HWJ.out) (by have := HG.out; omega) (HE3.out.symm.trans (show _ = k from by rw [show k = 0 by omega]; rfl))).symm
        · have HWJ := hide (show bN T L j = 0 from by rw [show j = 0 by omega]; rfl)
          go_wp2_with (first | (go_at_call 44; (with_reducible refine Calls.mono (in_no HJ.out hl (by omega) (by omega) (by omega)) ?_); rintro r w3 ⟨rfl, hb3⟩; have HK3 := hide (HJ.out.below hb3); have i30 := HK3.out.ca; have i31 := HK3.out.fa; clear hb3) | (go_at_call 44; (with_reducible refine Calls.mono (in_no HK3.out hl (by omega) (by omega) (by omega)) ?_); rintro r w4 ⟨rfl, hb4⟩; have HK4 := hide (HK3.out.below hb4); have i40 := HK4.out.ca; have i41 := HK4.out.fa; clear hb4))
          go_ret3
          refine ⟨?_, HK4.out.bel⟩
          rw [← HE.out, wordsB_none hm (HE2.out.symm.trans HWJ.out)]
          rw [show j = 0 by omega]; rfl
    · have ym : (m != 0) = false := by simp; omega
      have hm2 : m = 0 := by omega
      have HE0 := hide (show (i, true) = R from by rw [← HE.out, hm2]; rfl)
      clear hm2
      go_wp2
      go_ret3
      exact ⟨by rw [← HE0.out]; rfl, HI.out.bel⟩
/-- Words of a table. -/
theorem words_any (h : TabAt w p T) (s : ByteArray) (hs : s.size ≤ 1000000000000) (hT : Tabs w) (at_ n : Int) (hn : -1000000 ≤ n) (hn2 : n ≤ 1000000) : Calls Tryd.prog 14 #[.pointer (some ⟨p.t, 0, none⟩), .string s, .int .i64 at_, .int .i64 n] w fun e w' => e = .returned (wrdV (wordsR T s at_ n)) ∧ Below w.heap.size w w' := by
  by_cases hb : (wordsR T s at_ n).2.2 = 0
  · cases hc : charsL s.data.toList with
    | none =>
      unfold wordsR at hb
      rw [hc] at hb
      simp at hb
    | some L =>
      have hr : ¬ (at_ < 0 ∨ (L.length : Int) < at_) := fun hr => by
        unfold wordsR at hb
        rw [hc] at hb
        simp only [] at hb
        rw [if_pos hr] at hb
        simp at hb
      obtain ⟨i0, rfl⟩ : ∃ i0 : Nat, at_ = (i0 : Int) := ⟨at_.toNat, by omega⟩
      have hR : wordsR T s i0 n = ((words T L n i0).1, (words T L n i0).2, 0) := by
        unfold wordsR
        rw [hc]
        simp only []
        rw [if_neg hr, Int.toNat_natCast]
      rw [hR]
      by_cases h0 : 0 ≤ n
      · exact wordsF_any h s hs hT hc i0 (by omega) n h0 hn2
      · exact wordsB_any h s hs hT hc i0 (by omega) n hn (by omega)
  · exact words_bad h s hs hT at_ n hb
end
end Go.Proofs.YtdojcgefiekleaaDoor
