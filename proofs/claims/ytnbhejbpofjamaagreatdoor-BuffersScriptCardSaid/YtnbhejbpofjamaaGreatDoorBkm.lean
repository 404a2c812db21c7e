/- A buffer: does a string fit; put. No condition but those written. -/
import Derived.Test.YtnbhejbpofjamaaGreatDoorBkj
namespace Go.Proofs.YtnbhejbpofjamaaGreatDoor
open Go.RowKit

/-- The error of a string that does not fit. -/
def fitE (L : List Nat) (s : ByteArray) : Int := if validS s = false then 5 else if 65536 < L.length + lenS s then 4 else 0
section
variable {W w w' : World} {z : Zb} {L : List Nat} {lg : Lg} {cs : Array Value} {p q : Int} {R : Heap}
set_option maxRecDepth 100000 in
set_option maxHeartbeats 4000000 in
theorem fits1_any (w : World) (h : ZAt W w z L lg cs p q R) (hT : Tabs w) (s : ByteArray) (hs : s.size ≤ 1000000) (c9 : w.cell? ⟨z.bp, 9, none⟩ = some (.pointer (some ⟨z.gb.tb, 0, none⟩))) (g1 g2 g3 : Nat) (h1 : w.cell? ⟨g1, 0, none⟩ = some (.string s)) (h2 : w.cell? ⟨g2, 0, none⟩ = some (.pointer (some ⟨z.bp, 0, none⟩))) (h3 : w.cell? ⟨g3, 0, none⟩ = some (.int .i64 0)) :
    Calls Tryz.prog 142 #[.pointer (some ⟨g1, 0, none⟩), .pointer (some ⟨g2, 0, none⟩), .pointer (some ⟨g3, 0, none⟩)] w fun e w' => e = .returned (.int .i64 (fitE L s)) ∧ Below w.heap.size w w' := by
  have HV := hide (valid_any s w (by omega) hT)
  have HL := hide (fun w' (hb : Below w.heap.size w w') => len_any s w' (by omega) (hT.below hb))
  have HZ := hide (fun w' (hb : Below w.heap.size w w') => size_any (h.below hb).text)
  have HK := hide (fun w' (hb : Below w.heap.size w w') => (show w'.cell? ⟨z.bp, 9, none⟩ = some (.pointer (some ⟨z.gb.tb, 0, none⟩)) ∧ w'.cell? ⟨g1, 0, none⟩ = some (.string s) ∧ w'.cell? ⟨g2, 0, none⟩ = some (.pointer (some ⟨z.bp, 0, none⟩)) ∧ w'.cell? ⟨g3, 0, none⟩ = some (.int .i64 0) from
    ⟨(hb.cell (World.block_lt_of_cell? _ _ c9)).trans c9, (hb.cell (World.block_lt_of_cell? _ _ h1)).trans h1, (hb.cell (World.block_lt_of_cell? _ _ h2)).trans h2, (hb.cell (World.block_lt_of_cell? _ _ h3)).trans h3⟩))
  have HS := hide h.ok.size
  have HLS := hide (show lenS s ≤ 1000000 from Nat.le_trans (lenS_le s) hs)
  clear h hT hs
  cases hv : validS s with
  | false =>
    have HE := hide (show fitE L s = 5 by unfold fitE; rw [if_pos hv])
    rw [hv] at HV
    clear hv
    go_enter Tryz.func142, Tryz.ntmps142
    go_wp2_with fail
    refine Calls.mono HV.out ?_
    rintro e w1 ⟨rfl, b1⟩
    have HB := hide b1
    clear b1
    go_wp2_with fail
    go_ret
    exact ⟨by rw [HE.out]; rfl, HB.out⟩
  | true =>
    have HE := hide (show fitE L s = if 65536 < L.length + lenS s then 4 else 0 by unfold fitE; rw [if_neg (by rw [hv]; simp)])
    rw [hv] at HV
    clear hv
    go_enter Tryz.func142, Tryz.ntmps142
    go_wp2_with fail
    refine Calls.mono HV.out ?_
    rintro e w1 ⟨rfl, b1⟩
    have HB := hide b1
    obtain ⟨k9, k1, k2, k3⟩ := HK.out _ b1
    clear b1
    obtain ⟨n, hn⟩ : ∃ n, n = L.length := ⟨_, rfl⟩
    obtain ⟨m, hm⟩ : ∃ m, m = lenS s := ⟨_, rfl⟩
    rw [← hn, ← hm] at HE
    rw [← hn] at HZ HS
    rw [← hm] at HL HLS
    have hn2 : (n : Int) ≤ 65536 := by have := HS.out; omega
    have hm2 : (m : Int) ≤ 1000000 := by have := HLS.out; omega
    clear hn hm c9 h1 h2 h3
    have hw1 : IntKind.i64.wrap (n : Int) = (n : Int) := IntWalk.i64_in _ (by omega)
    have hw2 : IntKind.i64.wrap ((n : Int) + (m : Int)) = (n : Int) + (m : Int) := IntWalk.i64_in _ (by omega)
    by_cases hf : 65536 < n + m
    · have z1 : decide ((65536 : Int) < (n : Int) + (m : Int)) = true := by simp; omega
      have HE2 := hide (show fitE L s = 4 by rw [HE.out, if_pos hf])
      clear hf
      go_upto_region 3 with fail
      go_region_held3 (fun w' => w'.cell? ⟨z.bp, 9, none⟩ = some (.pointer (some ⟨z.gb.tb, 0, none⟩)) ∧ w'.cell? ⟨g1, 0, none⟩ = some (.string s) ∧ w'.cell? ⟨g2, 0, none⟩ = some (.pointer (some ⟨z.bp, 0, none⟩)) ∧ w'.cell? ⟨g3, 0, none⟩ = some (.int .i64 0))
        (first | exact HK.out _ HB.out.drew | exact HK.out _ HB2.out | exact HK.out _ HB3.out)
        ((first
          | (go_at_call 81; (with_reducible refine Calls.mono (HZ.out _ HB.out.drew) ?_); rintro e w2 ⟨rfl, qq, hw⟩; have HB2 := hide (show Below w.heap.size w w2 from hw ▸ below_drewN HB.out.drew qq); clear hw)
          | (go_at_call 72; (with_reducible refine Calls.mono (HL.out _ HB2.out) ?_); rintro e w3 ⟨rfl, b3⟩; have HB3 := hide (HB2.out.trans (b3.mono HB2.out.size)); clear b3)))
      go_wp2_with fail
      go_ret
      exact ⟨by rw [HE2.out]; rfl, HB3.out⟩
    · have z1 : decide ((65536 : Int) < (n : Int) + (m : Int)) = false := by simp; omega
      have HE2 := hide (show fitE L s = 0 by rw [HE.out, if_neg hf])
      clear hf
      go_upto_region 3 with fail
      go_region_held3 (fun w' => w'.cell? ⟨z.bp, 9, none⟩ = some (.pointer (some ⟨z.gb.tb, 0, none⟩)) ∧ w'.cell? ⟨g1, 0, none⟩ = some (.string s) ∧ w'.cell? ⟨g2, 0, none⟩ = some (.pointer (some ⟨z.bp, 0, none⟩)) ∧ w'.cell? ⟨g3, 0, none⟩ = some (.int .i64 0))
        (first | exact HK.out _ HB.out.drew | exact HK.out _ HB2.out | exact HK.out _ HB3.out)
        ((first
          | (go_at_call 81; (with_reducible refine Calls.mono (HZ.out _ HB.out.drew) ?_); rintro e w2 ⟨rfl, qq, hw⟩; have HB2 := hide (show Below w.heap.size w w2 from hw ▸ below_drewN HB.out.drew qq); clear hw)
          | (go_at_call 72; (with_reducible refine Calls.mono (HL.out _ HB2.out) ?_); rintro e w3 ⟨rfl, b3⟩; have HB3 := hide (HB2.out.trans (b3.mono HB2.out.size)); clear b3)))
      go_wp2_with fail
      go_ret
      exact ⟨by rw [HE2.out]; rfl, HB3.out⟩
set_option maxRecDepth 100000 in
set_option maxHeartbeats 4000000 in
theorem fits_any (w : World) (h : ZAt W w z L lg cs p q R) (hT : Tabs w) (s : ByteArray) (hs : s.size ≤ 1000000) (c9 : w.cell? ⟨z.bp, 9, none⟩ = some (.pointer (some ⟨z.gb.tb, 0, none⟩))) :
    Calls Tryz.prog 102 #[.pointer (some ⟨z.bp, 0, none⟩), .string s, .int .i64 0] w (ChkRes (fitE L s) 142 w) := by
  have HB := hide (below3 w (.cells #[.pointer (some ⟨z.bp, 0, none⟩)] 39) (.cells #[.string s] 9) (.cells #[.int .i64 0] 3))
  have HC := hide (show ChkOk (((w.alloc (.cells #[.pointer (some ⟨z.bp, 0, none⟩)] 39)).alloc (.cells #[.string s] 9)).alloc (.cells #[.int .i64 0] 3)) 142 #[.pointer (some ⟨w.heap.size + 1, 0, none⟩), .pointer (some ⟨w.heap.size, 0, none⟩), .pointer (some ⟨w.heap.size + 1 + 1, 0, none⟩)] (fitE L s) from
    ⟨fun args w => Tryz.call142 args w, fun w2 hw => by
      obtain ⟨x1, x2, x3⟩ := boxes3 w _ _ _ _ _ _ hw
      have hb := HB.out.trans (hw.mono (by simp <;> omega))
      exact fits1_any w2 (h.below hb) (hT.below hb) s hs ((hb.cell (World.block_lt_of_cell? _ _ c9)).trans c9) _ _ _ x2 x1 x3⟩)
  clear h hT hs c9
  go_enter Tryz.func102, Tryz.ntmps102
  go_wp2_with fail
  go_ret
  exact ⟨_, rfl, HC.out, HB.out⟩
end
/-! ### What put leaves -/
section
variable {W w w' : World} {z : Zb} {L : List Nat} {tick : Nat} {r p q : Int} {R : Heap}
/-- A buffer's cells where it lies. -/
def zC (z : Zb) (pt tick : Nat) (fresh : Bool) (r : Int) : Array Value := bzC pt tick fresh r z.gb.tb z.mks z.pr z.ov z.lb.lb
def lgS (tick n : Nat) : Lg := if tick = 0 then lg0 else lg3 1 (n + 1)
theorem noted_any {R0 : Heap} {z : Zb} (h : LogAt W w z.lb (lgS tick L.length) ((z.bp, .cells 104 (zC z (L.length + 1) tick (decide (tick = 0)) r)) :: R0)) (hR : Rules W) (h0 : tick = 0 → L = []) (hl : L.length ≤ 65536) (n : Nat) (hn : n ≤ 100000) :
    Calls Tryz.prog 143 #[.pointer (some ⟨z.bp, 0, none⟩), .agg #[.int .i64 1, .int .i64 ((L.length + 1 : Nat) : Int), .int .i64 ((L.length + 1 + n : Nat) : Int), .int .i64 0, .int .i64 0, .string ⟨#[]⟩, .int .i64 0, .int .i64 0, .bool false]] w (Noted W z.lb (lg3 1 (L.length + 1 + n)) z.bp (zC z (L.length + 1) tick false r) R0) := by
  by_cases ht : tick = 0
  · subst ht
    have hL := h0 rfl
    subst hL
    exact note_fresh (a := 1) h hR (1 + n) (by omega) (by omega) (by omega)
  · unfold lgS at h
    rw [if_neg ht, decide_eq_false ht] at h
    exact note_more (a := 1) h (hR.below h.own.bel) (L.length + 1 + n) (by omega) (by omega) (by omega)
/-- What put leaves. -/
def PutRes (W : World) (z : Zb) (L : List Nat) (tick : Nat) (p q r : Int) (s : ByteArray) (R : Heap) (e : Ending) (w' : World) : Prop :=
  e = .returned (.tuple #[]) ∧ ∃ z', z'.bp = z.bp ∧ ((lenS s = 0 ∧ z' = z ∧ ZAt W w' z L (lgS tick L.length) (zC z (L.length + 1) tick (decide (tick = 0)) r) p q R) ∨
    (lenS s ≠ 0 ∧ ZAt W w' z' (L ++ charsOf s) (lg3 1 (L.length + 1 + lenS s)) ((zC z' (L.length + 1) (tick + 1) false r).setIfInBounds 2 (.int .i64 ((L.length + 1 + lenS s : Nat) : Int))) p q R))
set_option maxRecDepth 100000 in
set_option maxHeartbeats 4000000 in
theorem zput_none (h : ZAt W w z L (lgS tick L.length) (zC z (L.length + 1) tick (decide (tick = 0)) r) p q R) (hT : Tabs w) (s : ByteArray) (hs : s.size ≤ 1000000) (hz : lenS s = 0) (a : Int) :
    Calls Tryz.prog 103 #[.pointer (some ⟨z.bp, 0, none⟩), .int .i64 a, .string s, .bool false] w (PutRes W z L tick p q r s R) := by
  have HL := len_any s w (by omega) hT
  rw [hz] at HL
  have HL := hide HL
  have H := hide h
  have HZ := hide hz
  clear h hT hs hz
  go_enter Tryz.func103, Tryz.ntmps103
  go_wp2_with fail
  refine Calls.mono HL.out ?_
  rintro e w1 ⟨rfl, b1⟩
  have H1 := hide (H.out.below b1)
  clear b1
  go_wp2_with fail
  refine bodyPost_end (results_none rfl _ _ _) rfl ?_
  exact ⟨rfl, z, rfl, .inl ⟨HZ.out, rfl, H1.out⟩⟩
set_option maxRecDepth 100000 in
set_option maxHeartbeats 4000000 in
theorem zput_some (h : ZAt W w z L (lgS tick L.length) (zC z (L.length + 1) tick (decide (tick = 0)) r) p q R) (hR : Rules W) (h0 : tick = 0 → L = []) (s : ByteArray) (hs : s.size ≤ 1000000) (hf : fitE L s = 0) (hz : lenS s ≠ 0) (htk : tick ≤ 1000000) :
    Calls Tryz.prog 103 #[.pointer (some ⟨z.bp, 0, none⟩), .int .i64 ((L.length + 1 : Nat) : Int), .string s, .bool false] w (PutRes W z L tick p q r s R) := by
  have hsz := h.ok.size
  have hT : Tabs W := hR.tabs
  have HT := hide hT
  have hL1 : L.length + lenS s ≤ 65536 := by
    unfold fitE at hf
    split at hf
    · cases hf
    · split at hf
      · cases hf
      · omega
  have hV1 : validS s = true := by
    unfold fitE at hf
    split at hf
    · cases hf
    · rename_i h9
      simpa using h9
  have HIN := hide (show insErr L ((L.length + 1 : Nat) : Int) s = 0 ∧ insL L ((L.length + 1 : Nat) : Int) s = L ++ charsOf s from by
    have he : insErr L ((L.length + 1 : Nat) : Int) s = 0 := by
      unfold insErr
      rw [if_neg (by omega), if_neg (by rw [hV1]; simp), if_neg (by omega)]
    refine ⟨he, ?_⟩
    unfold insL
    rw [if_pos he, show (((L.length + 1 : Nat) : Int) - 1).toNat = L.length by omega, List.take_of_length_le (Nat.le_refl _), List.drop_of_length_le (Nat.le_refl _), List.append_nil])
  obtain ⟨n, hn⟩ : ∃ n, n = lenS s := ⟨_, rfl⟩
  have HL := len_any s w (by omega) (hT.below h.bel)
  rw [← hn] at HL
  have HL := hide HL
  have HNO := fun w' (hb : Below w.heap.size w w') => noted_any (h.below hb).log hR h0 hsz n (by omega)
  obtain ⟨pt, hpt⟩ : ∃ pt, pt = L.length + 1 := ⟨_, rfl⟩
  rw [← hpt] at HNO HIN ⊢
  have hw0 : ((pt + n : Nat) : Int) = (pt : Int) + (n : Int) := Int.natCast_add ..
  rw [hw0] at HNO
  have HNO := hide HNO
  have HPT := hide hpt
  have HN := hide hn
  have H := hide h
  have HS := hide hs
  have hp1 : (pt : Int) ≤ 65537 := by omega
  have hn1 : (n : Int) ≤ 65536 := by omega
  have htk1 : (tick : Int) ≤ 1000000 := by omega
  have HP1 := hide hp1
  have HN1 := hide hn1
  have hz1 : ((n : Int) == 0) = false := by simp; omega
  have hz2 : decide ((n : Int) = 0) = false := by simp; omega
  have HZ := hide hz
  clear h hR h0 hs hf hz htk hsz hT hL1 hV1 hn hpt
  go_enter Tryz.func103, Tryz.ntmps103
  go_wp2_with fail
  refine Calls.mono HL.out ?_
  rintro e w1 ⟨rfl, b1⟩
  have HB1 := hide b1
  clear b1
  go_wp2_with fail
  refine Calls.mono (HNO.out _ HB1.out) ?_
  rintro e w2 ⟨rfl, lb2, hlb2, h2⟩
  obtain ⟨z2, hz2'⟩ : ∃ z2 : Zb, z2 = { z with lb := lb2 } := ⟨_, rfl⟩
  have h2' : ZAt W w2 z2 L (lg3 1 (pt + n)) (zC z2 pt tick false r) p q R := by
    have h9 := (H.out.below HB1.out).noted h2
    rw [← hz2'] at h9
    have e1 : zC z2 pt tick false r = zC z pt tick false r := by rw [hz2']; unfold zC; rw [hlb2]
    rw [e1]
    exact h9
  have hb2 : z2.bp = z.bp := by rw [hz2']
  have htb : z2.gb.tb = z.gb.tb := by rw [hz2']
  have H2 := hide h2'
  have HBP := hide hb2
  rw [← hb2]
  clear h2 hz2' hlb2 hb2 htb h2'
  have c9 : w2.cell? ⟨z2.bp, 9, none⟩ = some (.pointer (some ⟨z2.gb.tb, 0, none⟩)) := (H2.out.blk.cell 9).trans rfl
  go_wp2_with fail
  refine Calls.mono (insert_any H2.out.txt HT.out (pt : Int) s (by have := HS.out; omega)) ?_
  rintro e w3 ⟨rfl, h3⟩
  rw [HIN.out.2] at h3
  obtain ⟨gb3, hgb3, h3'⟩ := H2.out.ofTxt h3
  obtain ⟨z3, hz3⟩ : ∃ z3 : Zb, z3 = { z2 with gb := gb3 } := ⟨_, rfl⟩
  have h3z : ZAt W w3 z3 (L ++ charsOf s) (lg3 1 (pt + n)) (zC z3 pt tick false r) p q R := by
    rw [← hz3] at h3'
    have e1 : zC z3 pt tick false r = zC z2 pt tick false r := by rw [hz3]; unfold zC; rw [hgb3]
    rw [e1]
    exact h3'
  have hb3 : z3.bp = z2.bp := by rw [hz3]
  rw [← hb3]
  have HBP3 := hide (hb3.trans HBP.out)
  have H3 := hide h3z
  clear h3 h3' hz3 h3z hgb3 c9 hb3
  have d10 : w3.cell? ⟨z3.bp, 10, none⟩ = some (.pointer (some ⟨z3.mks, 0, none⟩)) := (H3.out.blk.cell 10).trans rfl
  go_wp2_with fail
  refine Calls.mono (minserted_any z3.mks z3.mm w3 ((H3.out.mk_.cell 0).trans rfl) H3.out.mm_ pt n (by have := HPT.out; omega) (by have := HP1.out; omega) (by have := HN1.out; omega) false) ?_
  rintro e w4 ⟨rfl, b4⟩
  have H4 := hide (H3.out.below b4)
  clear b4 d10
  have d11 : w4.cell? ⟨z3.bp, 11, none⟩ = some (.pointer (some ⟨z3.pr, 0, none⟩)) := (H4.out.blk.cell 11).trans rfl
  go_wp2_with fail
  refine Calls.mono (pinserted_any z3.pr w4 H4.out.pr_ pt n (by have := HPT.out; omega) (by have := HP1.out; omega) (by have := HN1.out; omega)) ?_
  rintro e w5 ⟨rfl, o5, k5⟩
  have H5 := hide (H4.out.pr_still o5 k5)
  clear o5 k5 d11
  have d12 : w5.cell? ⟨z3.bp, 12, none⟩ = some (.pointer (some ⟨z3.ov, 0, none⟩)) := (H5.out.blk.cell 12).trans rfl
  go_wp2_with fail
  refine Calls.mono (oinserted_any z3.ov p q w5 H5.out.ov_ pt n (by have := HPT.out; omega) (by have := HP1.out; omega) (by have := HN1.out; omega)) ?_
  rintro e w6 ⟨rfl, b6⟩
  have H6 := hide (H5.out.below b6)
  clear b6 d12
  go_wp2_with fail
  refine Calls.mono (inserted_any pt n w6) ?_
  rintro e w7 ⟨rfl, hw7⟩
  have hbx := boxes2 w6 (.int .i64 (pt : Int)) (.int .i64 (n : Int)) 3 3 (w2 := w7) (by rw [hw7]; exact Below.refl _ _)
  have b7 : Below w6.heap.size w6 w7 := by rw [hw7]; exact below2 _ _ _
  have H7 := hide (H6.out.below b7)
  have HMV := hide (moves_any w7 pt n H7.out.blk (by have := HPT.out; omega) (by have := HP1.out; omega) (by have := HN1.out; omega) _ _ hbx.1 hbx.2)
  obtain ⟨x1, hx1⟩ : ∃ x1, x1 = w6.heap.size := ⟨_, rfl⟩
  rw [← hx1] at HMV ⊢
  clear hw7 hbx b7 hx1
  go_wp2_with fail
  refine Calls.mono HMV.out ?_
  rintro e w8 ⟨rfl, o8, k8⟩
  have h8 := H7.out.turned o8 k8
  have H8 := hide h8
  have d7 : w8.cell? ⟨z3.bp, 7, none⟩ = some (.int .i64 (tick : Int)) := (h8.blk.cell 7).trans rfl
  have f7 := h8.blk.frozen 7
  have H9 := hide (h8.set_ 7 (.int .i64 ((tick : Int) + 1)))
  clear h8 o8 k8
  go_wp2_with fail
  refine bodyPost_end (results_none rfl _ _ _) rfl ?_
  refine ⟨rfl, z3, HBP3.out, .inr ⟨HZ.out, ?_⟩⟩
  have h9 := H9.out
  rw [← HN.out, ← HPT.out]
  exact h9
end
end Go.Proofs.YtnbhejbpofjamaaGreatDoor
namespace Go.Proofs.YtnbhejbpofjamaaGreatDoor
open Go.RowKit

/-- A buffer's state: its text, the count of changes, the names of three properties. -/
structure Bz where
  L : List Nat
  tick : Nat
  p : Int
  q : Int
  r : Int
/-- A buffer lies in memory, beside R. -/
structure BufAt (W w : World) (z : Zb) (s : Bz) (R : Heap) : Prop where
  at_ : ZAt W w z s.L (lgS s.tick s.L.length) (zC z (s.L.length + 1) s.tick (decide (s.tick = 0)) s.r) s.p s.q R
  h0 : s.tick = 0 → s.L = []
/-- What Insert makes of it. -/
def insB (s : Bz) (t : ByteArray) : Bz := if fitE s.L t = 0 ∧ lenS t ≠ 0 then { s with L := s.L ++ charsOf t, tick := s.tick + 1 } else s
theorem insB_tick (s : Bz) (t : ByteArray) : (insB s t).tick ≤ s.tick + 1 := by
  unfold insB
  split
  · exact Nat.le_refl _
  · exact Nat.le_succ _
theorem insB_same {s : Bz} {t : ByteArray} (h : ¬ (fitE s.L t = 0 ∧ lenS t ≠ 0)) : insB s t = s := by unfold insB; rw [if_neg h]
section
variable {W w w' : World} {z : Zb} {s : Bz} {R : Heap}
theorem BufAt.below (h : BufAt W w z s R) (hb : Below w.heap.size w w') : BufAt W w' z s R := ⟨h.at_.below hb, h.h0⟩

theorem below_box' (w : World) (o : Obj) : Below w.heap.size w (w.alloc o) := (Below.refl _ w).alloc (Nat.le_refl _) _
def InsB (W : World) (z : Zb) (s : Bz) (t : ByteArray) (R : Heap) (e : Ending) (w' : World) : Prop :=
  e = .returned (.int .i64 (fitE s.L t)) ∧ ∃ z', z'.bp = z.bp ∧ BufAt W w' z' (insB s t) R
theorem fitE_chk (L : List Nat) (t : ByteArray) : fitE L t = 0 ∨ fitE L t ≠ 0 := by omega
set_option maxRecDepth 100000 in
set_option maxHeartbeats 4000000 in
theorem zinsert_any (h : BufAt W w z s R) (hR : Rules W) (t : ByteArray) (ht : t.size ≤ 1000000) (htk : s.tick ≤ 1000000) :
    Calls Tryz.prog 69 #[.pointer (some ⟨z.bp, 0, none⟩), .string t, .bool false] w (InsB W z s t R) := by
  have hT : Tabs W := hR.tabs
  have HT := hide hT
  have H := hide h
  have HR := hide hR
  have HTS := hide ht
  have HTK := hide htk
  have hsz : s.L.length ≤ 65536 := h.at_.ok.size
  have hls : lenS t ≤ 1000000 := Nat.le_trans (lenS_le t) ht
  have HLS := hide hls
  have HN := hide (znone_any w h.at_.blk)
  have HW := hide (within_any w h.at_.blk (by omega))
  have c0 : w.cell? ⟨z.bp, 0, none⟩ = some (.int .i64 ((s.L.length + 1 : Nat) : Int)) := (h.at_.blk.cell 0).trans rfl
  obtain ⟨E, hE⟩ : ∃ E, E = fitE s.L t := ⟨_, rfl⟩
  have HE := hide hE
  have hpt1 : ((s.L.length + 1 : Nat) : Int) ≤ 65537 := by omega
  have HPUT := hide (fun (w' : World) (hb : Below w.heap.size w w') (h9 : fitE s.L t = 0) (hz : lenS t ≠ 0) => zput_some (h.at_.below hb) hR h.h0 t ht h9 hz htk)
  have HPU0 := hide (fun (w' : World) (hb : Below w.heap.size w w') (hz : lenS t = 0) => zput_none (h.at_.below hb) (hT.below (h.at_.below hb).bel) t ht hz)
  obtain ⟨pt, hpt⟩ : ∃ pt, pt = s.L.length + 1 := ⟨_, rfl⟩
  have HPT := hide hpt
  rw [← hpt] at HW c0 hpt1 HPUT
  clear h hR hT ht htk hsz hE hls hpt
  go_enter Tryz.func69, Tryz.ntmps69
  go_wp2_with fail
  refine Calls.mono HN.out ?_
  rintro e w' ⟨rfl, rfl⟩
  go_wp2_with fail
  refine Calls.mono HW.out ?_
  rintro e w1 ⟨caps1, rfl, k1, b1⟩
  have HK1 := hide k1
  have HB1 := hide b1
  clear k1 b1 HN HW c0
  go_wp2_with fail
  refine Calls.mono (gapopen_any w1 (H.out.below HB1.out).at_.blk (H.out.below HB1.out).at_.pr_ (pt : Int)) ?_
  rintro e w2 ⟨caps2, rfl, k2, b2⟩
  have HK2 := hide k2
  have HB2 := hide (HB1.out.trans (b2.mono HB1.out.size))
  have HK1b := hide (HK1.out.below b2)
  clear k2 b2
  go_wp2_with fail
  refine Calls.mono (fits_any w2 (H.out.below HB2.out).at_ (HT.out.below (H.out.below HB2.out).at_.bel) t HTS.out (((H.out.below HB2.out).at_.blk.cell 9).trans rfl)) ?_
  rintro e w3 ⟨caps3, rfl, k3, b3⟩
  rw [← HE.out] at k3
  have HB3 := hide (HB2.out.trans (b3.mono HB2.out.size))
  have HF := hide (first_any (w3.alloc (.cells #[.func (.func 166) #[] caps1, .func (.func 166) #[] caps2, .func (.func 142) #[] caps3] 138)) w3.heap.size _ _ _ _ _ _ E (Blk.new _ _ _) ((HK1b.out.below b3).below (below_box' w3 _)) ((HK2.out.below b3).below (below_box' w3 _)) (k3.below (below_box' w3 _)))
  have HB4 := hide (HB3.out.alloc HB3.out.size (.cells #[.func (.func 166) #[] caps1, .func (.func 166) #[] caps2, .func (.func 142) #[] caps3] 138))
  clear k3 b3
  go_wp2_with fail
  refine Calls.mono HF.out ?_
  rintro e w5 ⟨rfl, b5⟩
  have HB5 := hide (HB4.out.trans (b5.mono HB4.out.size))
  clear b5 HF
  by_cases hE0 : E = 0
  · have HF0 := hide (show fitE s.L t = 0 from HE.out.symm.trans hE0)
    have z1 : (E == 0) = true := by simp [hE0]
    have z2 : decide (E = 0) = true := by simp [hE0]
    clear hE0
    by_cases hz : lenS t = 0
    · have HZ := hide hz
      have HP0 := hide (HPU0.out w5 HB5.out hz (pt : Int))
      clear hz
      go_wp2_with fail
      refine Calls.mono HP0.out ?_
      rintro e w6 ⟨rfl, z6, hb6, ⟨_, rfl, h6⟩ | ⟨hn, _⟩⟩
      · have H6 := hide h6
        have HL := len_any t w6 (by have := HTS.out; omega) (HT.out.below h6.bel)
        rw [HZ.out] at HL
        have HL := hide HL
        clear h6 hb6
        go_wp2_with fail
        refine Calls.mono HL.out ?_
        rintro e w7 ⟨rfl, b7⟩
        have h7 := H6.out.below b7
        have c0 : w7.cell? ⟨z6.bp, 0, none⟩ = some (.int .i64 (pt : Int)) := (h7.blk.cell 0).trans (by rw [HPT.out]; rfl)
        have f0 := h7.blk.frozen 0
        have H8 := hide (h7.set_ 0 (.int .i64 (pt : Int)))
        clear h7 b7
        go_wp2_with fail
        go_ret
        refine ⟨by rw [← HE.out]; rfl, z6, rfl, ?_⟩
        rw [insB_same fun h => h.2 HZ.out]
        refine ⟨?_, H.out.h0⟩
        have h9 := H8.out
        rw [HPT.out] at h9
        rw [HPT.out]
        exact h9
      · exact absurd HZ.out hn
    · have HZ := hide hz
      have HP0 := hide (HPUT.out w5 HB5.out HF0.out hz)
      clear hz
      go_wp2_with fail
      refine Calls.mono HP0.out ?_
      rintro e w6 ⟨rfl, z6, hb6, ⟨hn, _⟩ | ⟨_, h6⟩⟩
      · exact absurd hn HZ.out
      · have H6 := hide h6
        obtain ⟨n, hn⟩ : ∃ n, n = lenS t := ⟨_, rfl⟩
        have HL := len_any t w6 (by have := HTS.out; omega) (HT.out.below h6.bel)
        rw [← hn] at HL
        have HL := hide HL
        have HN2 := hide hn
        have hn3 : (n : Int) ≤ 1000000 := by have := HLS.out; omega
        have HB6 := hide hb6
        rw [← hb6]
        clear h6 hb6 hn
        go_wp2_with fail
        refine Calls.mono HL.out ?_
        rintro e w7 ⟨rfl, b7⟩
        have h7 := H6.out.below b7
        have c0 : w7.cell? ⟨z6.bp, 0, none⟩ = some (.int .i64 (pt : Int)) := (h7.blk.cell 0).trans (by rw [HPT.out]; rfl)
        have f0 := h7.blk.frozen 0
        have H8 := hide (h7.set_ 0 (.int .i64 ((pt : Int) + (n : Int))))
        clear h7 b7
        go_wp2_with fail
        go_ret
        refine ⟨by rw [← HE.out]; rfl, z6, HB6.out, ?_⟩
        have hlen : (s.L ++ charsOf t).length + 1 = s.L.length + 1 + lenS t := by rw [List.length_append, ← lenS_eq]; omega
        unfold insB
        rw [if_pos ⟨HF0.out, HZ.out⟩]
        refine ⟨?_, fun h => absurd h (by show s.tick + 1 ≠ 0; omega)⟩
        show ZAt W _ z6 (s.L ++ charsOf t) (lgS (s.tick + 1) (s.L ++ charsOf t).length) (zC z6 ((s.L ++ charsOf t).length + 1) (s.tick + 1) (decide (s.tick + 1 = 0)) s.r) s.p s.q R
        unfold lgS
        rw [if_neg (by omega), hlen, decide_eq_false (by omega : ¬ s.tick + 1 = 0)]
        have h9 := H8.out
        rw [show (pt : Int) + (n : Int) = ((s.L.length + 1 + lenS t : Nat) : Int) by rw [HPT.out, HN2.out]; omega] at h9 ⊢
        exact h9
  · have HF0 := hide (show ¬ fitE s.L t = 0 from fun e => hE0 (HE.out.trans e))
    have z1 : (E == 0) = false := by simp [hE0]
    have z2 : decide (E = 0) = false := by simp [hE0]
    clear hE0
    go_wp2_with fail
    go_ret
    refine ⟨by rw [← HE.out]; rfl, z, rfl, ?_⟩
    rw [insB_same fun h => HF0.out h.1]
    exact H.out.below HB5.out
end
end Go.Proofs.YtnbhejbpofjamaaGreatDoor
namespace Go.Proofs.YtnbhejbpofjamaaGreatDoor
open Go.RowKit

section
variable {W w w' : World} {L : Heap}
theorem make_marks' (w : World) : (Instr.makeMap 167 none).run Tryz.prog w = .ok (.map (some w.heap.size)) (w.alloc (.map #[] 0)) := by kernel_rfl
theorem marks_own (h : Own W w L) : Calls Tryz.prog 96 #[] w fun e w' => ∃ mk mm : Nat, e = .returned (.pointer (some ⟨mk, 0, none⟩)) ∧ Own W w' ((mk, .cells 172 #[.map (some mm), .int .i64 0]) :: (mm, .map []) :: L) := by
  have hf := make_marks'
  have h2 := (h.newMap).newCells 172 #[.map (some w.heap.size), .int .i64 0]
  rw [World.size_alloc] at h2
  have H := hide h2
  clear h h2
  go_enter Tryz.func96, Tryz.ntmps96
  go_wp2
  go_ret
  exact ⟨_, _, rfl, H.out⟩
theorem props_own (h : Own W w L) : Calls Tryz.prog 97 #[] w fun e w' => ∃ pr : Nat, e = .returned (.pointer (some ⟨pr, 0, none⟩)) ∧ Own W w' ((pr, .cells 181 prC) :: L) := by
  have H := hide (h.newCells 181 prC)
  clear h
  go_enter Tryz.func97, Tryz.ntmps97
  go_wp2
  go_ret
  exact ⟨_, rfl, H.out⟩
theorem overs_own (h : Own W w L) (p q : Int) : Calls Tryz.prog 98 #[.int .i64 p, .int .i64 q] w fun e w' => ∃ ov : Nat, e = .returned (.pointer (some ⟨ov, 0, none⟩)) ∧ Own W w' ((ov, .cells 184 (ovC p q)) :: L) := by
  have H := hide (h.newCells 184 (ovC p q))
  clear h
  go_enter Tryz.func98, Tryz.ntmps98
  go_wp2
  go_ret
  exact ⟨_, rfl, H.out⟩
theorem ins_nothing : insErr [] 1 ⟨#[]⟩ = 0 ∧ insL [] 1 ⟨#[]⟩ = [] := by
  constructor <;> rfl
theorem newperm (a b c d e : Nat × Ast) (LB G : Heap) : (a :: b :: c :: d :: e :: (LB ++ G)).Perm (LB ++ (a :: ([d, e, c, b] ++ G))) := by
  classical
  rw [List.perm_iff_count]
  intro x
  simp only [List.count_append, List.count_cons, List.count_nil]
  omega
/-- What New leaves. -/
def NewB (W : World) (p q r : Int) (R : Heap) (e : Ending) (w' : World) : Prop := ∃ z : Zb, e = .returned (.pointer (some ⟨z.bp, 0, none⟩)) ∧ BufAt W w' z ⟨[], 0, p, q, r⟩ R
set_option maxRecDepth 100000 in
set_option maxHeartbeats 4000000 in
theorem buffer_own (h : Own W w L) (hT : Tabs W) (p q r : Int) : Calls Tryz.prog 68 #[.int .i64 p, .int .i64 q, .int .i64 r] w (NewB W p q r L) := by
  have HG := hide (new_any h hT ⟨#[]⟩ (by show (0 : Nat) < _; omega))
  clear h hT
  go_enter Tryz.func68, Tryz.ntmps68
  go_wp2_with fail
  refine Calls.mono HG.out ?_
  rintro e w1 (⟨h9, _⟩ | ⟨_, tb, rfl, h1⟩)
  · exact absurd h9 (by decide)
  · rw [ins_nothing.2] at h1
    obtain ⟨gb, rfl, h1⟩ := h1
    have HT1 := hide h1
    clear h1
    go_wp2_with fail
    refine Calls.mono (new_ok HT1.out.gap.own 1048576 (by decide) (by decide)) ?_
    rintro e w2 ⟨rfl, h2⟩
    obtain ⟨lb, hlb⟩ : ∃ lb : Nat, lb = w1.heap.size := ⟨_, rfl⟩
    rw [← hlb] at h2 ⊢
    have H2 := hide h2
    clear h2 hlb
    go_wp2_with fail
    refine Calls.mono (marks_own H2.out.own) ?_
    rintro e w3 ⟨mk, mm, rfl, h3⟩
    have H3 := hide h3
    clear h3
    go_wp2_with fail
    refine Calls.mono (props_own H3.out) ?_
    rintro e w4 ⟨pr, rfl, h4⟩
    have H4 := hide h4
    clear h4
    go_wp2_with fail
    refine Calls.mono (overs_own H4.out p q) ?_
    rintro e w5 ⟨ov, rfl, h5⟩
    have H5 := hide h5
    have H6 := hide (h5.newCells 104 (bzC 1 0 true r gb.tb mk pr ov lb))
    clear h5
    go_wp2_with fail
    go_ret
    refine ⟨⟨w5.heap.size, gb, mk, mm, pr, ov, ⟨lb, .slice none 0 0, .slice none 0 0, []⟩⟩, rfl, ⟨⟨⟨?_, H2.out.grp, H2.out.okG, H2.out.okO, H2.out.okg⟩, HT1.out.gap.okf, HT1.out.ok⟩, fun _ => rfl⟩⟩
    refine H6.out.perm ?_
    exact newperm _ _ _ _ _ _ _
end
section
variable {W w w' : World} {z : Zb} {s : Bz} {R : Heap}
theorem binsert_any (h : BufAt W w z s R) (hR : Rules W) (t : ByteArray) (ht : t.size ≤ 1000000) (htk : s.tick ≤ 1000000) :
    Calls Tryz.prog 43 #[.pointer (some ⟨z.bp, 0, none⟩), .string t] w (InsB W z s t R) := by
  have H := hide (zinsert_any h hR t ht htk)
  clear h hR ht htk
  go_enter Tryz.func43, Tryz.ntmps43
  go_wp2_with fail
  refine Calls.mono H.out ?_
  rintro e w1 ⟨rfl, h1⟩
  have H1 := hide h1
  clear h1
  go_wp2_with fail
  go_ret
  exact ⟨rfl, H1.out⟩
end
end Go.Proofs.YtnbhejbpofjamaaGreatDoor
