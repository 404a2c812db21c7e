/- The reference's move forward. No condition but those written. -/
import Derived.Test.YtdojcgefiekleaaDoorSec
import Derived.Test.YtdojcgefiekleaaDoorDraw
namespace Go.Proofs.YtdojcgefiekleaaDoor
open Go.RowKit

section
variable {T : Tb} {L : List Nat} {n i d : Nat}
theorem rF_more (hT : T.Ok) (h0 : i ≤ L.length) (h1 : 2 * (L.length - i) < n) (e : (rF T L n d i).2.1 = 0) : i < (rF T L n d i).1 ∧ (rF T L n d i).1 ≤ L.length := by
  cases n with
  | zero => omega
  | succ n =>
  have hg := gapA_le (T := T) (L := L) h0
  have hs := gapA_spec (T := T) (L := L) h0
  rw [rF_eq] at e ⊢
  obtain ⟨j, hj⟩ : ∃ j, gapA T L i = j := ⟨_, rfl⟩
  rw [hj] at hg hs e ⊢
  by_cases ej : j = L.length
  · rw [if_pos ej] at e
    simp at e
  · have hl : j < L.length := by omega
    have hs := hs hl
    rw [if_neg ej] at e ⊢
    by_cases h5 : T.at_ L j = 5
    · rw [if_pos h5] at e
      simp at e
    · rw [if_neg h5] at e ⊢
      by_cases h6 : T.at_ L j = 6
      · rw [if_pos h6] at e ⊢
        cases hq : quoA T L j with
        | none => rw [hq] at e; simp at e
        | some q =>
          have hq' := hq
          rw [quoA_eq] at hq'
          have := quoF_le hq'
          simp only []
          omega
      · rw [if_neg h6] at e ⊢
        by_cases h4 : T.at_ L j = 4
        · rw [if_pos h4] at e ⊢
          by_cases h200 : 200 ≤ d
          · rw [if_pos h200] at e
            simp at e
          · rw [if_neg h200] at e ⊢
            have := (rL_fwd (L := L) hT n (N := L.length + 1) (M := L.length + 1) (d := d) (o := j) (i := j + 1) (rest := List.replicate d 0) (by simp) (by omega) (by omega) (by omega) (by omega)).2 e
            omega
        · rw [if_neg h4]
          have h7 := name_more hT hl hs.1 hs.2 h4 h5 h6
          have h8 := nameA_le (T := T) (L := L) (i := j) (by omega)
          simp only []
          omega
end
/-- A list, its brackets counted. -/
def lR (T : Tb) (L : List Nat) (n d o : Nat) : Ans := if 200 ≤ d then (0, 12, (o : Int)) else rL T L n d o (o + 1)
def FwdOk (r : Nat) (T : Tb) (v : Value) (L : List Nat) (n : Nat) : Prop := ∀ (w : World) (d i : Nat), RSc w r T v L → i ≤ L.length → 2 * (L.length - i) < n → d ≤ 200 → Calls Tryd.prog 65 #[.pointer (some ⟨r, 0, none⟩), v, .int .i64 (i : Int), .int .i64 (d : Int)] w fun e w' => e = .returned (ansV (rF T L n d i)) ∧ Below w.heap.size w w'
def ListOk (r : Nat) (T : Tb) (v : Value) (L : List Nat) (n : Nat) : Prop := ∀ (w : World) (d i : Nat), RSc w r T v L → i < L.length → 2 * (L.length - (i + 1)) + 1 < n → d ≤ 200 → Calls Tryd.prog 82 #[.pointer (some ⟨r, 0, none⟩), v, .int .i64 (i : Int), .int .i64 (d : Int)] w fun e w' => e = .returned (ansV (lR T L n d i)) ∧ Below w.heap.size w w'
section
variable {r : Nat} {T : Tb} {v : Value} {L : List Nat} {N : Nat}
set_option maxRecDepth 100000 in
set_option maxHeartbeats 8000000 in
theorem fwd_of (hL : ∀ k, k < N → ListOk r T v L k) : FwdOk r T v L N := by
  intro w d i h hi hm hd
  cases N with
  | zero => omega
  | succ m =>
    obtain ⟨A, c, rfl⟩ := h.form
    have hlen := h.len
    obtain ⟨n, hn⟩ : ∃ n, n = L.length := ⟨_, rfl⟩
    have HN := hide hn
    have hb0 := below_box w (.cells #[.int .i64 0, .int .i64 0] 40)
    have HB0 := hide hb0
    have HRB := hide (Blk.new w 40 #[.int .i64 0, .int .i64 0])
    have HS := hide (h.below hb0)
    have HSL := HS
    rw [← hn] at HS hlen ⊢
    obtain ⟨w1, hw1⟩ : ∃ y : World, y = w.alloc (.cells #[.int .i64 0, .int .i64 0] 40) := ⟨_, rfl⟩
    have HW1 := hide hw1
    rw [← hw1] at HS HSL HRB HB0
    clear hb0 hw1
    have hi9 : i ≤ n := by omega
    have hn9 : (n : Int) ≤ 1000000 := by omega
    have hd9 : (d : Int) ≤ 200 := by omega
    have hg := gapA_le (T := T) (L := L) hi
    obtain ⟨j, hj⟩ : ∃ j, j = gapA T L i := ⟨_, rfl⟩
    have HPA := hide (rpass_any HS.out hi)
    have HEQ := hide (rF_eq (T := T) (L := L) (n := m) (d := d) (i := i))
    rw [← hj] at HPA HEQ hg
    rw [← hn] at HEQ hg
    have HQ0 := hide (fun (y : World) (hb : Below w1.heap.size w1 y) (hq : j < L.length) => rquoted_any (HS.out.below hb) hq)
    have HW0 := hide (fun (y : World) (hb : Below w1.heap.size w1 y) (hq : j ≤ L.length) => rword_scan (HS.out.below hb) hq)
    have HL0 := hide (fun (y : World) (hb : Below w1.heap.size w1 y) (hq : j < n) => hL m (Nat.lt_succ_self m) y d j (HSL.out.below hb) (by omega) (by omega) hd)
    rw [← hn] at HL0
    clear HSL
    clear h hn hi hm hd hL hlen
    have hj9 : (j : Int) ≤ (n : Int) := by omega
    by_cases hjn : j = n
    · have HE := hide (show rF T L (m + 1) d i = (0, 13, (j : Int)) by rw [HEQ.out, if_pos hjn])
      have q1 : decide (j = n) = true := by simpa using hjn
      have q2 : ((j : Int) == (n : Int)) = true := by simp; omega
      have HJN := hide hjn
      clear hj hg hjn
      go_enter Tryd.func65, Tryd.ntmps65
      go_wp2_with (rw [← HW1.out]; (go_at_call 80; (with_reducible refine Calls.mono HPA.out ?_); rintro e w2 ⟨rfl, b2⟩; have HB2 := hide b2; have HRK := hide (HRB.out.below b2 HRB.out.lt); have t0 := HRK.out.cell 0; have t1 := HRK.out.cell 1; have t2 := HRK.out.frozen 0; have t3 := HRK.out.frozen 1; clear b2))
      refine bodyPost_ret (results_tmp_cell rfl _ _ w.heap.size 40 #[.int .i64 (13), .int .i64 ((j : Int))] (0, 0) _ rfl ((HRK.out.set_ 0 _).set_ 1 _) Tryd.underlying40 rfl (by kernel_rfl)) rfl ?_
      exact ⟨by rw [HE.out]; rfl, ((HB0.out.trans (HB2.out.mono HB0.out.size)).setCell (p := ⟨w.heap.size, 0, none⟩) (Nat.le_refl _) _).setCell (p := ⟨w.heap.size, 1, none⟩) (Nat.le_refl _) _⟩
    have hjl : j < L.length := by have := HN.out; omega
    have HQ := hide (fun (y : World) (hb : Below w1.heap.size w1 y) => HQ0.out y hb hjl)
    have HWD := hide (fun (y : World) (hb : Below w1.heap.size w1 y) => HW0.out y hb (Nat.le_of_lt hjl))
    have HLI := hide (fun (y : World) (hb : Below w1.heap.size w1 y) => HL0.out y hb (by omega))
    have q1 : decide (j = n) = false := by simpa using hjn
    have q2 : ((j : Int) == (n : Int)) = false := by simp; omega
    have x1 : decide (j < n) = true := by simp; omega
    have x2 : decide ((j : Int) < (n : Int)) = true := by simp; omega
    have x3 : (j : Int) < (n : Int) := by omega
    have HLK := hide (fun (y : World) (hb : Below w1.heap.size w1 y) => (HS.out.below hb).look hjl)
    have HJN := hide hjn
    clear hj hg hjl HQ0 HW0 HL0 hjn
    go_enter Tryd.func65, Tryd.ntmps65
    go_upto_region 2 with (rw [← HW1.out]; (go_at_call 80; (with_reducible refine Calls.mono HPA.out ?_); rintro e w2 ⟨rfl, b2⟩; have HB2 := hide b2; clear b2))
    obtain ⟨g, off, ch, kj, rfl, d0, hk, hc, HC⟩ := HLK.out w2 HB2.out
    by_cases h5 : kj = 5
    · have HE := hide (show rF T L (m + 1) d i = (0, 5, (j : Int)) by rw [HEQ.out, if_neg HJN.out, if_pos (by rw [← hk.out]; exact h5)])
      subst h5
      clear hk hc
      go_wp2_with (go_at_call 35; (with_reducible refine Calls.mono (HC.out _ (Below.refl _ _)) ?_); rintro e w3 ⟨rfl, b3⟩; have HK := hide (HB2.out.trans (b3.mono HB2.out.size)); have HRK := hide (HRB.out.below HK.out HRB.out.lt); have t0 := HRK.out.cell 0; have t1 := HRK.out.cell 1; have t2 := HRK.out.frozen 0; have t3 := HRK.out.frozen 1; clear b3)
      refine bodyPost_ret (results_tmp_cell rfl _ _ w.heap.size 40 #[.int .i64 (5), .int .i64 ((j : Int))] (0, 0) _ rfl ((HRK.out.set_ 0 _).set_ 1 _) Tryd.underlying40 rfl (by kernel_rfl)) rfl ?_
      exact ⟨by rw [HE.out]; rfl, ((HB0.out.trans (HK.out.mono HB0.out.size)).setCell (p := ⟨w.heap.size, 0, none⟩) (Nat.le_refl _) _).setCell (p := ⟨w.heap.size, 1, none⟩) (Nat.le_refl _) _⟩
    by_cases h6 : kj = 6
    · cases hq : quoA T L j with
      | none =>
        have HE := hide (show rF T L (m + 1) d i = (0, 13, (j : Int)) by rw [HEQ.out, if_neg HJN.out, if_neg (by rw [← hk.out]; exact h5), if_pos (by rw [← hk.out]; exact h6), hq])
        rw [hq, show quoR none = .tuple #[.int .i64 0, .bool false] from rfl] at HQ
        subst h6
        clear hk hc hq h5
        go_wp2_with (first | (go_at_call 35; (with_reducible refine Calls.mono (HC.out _ (Below.refl _ _)) ?_); rintro e w3 ⟨rfl, b3⟩; have HK := hide (HB2.out.trans (b3.mono HB2.out.size)); have HRK := hide (HRB.out.below HK.out HRB.out.lt); have t0 := HRK.out.cell 0; have t1 := HRK.out.cell 1; have t2 := HRK.out.frozen 0; have t3 := HRK.out.frozen 1; clear b3) | (go_at_call 81; (with_reducible refine Calls.mono (HQ.out _ HK.out) ?_); rintro e w4 ⟨rfl, b4⟩; have HM := hide (HK.out.trans (b4.mono HK.out.size)); have HRM := hide (HRB.out.below HM.out HRB.out.lt); have u0 := HRM.out.cell 0; have u1 := HRM.out.cell 1; have u2 := HRM.out.frozen 0; have u3 := HRM.out.frozen 1; clear b4))
        refine bodyPost_ret (results_tmp_cell rfl _ _ w.heap.size 40 #[.int .i64 (13), .int .i64 ((j : Int))] (0, 0) _ rfl ((HRM.out.set_ 0 _).set_ 1 _) Tryd.underlying40 rfl (by kernel_rfl)) rfl ?_
        exact ⟨by rw [HE.out]; rfl, ((HB0.out.trans (HM.out.mono HB0.out.size)).setCell (p := ⟨w.heap.size, 0, none⟩) (Nat.le_refl _) _).setCell (p := ⟨w.heap.size, 1, none⟩) (Nat.le_refl _) _⟩
      | some x =>
        have HE := hide (show rF T L (m + 1) d i = (x, 0, 0) by rw [HEQ.out, if_neg HJN.out, if_neg (by rw [← hk.out]; exact h5), if_pos (by rw [← hk.out]; exact h6), hq])
        rw [hq, show quoR (some x) = .tuple #[.int .i64 (x : Int), .bool true] from rfl] at HQ
        subst h6
        clear hk hc hq h5
        go_wp2_with (first | (go_at_call 35; (with_reducible refine Calls.mono (HC.out _ (Below.refl _ _)) ?_); rintro e w3 ⟨rfl, b3⟩; have HK := hide (HB2.out.trans (b3.mono HB2.out.size)); have HRK := hide (HRB.out.below HK.out HRB.out.lt); have t0 := HRK.out.cell 0; have t1 := HRK.out.cell 1; have t2 := HRK.out.frozen 0; have t3 := HRK.out.frozen 1; clear b3) | (go_at_call 81; (with_reducible refine Calls.mono (HQ.out _ HK.out) ?_); rintro e w4 ⟨rfl, b4⟩; have HM := hide (HK.out.trans (b4.mono HK.out.size)); have HRM := hide (HRB.out.below HM.out HRB.out.lt); have u0 := HRM.out.cell 0; have u1 := HRM.out.cell 1; have u2 := HRM.out.frozen 0; have u3 := HRM.out.frozen 1; clear b4))
        refine bodyPost_ret (results_tmp_cell rfl _ _ w.heap.size 40 #[.int .i64 (0), .int .i64 (0)] (0, 0) _ rfl ((HRM.out.set_ 0 _).set_ 1 _) Tryd.underlying40 rfl (by kernel_rfl)) rfl ?_
        exact ⟨by rw [HE.out]; rfl, ((HB0.out.trans (HM.out.mono HB0.out.size)).setCell (p := ⟨w.heap.size, 0, none⟩) (Nat.le_refl _) _).setCell (p := ⟨w.heap.size, 1, none⟩) (Nat.le_refl _) _⟩
    have g5 : (kj == 5) = false := by simpa using h5
    have g6 : (kj == 6) = false := by simpa using h6
    by_cases h4 : kj = 4
    · obtain ⟨⟨x1', x2', x3'⟩, hX⟩ : ∃ X : Ans, X = lR T L m d j := ⟨_, rfl⟩
      have HE := hide (show rF T L (m + 1) d i = (x1', x2', x3') by
        rw [HEQ.out, if_neg HJN.out, if_neg (by rw [← hk.out]; exact h5), if_neg (by rw [← hk.out]; exact h6), if_pos (by rw [← hk.out]; exact h4), hX]
        rfl)
      rw [← hX, show ansV (x1', x2', x3') = .tuple #[.int .i64 (x1' : Int), .agg #[.int .i64 x2', .int .i64 x3']] from rfl] at HLI
      subst h4
      clear hk hc h5 h6 hX g5 g6
      go_wp2_with (first | (go_at_call 35; (with_reducible refine Calls.mono (HC.out _ (Below.refl _ _)) ?_); rintro e w3 ⟨rfl, b3⟩; have HK := hide (HB2.out.trans (b3.mono HB2.out.size)); have HRK := hide (HRB.out.below HK.out HRB.out.lt); have t0 := HRK.out.cell 0; have t1 := HRK.out.cell 1; have t2 := HRK.out.frozen 0; have t3 := HRK.out.frozen 1; clear b3) | (go_at_call 82; (with_reducible refine Calls.mono (HLI.out _ HK.out) ?_); rintro e w4 ⟨rfl, b4⟩; have HM := hide (HK.out.trans (b4.mono HK.out.size)); have HRM := hide (HRB.out.below HM.out HRB.out.lt); have u0 := HRM.out.cell 0; have u1 := HRM.out.cell 1; have u2 := HRM.out.frozen 0; have u3 := HRM.out.frozen 1; clear b4))
      refine bodyPost_ret (results_tmp_cell rfl _ _ w.heap.size 40 #[.int .i64 (x2'), .int .i64 (x3')] (0, 0) _ rfl ((HRM.out.set_ 0 _).set_ 1 _) Tryd.underlying40 rfl (by kernel_rfl)) rfl ?_
      exact ⟨by rw [HE.out]; rfl, ((HB0.out.trans (HM.out.mono HB0.out.size)).setCell (p := ⟨w.heap.size, 0, none⟩) (Nat.le_refl _) _).setCell (p := ⟨w.heap.size, 1, none⟩) (Nat.le_refl _) _⟩
    have g4 : (kj == 4) = false := by simpa using h4
    have HE := hide (show rF T L (m + 1) d i = (nameA T L j, 0, 0) by rw [HEQ.out, if_neg HJN.out, if_neg (by rw [← hk.out]; exact h5), if_neg (by rw [← hk.out]; exact h6), if_neg (by rw [← hk.out]; exact h4)])
    clear hk hc h5 h6 h4
    go_wp2_with (first | (go_at_call 35; (with_reducible refine Calls.mono (HC.out _ (Below.refl _ _)) ?_); rintro e w3 ⟨rfl, b3⟩; have HK := hide (HB2.out.trans (b3.mono HB2.out.size)); have HRK := hide (HRB.out.below HK.out HRB.out.lt); have t0 := HRK.out.cell 0; have t1 := HRK.out.cell 1; have t2 := HRK.out.frozen 0; have t3 := HRK.out.frozen 1; clear b3) | (go_at_call 83; (with_reducible refine Calls.mono (HWD.out _ HK.out) ?_); rintro e w4 ⟨rfl, b4⟩; have HM := hide (HK.out.trans (b4.mono HK.out.size)); have HRM := hide (HRB.out.below HM.out HRB.out.lt); have u0 := HRM.out.cell 0; have u1 := HRM.out.cell 1; have u2 := HRM.out.frozen 0; have u3 := HRM.out.frozen 1; clear b4))
    refine bodyPost_ret (results_tmp_cell rfl _ _ w.heap.size 40 #[.int .i64 (0), .int .i64 (0)] (0, 0) _ rfl ((HRM.out.set_ 0 _).set_ 1 _) Tryd.underlying40 rfl (by kernel_rfl)) rfl ?_
    exact ⟨by rw [HE.out]; rfl, ((HB0.out.trans (HM.out.mono HB0.out.size)).setCell (p := ⟨w.heap.size, 0, none⟩) (Nat.le_refl _) _).setCell (p := ⟨w.heap.size, 1, none⟩) (Nat.le_refl _) _⟩
set_option maxRecDepth 100000 in
set_option maxHeartbeats 16000000 in
theorem list_of (hT : T.Ok) (hF : ∀ k, k < N → FwdOk r T v L k) : ListOk r T v L N := by
  intro w d o h ho hm hd
  obtain ⟨A, c, rfl⟩ := h.form
  have hlen := h.len
  obtain ⟨n, hn⟩ : ∃ n, n = L.length := ⟨_, rfl⟩
  have HN := hide hn
  have hb0 := below_box w (.cells #[.int .i64 0, .int .i64 0] 40)
  have HB0 := hide hb0
  have HRB := hide (Blk.new w 40 #[.int .i64 0, .int .i64 0])
  have HS := hide (h.below hb0)
  have HSL := HS
  rw [← hn] at HS hlen ⊢
  obtain ⟨w1, hw1⟩ : ∃ y : World, y = w.alloc (.cells #[.int .i64 0, .int .i64 0] 40) := ⟨_, rfl⟩
  have HW1 := hide hw1
  rw [← hw1] at HS HSL HRB HB0
  clear hb0 hw1
  have ho9 : o < n := by omega
  have hn9 : (n : Int) ≤ 1000000 := by omega
  have hd9 : (d : Int) ≤ 200 := by omega
  have ho8 : (o : Int) ≤ 1000000 := by omega
  by_cases h200 : 200 ≤ d
  · have HE := hide (show lR T L N d o = (0, 12, (o : Int)) from if_pos h200)
    have z0 : decide ((200 : Int) ≤ (d : Int)) = true := by simp; omega
    have z1 : (200 : Int) ≤ (d : Int) := by omega
    clear h hn ho hm hd hF hlen h200 HS HSL HRB HB0 HW1
    go_enter Tryd.func82, Tryd.ntmps82
    go_wp2_with fail
    refine bodyPost_ret (results_tmp_cell rfl _ _ w.heap.size 40 #[.int .i64 12, .int .i64 (o : Int)] (0, 0) _ rfl (Blk.new w _ _) Tryd.underlying40 rfl (by kernel_rfl)) rfl ?_
    exact ⟨by rw [HE.out]; rfl, below_box w _⟩
  have HD := hide (show ¬ 200 ≤ d from h200)
  have HE0 := hide (show lR T L N d o = rL T L N d o (o + 1) from if_neg h200)
  have z0 : decide ((200 : Int) ≤ (d : Int)) = false := by simp; omega
  have z1 : ¬ (200 : Int) ≤ (d : Int) := by omega
  have wo : IntKind.i64.wrap ((o : Int) + 1) = ((o + 1 : Nat) : Int) := by rw [IntWalk.i64_in _ (by omega)]; omega
  have wd : IntKind.i64.wrap ((d : Int) + 1) = ((d + 1 : Nat) : Int) := by rw [IntWalk.i64_in _ (by omega)]; omega
  have x4 : decide (o < n) = true := by simpa using ho9
  have x5 : decide ((o : Int) < (n : Int)) = true := by simp; omega
  have x6 : (o : Int) < (n : Int) := by omega
  obtain ⟨g, off, co, ko, rfl, _, _, hco, _⟩ := HS.out.look ho
  have HO := hide ho
  have HFW := hide (fun (k : Nat) (hk : k < N) (y : World) (hb : Below w1.heap.size w1 y) (p : Nat) (hp : p ≤ L.length) (hq : 2 * (L.length - p) < k) => hF k hk y (d + 1) p (HSL.out.below hb) hp hq (by omega))
  rw [← hn] at HFW
  clear HSL
  have HPA := hide (fun (y : World) (hb : Below w1.heap.size w1 y) (p : Nat) (hp : p ≤ L.length) => rpass_any (HS.out.below hb) hp)
  have HMA := hide (fun (y : World) (hb : Below w1.heap.size w1 y) => rMate_any (HS.out.below hb).tab co)
  have HCE := hide (fun (y : World) (hb : Below w1.heap.size w1 y) (p : Nat) (hp : p < L.length) => (HS.out.below hb).cell hp)
  have HMM := hide hm
  clear h hn ho hm hd hF hlen h200
  go_enter Tryd.func82, Tryd.ntmps82
  go_wp2_with fail
  rw [← HW1.out]
  go_loopw [10] (fun t wr => ∃ (i m : Nat), t = .int .i64 (i : Int) ∧ o < i ∧ i ≤ n ∧ 2 * (n - i) + 1 < m ∧ m ≤ N ∧ rL T L m d o i = rL T L N d o (o + 1) ∧ Below w1.heap.size w1 wr) (fun t _ => n + 1 - (intOf t).toNat)
  case atStart => exact ⟨o + 1, N, rfl, Nat.lt_succ_self o, by have := HO.out; have := HN.out; omega, by have := HMM.out; have := HN.out; omega, Nat.le_refl _, rfl, Below.refl _ _⟩
  case round =>
    obtain ⟨i, m, rfl, hi1, hi2, hm1, hm2, he, hb⟩ := hrel
    obtain ⟨m, rfl⟩ : ∃ k, m = k + 1 := ⟨m - 1, by omega⟩
    have hiL : i ≤ L.length := by have := HN.out; omega
    have hg := gapA_le (T := T) (L := L) hiL
    have hgg := gapA_gap (T := T) (L := L) hiL
    obtain ⟨j, hj⟩ : ∃ j, j = gapA T L i := ⟨_, rfl⟩
    have HP := hide (HPA.out wr hb i hiL)
    have HEQ := hide (rL_eq (T := T) (L := L) (n := m) (d := d) (o := o) (i := i))
    rw [← hj] at HP HEQ hg
    rw [← HN.out] at HEQ hg
    have HI := hide (show i ≤ j from hg.1)
    have HJ := hide (show j ≤ n from hg.2)
    have HM1 := hide hm1
    have HM2 := hide hm2
    have HB := hide hb
    have HE := hide (show lR T L N d o = rL T L (m + 1) d o i by rw [HE0.out, he])
    have hj9 : (j : Int) ≤ (n : Int) := by omega
    have HI1 := hide hi1
    clear hi1 hi2 hm1 hm2 he hb hiL hg hgg hj
    by_cases hjn : j = n
    · have HE := hide (show lR T L N d o = (0, 13, (o : Int)) by rw [HE.out, HEQ.out, if_pos hjn])
      have q1 : decide (j = n) = true := by simpa using hjn
      have q2 : ((j : Int) == (n : Int)) = true := by simp; omega
      have HJN := hide hjn
      clear hjn
      go_wp2_with (go_at_call 80; (with_reducible refine Calls.mono HP.out ?_); rintro e w2 ⟨rfl, b2⟩; have HB2 := hide (HB.out.trans (b2.mono HB.out.size)); have HRK := hide (HRB.out.below HB2.out HRB.out.lt); have t0 := HRK.out.cell 0; have t1 := HRK.out.cell 1; have t2 := HRK.out.frozen 0; have t3 := HRK.out.frozen 1; clear b2)
      refine bodyPost_ret (results_tmp_cell rfl _ _ w.heap.size 40 #[.int .i64 (13), .int .i64 ((o : Int))] (0, 0) _ rfl ((HRK.out.set_ 0 _).set_ 1 _) Tryd.underlying40 rfl (by kernel_rfl)) rfl ?_
      exact ⟨by rw [HE.out]; rfl, ((HB0.out.trans (HB2.out.mono HB0.out.size)).setCell (p := ⟨w.heap.size, 0, none⟩) (Nat.le_refl _) _).setCell (p := ⟨w.heap.size, 1, none⟩) (Nat.le_refl _) _⟩
    · have hjl : j < L.length := by have := HN.out; omega
      have q1 : decide (j = n) = false := by simpa using hjn
      have q2 : ((j : Int) == (n : Int)) = false := by simp; omega
      have x1 : decide (j < n) = true := by simp; omega
      have x2 : decide ((j : Int) < (n : Int)) = true := by simp; omega
      have x3 : (j : Int) < (n : Int) := by omega
      have HJN := hide hjn
      have HJL := hide hjl
      clear hjn
      go_upto_region 7 with (go_at_call 80; (with_reducible refine Calls.mono HP.out ?_); rintro e w2 ⟨rfl, b2⟩; have HB5 := hide (HB.out.trans (b2.mono HB.out.size)); clear b2)
      obtain ⟨w5, hw5⟩ : ∃ y : World, y = w2 := ⟨_, rfl⟩
      rw [← hw5] at HB5 ⊢
      clear hw5
      obtain ⟨g', off', ch, kj, e, d0, hk, hc, HCL⟩ := (HS.out.below HB5.out).look HJL.out
      injection e with e
      injection e with e1 e2
      subst e1 e2
      have d1 : w5.cell? ⟨g, off + o, none⟩ = some (.int .i64 co) := by
        obtain ⟨g', off', e, hc⟩ := HCE.out w5 HB5.out o HO.out
        injection e with e
        injection e with e1 e2
        subst e1 e2
        rw [hco.out]
        exact hc
      have HD0 := hide d0
      have HD1 := hide d1
      have HMT := hide (fun (y : World) (hb : Below w5.heap.size w5 y) => HMA.out y (HB5.out.trans (hb.mono HB5.out.size)))
      obtain ⟨mo, hmo⟩ : ∃ z, z = T.mate co := ⟨_, rfl⟩
      rw [← hmo] at HMT
      have HMO := hide hmo
      clear hmo hjl
      have hclose : (T.at_ L j = 5 ∧ ((L.getD j 0 : Nat) : Int) = T.mate ((L.getD o 0 : Nat) : Int)) ↔ (kj = 5 ∧ ch = mo) := by
        rw [hk.out, hc.out, HMO.out, hco.out]
      have HCLO := hide hclose
      clear hclose
      by_cases h5 : kj = 5
      · by_cases hmt : ch = mo
        · have HE := hide (show lR T L N d o = (j + 1, 0, 0) by rw [HE.out, HEQ.out, if_neg HJN.out, if_pos (HCLO.out.2 ⟨h5, hmt⟩)])
          have e1 : (ch == mo) = true := by simpa using hmt
          have wj : IntKind.i64.wrap ((j : Int) + 1) = ((j + 1 : Nat) : Int) := by rw [IntWalk.i64_in _ (by omega)]; omega
          have HCO := hide hmt
          subst h5
          clear hmt hk hc
          have HB2 := hide ((Below.refl w5.heap.size w5).drew)
          refine wp_region_d (S := fun y => (y.cell? ⟨g, off + j, none⟩ = some (.int .i64 ch) ∧ y.cell? ⟨g, off + o, none⟩ = some (.int .i64 co))) (D := []) (by kernel_rfl) ?_
          change wpAnyD _ _ _ _ _ _ _ _ _ w5.drew
          obtain ⟨w6, hw6⟩ : ∃ y : World, y = w5.drew := ⟨_, rfl⟩
          rw [← hw6] at HB2 ⊢
          clear hw6
          have HKS := hide (fun (y : World) (hb : Below w5.heap.size w5 y) => (show (y.cell? ⟨g, off + j, none⟩ = some (.int .i64 ch) ∧ y.cell? ⟨g, off + o, none⟩ = some (.int .i64 co)) from ⟨cell_keep HD0.out hb, cell_keep HD1.out hb⟩))
          have hS := HKS.out w6 HB2.out
          clear d0 d1
          refine wpAnyD_takeW (i := 0) (oi := { dst := some 31, op := Op.move (Operand.tmp 0), type := 29, pos := "ref.go:294", after := #[], guard := none }) (v := ?_) rfl (by kernel_rfl) (by kernel_rfl) (by kernel_rfl) (fun _ _ _ h => h) (Or.inl ⟨by rfl, ?_⟩) ?_
          rotate_left
          · intro w hSw
            clear hSw
            go_simp
            all_goals with_reducible rfl
          simp only [Act.put, List.setIfInBounds_toArray, List.set_cons_zero, List.set_cons_succ]
          refine wpAnyD_takeW (i := 1) (oi := { dst := some 32, op := Op.move (Operand.tmp 1), type := 24, pos := "ref.go:294", after := #[], guard := none }) (v := ?_) rfl (by kernel_rfl) (by kernel_rfl) (by kernel_rfl) (fun _ _ _ h => h) (Or.inl ⟨by rfl, ?_⟩) ?_
          rotate_left
          · intro w hSw
            clear hSw
            go_simp
            all_goals with_reducible rfl
          simp only [Act.put, List.setIfInBounds_toArray, List.set_cons_zero, List.set_cons_succ]
          refine wpAnyD_takeW (i := 2) (oi := { dst := some 33, op := Op.move (Operand.tmp 10), type := 3, pos := "ref.go:294", after := #[], guard := none }) (v := ?_) rfl (by kernel_rfl) (by kernel_rfl) (by kernel_rfl) (fun _ _ _ h => h) (Or.inl ⟨by rfl, ?_⟩) ?_
          rotate_left
          · intro w hSw
            clear hSw
            go_simp
            all_goals with_reducible rfl
          simp only [Act.put, List.setIfInBounds_toArray, List.set_cons_zero, List.set_cons_succ]
          refine wpAnyD_takeW (i := 3) (oi := { dst := some 34, op := Op.indexAddr 24 (Operand.tmp 32) (Operand.tmp 33), type := 0, pos := "ref.go:294", after := #[{ on := 1, ground := Ground.data }, { on := 2, ground := Ground.data }], guard := none }) (v := ?_) rfl (by kernel_rfl) (by kernel_rfl) (by kernel_rfl) (fun _ _ _ h => h) (Or.inl ⟨by rfl, ?_⟩) ?_
          rotate_left
          · intro w hSw
            clear hSw
            go_simp
            all_goals with_reducible rfl
          simp only [Act.put, List.setIfInBounds_toArray, List.set_cons_zero, List.set_cons_succ]
          refine wpAnyD_take (i := 4) (oi := { dst := some 35, op := Op.load 3 (Operand.tmp 34), type := 3, pos := "ref.go:294", after := #[{ on := 3, ground := Ground.data }], guard := none }) (v := ?_) rfl (by kernel_rfl) (by kernel_rfl) (by kernel_rfl) (by kernel_rfl) (by kernel_rfl) (fun _ _ _ h => h) (Or.inl ⟨by rfl, ?_⟩) hS ?_
          rotate_left
          · intro w hSw
            obtain ⟨s0, s1⟩ := hSw
            go_simp
            all_goals with_reducible rfl
          simp only [Act.put, List.setIfInBounds_toArray, List.set_cons_zero, List.set_cons_succ]
          clear hS
          refine wpAnyD_one (i := 5) (o := { dst := some 36, op := Op.call { callee := Callee.value (Operand.func 35), args := #[Operand.tmp 31, Operand.tmp 35], argTypes := #[29, 3] }, type := 3, pos := "ref.go:294", after := #[{ on := 0, ground := Ground.data }, { on := 4, ground := Ground.data }], guard := none }) (by kernel_rfl) rfl (fun K hK => ?_)
          go_simp
          (with_reducible refine Calls.mono (HCL.out _ HB2.out) ?_)
          rintro r w7 ⟨rfl, b7⟩
          have HB7 := hide (HB2.out.trans (b7.mono HB2.out.size))
          clear b7
          have hS := HKS.out w7 HB7.out
          refine hK _ _ (fun _ _ => hS) ?_
          clear hK K
          try simp only [Act.put, List.setIfInBounds_toArray, List.set_cons_zero, List.set_cons_succ]
          refine wpAnyD_takeW (i := 6) (oi := { dst := some 37, op := Op.binOp BinOp.eql 3 (Operand.tmp 36) (Operand.const (Value.int IntKind.i64 5)) 3, type := 4, pos := "ref.go:294", after := #[{ on := 5, ground := Ground.data }], guard := none }) (v := ?_) rfl (by kernel_rfl) (by kernel_rfl) (by kernel_rfl) (fun _ _ _ h => h) (Or.inl ⟨by rfl, ?_⟩) ?_
          rotate_left
          · intro w hSw
            clear hSw
            go_simp
            all_goals with_reducible rfl
          simp only [Act.put, List.setIfInBounds_toArray, List.set_cons_zero, List.set_cons_succ]
          refine wpAnyD_takeW (i := 7) (oi := { dst := some 38, op := Op.move (Operand.tmp 37), type := 4, pos := "ref.go:294", after := #[{ on := 6, ground := Ground.data }, { on := 5, ground := Ground.chain }], guard := none }) (v := ?_) rfl (by kernel_rfl) (by kernel_rfl) (by kernel_rfl) (fun _ _ _ h => h) (Or.inl ⟨by rfl, ?_⟩) ?_
          rotate_left
          · intro w hSw
            clear hSw
            go_simp
            all_goals with_reducible rfl
          simp only [Act.put, List.setIfInBounds_toArray, List.set_cons_zero, List.set_cons_succ]
          refine wpAnyD_takeW (i := 8) (oi := { dst := some 39, op := Op.move (Operand.tmp 1), type := 24, pos := "ref.go:294", after := #[{ on := 7, ground := Ground.guard }], guard := some (7, true) }) (v := ?_) rfl (by kernel_rfl) (by kernel_rfl) (by kernel_rfl) (fun _ _ _ h => h) (Or.inl ⟨by rfl, ?_⟩) ?_
          rotate_left
          · intro w hSw
            clear hSw
            go_simp
            all_goals with_reducible rfl
          simp only [Act.put, List.setIfInBounds_toArray, List.set_cons_zero, List.set_cons_succ]
          refine wpAnyD_takeW (i := 9) (oi := { dst := some 40, op := Op.move (Operand.tmp 10), type := 3, pos := "ref.go:294", after := #[{ on := 7, ground := Ground.guard }], guard := some (7, true) }) (v := ?_) rfl (by kernel_rfl) (by kernel_rfl) (by kernel_rfl) (fun _ _ _ h => h) (Or.inl ⟨by rfl, ?_⟩) ?_
          rotate_left
          · intro w hSw
            clear hSw
            go_simp
            all_goals with_reducible rfl
          simp only [Act.put, List.setIfInBounds_toArray, List.set_cons_zero, List.set_cons_succ]
          refine wpAnyD_takeW (i := 10) (oi := { dst := some 41, op := Op.indexAddr 24 (Operand.tmp 39) (Operand.tmp 40), type := 0, pos := "ref.go:294", after := #[{ on := 8, ground := Ground.data }, { on := 9, ground := Ground.data }, { on := 7, ground := Ground.guard }], guard := some (7, true) }) (v := ?_) rfl (by kernel_rfl) (by kernel_rfl) (by kernel_rfl) (fun _ _ _ h => h) (Or.inl ⟨by rfl, ?_⟩) ?_
          rotate_left
          · intro w hSw
            clear hSw
            go_simp
            all_goals with_reducible rfl
          simp only [Act.put, List.setIfInBounds_toArray, List.set_cons_zero, List.set_cons_succ]
          refine wpAnyD_take (i := 11) (oi := { dst := some 42, op := Op.load 3 (Operand.tmp 41), type := 3, pos := "ref.go:294", after := #[{ on := 10, ground := Ground.data }, { on := 7, ground := Ground.guard }], guard := some (7, true) }) (v := ?_) rfl (by kernel_rfl) (by kernel_rfl) (by kernel_rfl) (by kernel_rfl) (by kernel_rfl) (fun _ _ _ h => h) (Or.inl ⟨by rfl, ?_⟩) hS ?_
          rotate_left
          · intro w hSw
            obtain ⟨s0, s1⟩ := hSw
            go_simp
            all_goals with_reducible rfl
          simp only [Act.put, List.setIfInBounds_toArray, List.set_cons_zero, List.set_cons_succ]
          refine wpAnyD_takeW (i := 12) (oi := { dst := some 43, op := Op.move (Operand.tmp 0), type := 29, pos := "ref.go:294", after := #[{ on := 7, ground := Ground.guard }], guard := some (7, true) }) (v := ?_) rfl (by kernel_rfl) (by kernel_rfl) (by kernel_rfl) (fun _ _ _ h => h) (Or.inl ⟨by rfl, ?_⟩) ?_
          rotate_left
          · intro w hSw
            clear hSw
            go_simp
            all_goals with_reducible rfl
          simp only [Act.put, List.setIfInBounds_toArray, List.set_cons_zero, List.set_cons_succ]
          refine wpAnyD_takeW (i := 13) (oi := { dst := some 44, op := Op.move (Operand.tmp 1), type := 24, pos := "ref.go:294", after := #[{ on := 7, ground := Ground.guard }], guard := some (7, true) }) (v := ?_) rfl (by kernel_rfl) (by kernel_rfl) (by kernel_rfl) (fun _ _ _ h => h) (Or.inl ⟨by rfl, ?_⟩) ?_
          rotate_left
          · intro w hSw
            clear hSw
            go_simp
            all_goals with_reducible rfl
          simp only [Act.put, List.setIfInBounds_toArray, List.set_cons_zero, List.set_cons_succ]
          refine wpAnyD_takeW (i := 14) (oi := { dst := some 45, op := Op.move (Operand.tmp 2), type := 3, pos := "ref.go:294", after := #[{ on := 7, ground := Ground.guard }], guard := some (7, true) }) (v := ?_) rfl (by kernel_rfl) (by kernel_rfl) (by kernel_rfl) (fun _ _ _ h => h) (Or.inl ⟨by rfl, ?_⟩) ?_
          rotate_left
          · intro w hSw
            clear hSw
            go_simp
            all_goals with_reducible rfl
          simp only [Act.put, List.setIfInBounds_toArray, List.set_cons_zero, List.set_cons_succ]
          refine wpAnyD_takeW (i := 15) (oi := { dst := some 46, op := Op.indexAddr 24 (Operand.tmp 44) (Operand.tmp 45), type := 0, pos := "ref.go:294", after := #[{ on := 13, ground := Ground.data }, { on := 14, ground := Ground.data }, { on := 7, ground := Ground.guard }], guard := some (7, true) }) (v := ?_) rfl (by kernel_rfl) (by kernel_rfl) (by kernel_rfl) (fun _ _ _ h => h) (Or.inl ⟨by rfl, ?_⟩) ?_
          rotate_left
          · intro w hSw
            clear hSw
            go_simp
            all_goals with_reducible rfl
          simp only [Act.put, List.setIfInBounds_toArray, List.set_cons_zero, List.set_cons_succ]
          refine wpAnyD_take (i := 16) (oi := { dst := some 47, op := Op.load 3 (Operand.tmp 46), type := 3, pos := "ref.go:294", after := #[{ on := 15, ground := Ground.data }, { on := 7, ground := Ground.guard }], guard := some (7, true) }) (v := ?_) rfl (by kernel_rfl) (by kernel_rfl) (by kernel_rfl) (by kernel_rfl) (by kernel_rfl) (fun _ _ _ h => h) (Or.inl ⟨by rfl, ?_⟩) hS ?_
          rotate_left
          · intro w hSw
            obtain ⟨s0, s1⟩ := hSw
            go_simp
            all_goals with_reducible rfl
          simp only [Act.put, List.setIfInBounds_toArray, List.set_cons_zero, List.set_cons_succ]
          clear hS
          refine wpAnyD_one (i := 17) (o := { dst := some 48, op := Op.call { callee := Callee.value (Operand.func 36), args := #[Operand.tmp 43, Operand.tmp 47], argTypes := #[29, 3] }, type := 3, pos := "ref.go:294", after := #[{ on := 12, ground := Ground.data }, { on := 16, ground := Ground.data }, { on := 7, ground := Ground.chain }, { on := 7, ground := Ground.guard }], guard := some (7, true) }) (by kernel_rfl) rfl (fun K hK => ?_)
          go_simp
          (with_reducible refine Calls.mono (HMT.out _ HB7.out) ?_)
          rintro r w8 ⟨rfl, b8⟩
          have HB9 := hide (HB7.out.trans (b8.mono HB7.out.size))
          clear b8
          have hS := HKS.out w8 HB9.out
          refine hK _ _ (fun _ _ => hS) ?_
          clear hK K
          try simp only [Act.put, List.setIfInBounds_toArray, List.set_cons_zero, List.set_cons_succ]
          refine wpAnyD_takeW (i := 18) (oi := { dst := some 49, op := Op.binOp BinOp.eql 3 (Operand.tmp 42) (Operand.tmp 48) 3, type := 4, pos := "ref.go:294", after := #[{ on := 11, ground := Ground.data }, { on := 17, ground := Ground.data }, { on := 7, ground := Ground.guard }], guard := some (7, true) }) (v := ?_) rfl (by kernel_rfl) (by kernel_rfl) (by kernel_rfl) (fun _ _ _ h => h) (Or.inl ⟨by rfl, ?_⟩) ?_
          rotate_left
          · intro w hSw
            clear hSw
            go_simp
            all_goals with_reducible rfl
          simp only [Act.put, List.setIfInBounds_toArray, List.set_cons_zero, List.set_cons_succ]
          refine wpAnyD_takeW (i := 19) (oi := { dst := some 50, op := Op.pick (Operand.tmp 38) (Operand.tmp 49) (Operand.const (Value.bool false)), type := 4, pos := "ref.go:294", after := #[{ on := 7, ground := Ground.data }, { on := 18, ground := Ground.data }], guard := none }) (v := ?_) rfl (by kernel_rfl) (by kernel_rfl) (by kernel_rfl) (fun _ _ _ h => h) (Or.inl ⟨by rfl, ?_⟩) ?_
          rotate_left
          · intro w hSw
            clear hSw
            go_simp
            all_goals with_reducible rfl
          simp only [Act.put, List.setIfInBounds_toArray, List.set_cons_zero, List.set_cons_succ]
          refine wpAnyD_takeW (i := 20) (oi := { dst := some 30, op := Op.assign (Operand.tmp 50), type := 4, pos := "ref.go:294", after := #[{ on := 19, ground := Ground.data }, { on := 17, ground := Ground.chain }], guard := none }) (v := ?_) rfl (by kernel_rfl) (by kernel_rfl) (by kernel_rfl) (fun _ _ _ h => h) (Or.inl ⟨by rfl, ?_⟩) ?_
          rotate_left
          · intro w hSw
            clear hSw
            go_simp
            all_goals with_reducible rfl
          simp only [Act.put, List.setIfInBounds_toArray, List.set_cons_zero, List.set_cons_succ]
          refine wpAnyD_done (by kernel_rfl) ?_ _
          clear hS
          have HBB := hide (HB5.out.trans (HB9.out.mono HB5.out.size))
          have HRK := hide (HRB.out.below HBB.out HRB.out.lt)
          have t0 := HRK.out.cell 0
          have t1 := HRK.out.cell 1
          have t2 := HRK.out.frozen 0
          have t3 := HRK.out.frozen 1
          go_wp2_with fail
          refine bodyPost_ret (results_tmp_cell rfl _ _ w.heap.size 40 #[.int .i64 (0), .int .i64 (0)] (0, 0) _ rfl ((HRK.out.set_ 0 _).set_ 1 _) Tryd.underlying40 rfl (by kernel_rfl)) rfl ?_
          exact ⟨by rw [HE.out]; rfl, ((HB0.out.trans (HBB.out.mono HB0.out.size)).setCell (p := ⟨w.heap.size, 0, none⟩) (Nat.le_refl _) _).setCell (p := ⟨w.heap.size, 1, none⟩) (Nat.le_refl _) _⟩
        · have HNC := hide (show ¬ (T.at_ L j = 5 ∧ ((L.getD j 0 : Nat) : Int) = T.mate ((L.getD o 0 : Nat) : Int)) from fun hh => hmt (HCLO.out.1 hh).2)
          have e1 : (ch == mo) = false := by simpa using hmt
          have HCO := hide hmt
          subst h5
          clear hmt hk hc
          have HB2 := hide ((Below.refl w5.heap.size w5).drew)
          refine wp_region_d (S := fun y => (y.cell? ⟨g, off + j, none⟩ = some (.int .i64 ch) ∧ y.cell? ⟨g, off + o, none⟩ = some (.int .i64 co))) (D := []) (by kernel_rfl) ?_
          change wpAnyD _ _ _ _ _ _ _ _ _ w5.drew
          obtain ⟨w6, hw6⟩ : ∃ y : World, y = w5.drew := ⟨_, rfl⟩
          rw [← hw6] at HB2 ⊢
          clear hw6
          have HKS := hide (fun (y : World) (hb : Below w5.heap.size w5 y) => (show (y.cell? ⟨g, off + j, none⟩ = some (.int .i64 ch) ∧ y.cell? ⟨g, off + o, none⟩ = some (.int .i64 co)) from ⟨cell_keep HD0.out hb, cell_keep HD1.out hb⟩))
          have hS := HKS.out w6 HB2.out
          clear d0 d1
          refine wpAnyD_takeW (i := 0) (oi := { dst := some 31, op := Op.move (Operand.tmp 0), type := 29, pos := "ref.go:294", after := #[], guard := none }) (v := ?_) rfl (by kernel_rfl) (by kernel_rfl) (by kernel_rfl) (fun _ _ _ h => h) (Or.inl ⟨by rfl, ?_⟩) ?_
          rotate_left
          · intro w hSw
            clear hSw
            go_simp
            all_goals with_reducible rfl
          simp only [Act.put, List.setIfInBounds_toArray, List.set_cons_zero, List.set_cons_succ]
          refine wpAnyD_takeW (i := 1) (oi := { dst := some 32, op := Op.move (Operand.tmp 1), type := 24, pos := "ref.go:294", after := #[], guard := none }) (v := ?_) rfl (by kernel_rfl) (by kernel_rfl) (by kernel_rfl) (fun _ _ _ h => h) (Or.inl ⟨by rfl, ?_⟩) ?_
          rotate_left
          · intro w hSw
            clear hSw
            go_simp
            all_goals with_reducible rfl
          simp only [Act.put, List.setIfInBounds_toArray, List.set_cons_zero, List.set_cons_succ]
          refine wpAnyD_takeW (i := 2) (oi := { dst := some 33, op := Op.move (Operand.tmp 10), type := 3, pos := "ref.go:294", after := #[], guard := none }) (v := ?_) rfl (by kernel_rfl) (by kernel_rfl) (by kernel_rfl) (fun _ _ _ h => h) (Or.inl ⟨by rfl, ?_⟩) ?_
          rotate_left
          · intro w hSw
            clear hSw
            go_simp
            all_goals with_reducible rfl
          simp only [Act.put, List.setIfInBounds_toArray, List.set_cons_zero, List.set_cons_succ]
          refine wpAnyD_takeW (i := 3) (oi := { dst := some 34, op := Op.indexAddr 24 (Operand.tmp 32) (Operand.tmp 33), type := 0, pos := "ref.go:294", after := #[{ on := 1, ground := Ground.data }, { on := 2, ground := Ground.data }], guard := none }) (v := ?_) rfl (by kernel_rfl) (by kernel_rfl) (by kernel_rfl) (fun _ _ _ h => h) (Or.inl ⟨by rfl, ?_⟩) ?_
          rotate_left
          · intro w hSw
            clear hSw
            go_simp
            all_goals with_reducible rfl
          simp only [Act.put, List.setIfInBounds_toArray, List.set_cons_zero, List.set_cons_succ]
          refine wpAnyD_take (i := 4) (oi := { dst := some 35, op := Op.load 3 (Operand.tmp 34), type := 3, pos := "ref.go:294", after := #[{ on := 3, ground := Ground.data }], guard := none }) (v := ?_) rfl (by kernel_rfl) (by kernel_rfl) (by kernel_rfl) (by kernel_rfl) (by kernel_rfl) (fun _ _ _ h => h) (Or.inl ⟨by rfl, ?_⟩) hS ?_
          rotate_left
          · intro w hSw
            obtain ⟨s0, s1⟩ := hSw
            go_simp
            all_goals with_reducible rfl
          simp only [Act.put, List.setIfInBounds_toArray, List.set_cons_zero, List.set_cons_succ]
          clear hS
          refine wpAnyD_one (i := 5) (o := { dst := some 36, op := Op.call { callee := Callee.value (Operand.func 35), args := #[Operand.tmp 31, Operand.tmp 35], argTypes := #[29, 3] }, type := 3, pos := "ref.go:294", after := #[{ on := 0, ground := Ground.data }, { on := 4, ground := Ground.data }], guard := none }) (by kernel_rfl) rfl (fun K hK => ?_)
          go_simp
          (with_reducible refine Calls.mono (HCL.out _ HB2.out) ?_)
          rintro r w7 ⟨rfl, b7⟩
          have HB7 := hide (HB2.out.trans (b7.mono HB2.out.size))
          clear b7
          have hS := HKS.out w7 HB7.out
          refine hK _ _ (fun _ _ => hS) ?_
          clear hK K
          try simp only [Act.put, List.setIfInBounds_toArray, List.set_cons_zero, List.set_cons_succ]
          refine wpAnyD_takeW (i := 6) (oi := { dst := some 37, op := Op.binOp BinOp.eql 3 (Operand.tmp 36) (Operand.const (Value.int IntKind.i64 5)) 3, type := 4, pos := "ref.go:294", after := #[{ on := 5, ground := Ground.data }], guard := none }) (v := ?_) rfl (by kernel_rfl) (by kernel_rfl) (by kernel_rfl) (fun _ _ _ h => h) (Or.inl ⟨by rfl, ?_⟩) ?_
          rotate_left
          · intro w hSw
            clear hSw
            go_simp
            all_goals with_reducible rfl
          simp only [Act.put, List.setIfInBounds_toArray, List.set_cons_zero, List.set_cons_succ]
          refine wpAnyD_takeW (i := 7) (oi := { dst := some 38, op := Op.move (Operand.tmp 37), type := 4, pos := "ref.go:294", after := #[{ on := 6, ground := Ground.data }, { on := 5, ground := Ground.chain }], guard := none }) (v := ?_) rfl (by kernel_rfl) (by kernel_rfl) (by kernel_rfl) (fun _ _ _ h => h) (Or.inl ⟨by rfl, ?_⟩) ?_
          rotate_left
          · intro w hSw
            clear hSw
            go_simp
            all_goals with_reducible rfl
          simp only [Act.put, List.setIfInBounds_toArray, List.set_cons_zero, List.set_cons_succ]
          refine wpAnyD_takeW (i := 8) (oi := { dst := some 39, op := Op.move (Operand.tmp 1), type := 24, pos := "ref.go:294", after := #[{ on := 7, ground := Ground.guard }], guard := some (7, true) }) (v := ?_) rfl (by kernel_rfl) (by kernel_rfl) (by kernel_rfl) (fun _ _ _ h => h) (Or.inl ⟨by rfl, ?_⟩) ?_
          rotate_left
          · intro w hSw
            clear hSw
            go_simp
            all_goals with_reducible rfl
          simp only [Act.put, List.setIfInBounds_toArray, List.set_cons_zero, List.set_cons_succ]
          refine wpAnyD_takeW (i := 9) (oi := { dst := some 40, op := Op.move (Operand.tmp 10), type := 3, pos := "ref.go:294", after := #[{ on := 7, ground := Ground.guard }], guard := some (7, true) }) (v := ?_) rfl (by kernel_rfl) (by kernel_rfl) (by kernel_rfl) (fun _ _ _ h => h) (Or.inl ⟨by rfl, ?_⟩) ?_
          rotate_left
          · intro w hSw
            clear hSw
            go_simp
            all_goals with_reducible rfl
          simp only [Act.put, List.setIfInBounds_toArray, List.set_cons_zero, List.set_cons_succ]
          refine wpAnyD_takeW (i := 10) (oi := { dst := some 41, op := Op.indexAddr 24 (Operand.tmp 39) (Operand.tmp 40), type := 0, pos := "ref.go:294", after := #[{ on := 8, ground := Ground.data }, { on := 9, ground := Ground.data }, { on := 7, ground := Ground.guard }], guard := some (7, true) }) (v := ?_) rfl (by kernel_rfl) (by kernel_rfl) (by kernel_rfl) (fun _ _ _ h => h) (Or.inl ⟨by rfl, ?_⟩) ?_
          rotate_left
          · intro w hSw
            clear hSw
            go_simp
            all_goals with_reducible rfl
          simp only [Act.put, List.setIfInBounds_toArray, List.set_cons_zero, List.set_cons_succ]
          refine wpAnyD_take (i := 11) (oi := { dst := some 42, op := Op.load 3 (Operand.tmp 41), type := 3, pos := "ref.go:294", after := #[{ on := 10, ground := Ground.data }, { on := 7, ground := Ground.guard }], guard := some (7, true) }) (v := ?_) rfl (by kernel_rfl) (by kernel_rfl) (by kernel_rfl) (by kernel_rfl) (by kernel_rfl) (fun _ _ _ h => h) (Or.inl ⟨by rfl, ?_⟩) hS ?_
          rotate_left
          · intro w hSw
            obtain ⟨s0, s1⟩ := hSw
            go_simp
            all_goals with_reducible rfl
          simp only [Act.put, List.setIfInBounds_toArray, List.set_cons_zero, List.set_cons_succ]
          refine wpAnyD_takeW (i := 12) (oi := { dst := some 43, op := Op.move (Operand.tmp 0), type := 29, pos := "ref.go:294", after := #[{ on := 7, ground := Ground.guard }], guard := some (7, true) }) (v := ?_) rfl (by kernel_rfl) (by kernel_rfl) (by kernel_rfl) (fun _ _ _ h => h) (Or.inl ⟨by rfl, ?_⟩) ?_
          rotate_left
          · intro w hSw
            clear hSw
            go_simp
            all_goals with_reducible rfl
          simp only [Act.put, List.setIfInBounds_toArray, List.set_cons_zero, List.set_cons_succ]
          refine wpAnyD_takeW (i := 13) (oi := { dst := some 44, op := Op.move (Operand.tmp 1), type := 24, pos := "ref.go:294", after := #[{ on := 7, ground := Ground.guard }], guard := some (7, true) }) (v := ?_) rfl (by kernel_rfl) (by kernel_rfl) (by kernel_rfl) (fun _ _ _ h => h) (Or.inl ⟨by rfl, ?_⟩) ?_
          rotate_left
          · intro w hSw
            clear hSw
            go_simp
            all_goals with_reducible rfl
          simp only [Act.put, List.setIfInBounds_toArray, List.set_cons_zero, List.set_cons_succ]
          refine wpAnyD_takeW (i := 14) (oi := { dst := some 45, op := Op.move (Operand.tmp 2), type := 3, pos := "ref.go:294", after := #[{ on := 7, ground := Ground.guard }], guard := some (7, true) }) (v := ?_) rfl (by kernel_rfl) (by kernel_rfl) (by kernel_rfl) (fun _ _ _ h => h) (Or.inl ⟨by rfl, ?_⟩) ?_
          rotate_left
          · intro w hSw
            clear hSw
            go_simp
            all_goals with_reducible rfl
          simp only [Act.put, List.setIfInBounds_toArray, List.set_cons_zero, List.set_cons_succ]
          refine wpAnyD_takeW (i := 15) (oi := { dst := some 46, op := Op.indexAddr 24 (Operand.tmp 44) (Operand.tmp 45), type := 0, pos := "ref.go:294", after := #[{ on := 13, ground := Ground.data }, { on := 14, ground := Ground.data }, { on := 7, ground := Ground.guard }], guard := some (7, true) }) (v := ?_) rfl (by kernel_rfl) (by kernel_rfl) (by kernel_rfl) (fun _ _ _ h => h) (Or.inl ⟨by rfl, ?_⟩) ?_
          rotate_left
          · intro w hSw
            clear hSw
            go_simp
            all_goals with_reducible rfl
          simp only [Act.put, List.setIfInBounds_toArray, List.set_cons_zero, List.set_cons_succ]
          refine wpAnyD_take (i := 16) (oi := { dst := some 47, op := Op.load 3 (Operand.tmp 46), type := 3, pos := "ref.go:294", after := #[{ on := 15, ground := Ground.data }, { on := 7, ground := Ground.guard }], guard := some (7, true) }) (v := ?_) rfl (by kernel_rfl) (by kernel_rfl) (by kernel_rfl) (by kernel_rfl) (by kernel_rfl) (fun _ _ _ h => h) (Or.inl ⟨by rfl, ?_⟩) hS ?_
          rotate_left
          · intro w hSw
            obtain ⟨s0, s1⟩ := hSw
            go_simp
            all_goals with_reducible rfl
          simp only [Act.put, List.setIfInBounds_toArray, List.set_cons_zero, List.set_cons_succ]
          clear hS
          refine wpAnyD_one (i := 17) (o := { dst := some 48, op := Op.call { callee := Callee.value (Operand.func 36), args := #[Operand.tmp 43, Operand.tmp 47], argTypes := #[29, 3] }, type := 3, pos := "ref.go:294", after := #[{ on := 12, ground := Ground.data }, { on := 16, ground := Ground.data }, { on := 7, ground := Ground.chain }, { on := 7, ground := Ground.guard }], guard := some (7, true) }) (by kernel_rfl) rfl (fun K hK => ?_)
          go_simp
          (with_reducible refine Calls.mono (HMT.out _ HB7.out) ?_)
          rintro r w8 ⟨rfl, b8⟩
          have HB9 := hide (HB7.out.trans (b8.mono HB7.out.size))
          clear b8
          have hS := HKS.out w8 HB9.out
          refine hK _ _ (fun _ _ => hS) ?_
          clear hK K
          try simp only [Act.put, List.setIfInBounds_toArray, List.set_cons_zero, List.set_cons_succ]
          refine wpAnyD_takeW (i := 18) (oi := { dst := some 49, op := Op.binOp BinOp.eql 3 (Operand.tmp 42) (Operand.tmp 48) 3, type := 4, pos := "ref.go:294", after := #[{ on := 11, ground := Ground.data }, { on := 17, ground := Ground.data }, { on := 7, ground := Ground.guard }], guard := some (7, true) }) (v := ?_) rfl (by kernel_rfl) (by kernel_rfl) (by kernel_rfl) (fun _ _ _ h => h) (Or.inl ⟨by rfl, ?_⟩) ?_
          rotate_left
          · intro w hSw
            clear hSw
            go_simp
            all_goals with_reducible rfl
          simp only [Act.put, List.setIfInBounds_toArray, List.set_cons_zero, List.set_cons_succ]
          refine wpAnyD_takeW (i := 19) (oi := { dst := some 50, op := Op.pick (Operand.tmp 38) (Operand.tmp 49) (Operand.const (Value.bool false)), type := 4, pos := "ref.go:294", after := #[{ on := 7, ground := Ground.data }, { on := 18, ground := Ground.data }], guard := none }) (v := ?_) rfl (by kernel_rfl) (by kernel_rfl) (by kernel_rfl) (fun _ _ _ h => h) (Or.inl ⟨by rfl, ?_⟩) ?_
          rotate_left
          · intro w hSw
            clear hSw
            go_simp
            all_goals with_reducible rfl
          simp only [Act.put, List.setIfInBounds_toArray, List.set_cons_zero, List.set_cons_succ]
          refine wpAnyD_takeW (i := 20) (oi := { dst := some 30, op := Op.assign (Operand.tmp 50), type := 4, pos := "ref.go:294", after := #[{ on := 19, ground := Ground.data }, { on := 17, ground := Ground.chain }], guard := none }) (v := ?_) rfl (by kernel_rfl) (by kernel_rfl) (by kernel_rfl) (fun _ _ _ h => h) (Or.inl ⟨by rfl, ?_⟩) ?_
          rotate_left
          · intro w hSw
            clear hSw
            go_simp
            all_goals with_reducible rfl
          simp only [Act.put, List.setIfInBounds_toArray, List.set_cons_zero, List.set_cons_succ]
          refine wpAnyD_done (by kernel_rfl) ?_ _
          clear hS
          have HBB := hide (HB5.out.trans (HB9.out.mono HB5.out.size))
          obtain ⟨⟨f1, f2, f3⟩, hF⟩ : ∃ X : Ans, X = rF T L m (d + 1) j := ⟨_, rfl⟩
          have HFJ := hide (fun (y : World) (hb : Below w1.heap.size w1 y) => HFW.out m (by have := HM2.out; omega) y hb j (by have := HJL.out; have := HN.out; omega) (by have := HM1.out; have := HI.out; omega))
          rw [show ((d + 1 : Nat) : Int) = (d : Int) + 1 from by omega] at HFJ
          have HMO2 := hide (fun (e : f2 = 0) => (show j < f1 ∧ f1 ≤ n from by
            have h9 := rF_more hT (Nat.le_of_lt HJL.out) (n := m) (d := d + 1) (by have := HM1.out; have := HI.out; have := HN.out; omega) (by rw [← hF]; exact e)
            rw [← hF] at h9
            have := HN.out
            exact ⟨h9.1, by have := h9.2; omega⟩))
          have HQE := hide (show lR T L N d o = (if f2 ≠ 0 then (0, f2, f3) else rL T L m d o f1) by rw [HE.out, HEQ.out, if_neg HJN.out, if_neg HNC.out, ← hF])
          rw [← hF, show ansV (f1, f2, f3) = .tuple #[.int .i64 (f1 : Int), .agg #[.int .i64 f2, .int .i64 f3]] from rfl] at HFJ
          clear hF
          by_cases h0 : f2 = 0
          · have HM0 := hide (HMO2.out h0)
            subst h0
            go_wp2_with (go_at_call 65; (with_reducible refine Calls.mono (HFJ.out _ HBB.out) ?_); rintro e w9 ⟨rfl, b9⟩; have HBF := hide (HBB.out.trans (b9.mono HBB.out.size)); clear b9)
            go_roundw
            case rel => exact ⟨f1, m, rfl, by have := HM0.out; have := HI.out; have := HI1.out; omega, HM0.out.2, by have := HM0.out; have := HM1.out; have := HI.out; omega, by have := HM2.out; omega, by
              have h9 := HQE.out
              rw [HE0.out, if_neg (by simp)] at h9
              exact h9.symm, HBF.out.alloc HBF.out.size _⟩
            case measure => have := HM0.out; have := HI.out; simp [intOf]; omega
          · have HE := hide (show lR T L N d o = (0, f2, f3) by rw [HQE.out, if_pos h0])
            have g0 : (f2 != 0) = true := by simpa using h0
            clear h0
            go_upto_region 11 with (go_at_call 65; (with_reducible refine Calls.mono (HFJ.out _ HBB.out) ?_); rintro e w9 ⟨rfl, b9⟩; have HBF := hide ((HBB.out.trans (b9.mono HBB.out.size)).alloc (HBB.out.trans (b9.mono HBB.out.size)).size (.cells #[.int .i64 f2, .int .i64 f3] 40)); have HFB := hide (Blk.new w9 40 #[.int .i64 f2, .int .i64 f3]); clear b9)
            have HRK := hide (HRB.out.below HBF.out HRB.out.lt)
            have t0 := HRK.out.cell 0
            have t1 := HRK.out.cell 1
            have t2 := HRK.out.frozen 0
            have t3 := HRK.out.frozen 1
            have t4 := HFB.out.cell 0
            have t5 := HFB.out.cell 1
            go_region
            go_wp2_with fail
            refine bodyPost_ret (results_tmp_cell rfl _ _ w.heap.size 40 #[.int .i64 (f2), .int .i64 (f3)] (0, 0) _ rfl ((HRK.out.set_ 0 _).set_ 1 _) Tryd.underlying40 rfl (by kernel_rfl)) rfl ?_
            exact ⟨by rw [HE.out]; rfl, (((HB0.out.trans (HBF.out.mono HB0.out.size)).setCell (p := ⟨w.heap.size, 0, none⟩) (Nat.le_refl _) _).setCell (p := ⟨w.heap.size, 1, none⟩) (Nat.le_refl _) _).drew⟩
      · have HNC := hide (show ¬ (T.at_ L j = 5 ∧ ((L.getD j 0 : Nat) : Int) = T.mate ((L.getD o 0 : Nat) : Int)) from fun hh => h5 (HCLO.out.1 hh).1)
        have g5 : (kj == 5) = false := by simpa using h5
        clear h5 hk hc
        have HB2 := hide ((Below.refl w5.heap.size w5).drew)
        refine wp_region_d (S := fun y => (y.cell? ⟨g, off + j, none⟩ = some (.int .i64 ch) ∧ y.cell? ⟨g, off + o, none⟩ = some (.int .i64 co))) (D := []) (by kernel_rfl) ?_
        change wpAnyD _ _ _ _ _ _ _ _ _ w5.drew
        obtain ⟨w6, hw6⟩ : ∃ y : World, y = w5.drew := ⟨_, rfl⟩
        rw [← hw6] at HB2 ⊢
        clear hw6
        have HKS := hide (fun (y : World) (hb : Below w5.heap.size w5 y) => (show (y.cell? ⟨g, off + j, none⟩ = some (.int .i64 ch) ∧ y.cell? ⟨g, off + o, none⟩ = some (.int .i64 co)) from ⟨cell_keep HD0.out hb, cell_keep HD1.out hb⟩))
        have hS := HKS.out w6 HB2.out
        clear d0 d1
        refine wpAnyD_takeW (i := 0) (oi := { dst := some 31, op := Op.move (Operand.tmp 0), type := 29, pos := "ref.go:294", after := #[], guard := none }) (v := ?_) rfl (by kernel_rfl) (by kernel_rfl) (by kernel_rfl) (fun _ _ _ h => h) (Or.inl ⟨by rfl, ?_⟩) ?_
        rotate_left
        · intro w hSw
          clear hSw
          go_simp
          all_goals with_reducible rfl
        simp only [Act.put, List.setIfInBounds_toArray, List.set_cons_zero, List.set_cons_succ]
        refine wpAnyD_takeW (i := 1) (oi := { dst := some 32, op := Op.move (Operand.tmp 1), type := 24, pos := "ref.go:294", after := #[], guard := none }) (v := ?_) rfl (by kernel_rfl) (by kernel_rfl) (by kernel_rfl) (fun _ _ _ h => h) (Or.inl ⟨by rfl, ?_⟩) ?_
        rotate_left
        · intro w hSw
          clear hSw
          go_simp
          all_goals with_reducible rfl
        simp only [Act.put, List.setIfInBounds_toArray, List.set_cons_zero, List.set_cons_succ]
        refine wpAnyD_takeW (i := 2) (oi := { dst := some 33, op := Op.move (Operand.tmp 10), type := 3, pos := "ref.go:294", after := #[], guard := none }) (v := ?_) rfl (by kernel_rfl) (by kernel_rfl) (by kernel_rfl) (fun _ _ _ h => h) (Or.inl ⟨by rfl, ?_⟩) ?_
        rotate_left
        · intro w hSw
          clear hSw
          go_simp
          all_goals with_reducible rfl
        simp only [Act.put, List.setIfInBounds_toArray, List.set_cons_zero, List.set_cons_succ]
        refine wpAnyD_takeW (i := 3) (oi := { dst := some 34, op := Op.indexAddr 24 (Operand.tmp 32) (Operand.tmp 33), type := 0, pos := "ref.go:294", after := #[{ on := 1, ground := Ground.data }, { on := 2, ground := Ground.data }], guard := none }) (v := ?_) rfl (by kernel_rfl) (by kernel_rfl) (by kernel_rfl) (fun _ _ _ h => h) (Or.inl ⟨by rfl, ?_⟩) ?_
        rotate_left
        · intro w hSw
          clear hSw
          go_simp
          all_goals with_reducible rfl
        simp only [Act.put, List.setIfInBounds_toArray, List.set_cons_zero, List.set_cons_succ]
        refine wpAnyD_take (i := 4) (oi := { dst := some 35, op := Op.load 3 (Operand.tmp 34), type := 3, pos := "ref.go:294", after := #[{ on := 3, ground := Ground.data }], guard := none }) (v := ?_) rfl (by kernel_rfl) (by kernel_rfl) (by kernel_rfl) (by kernel_rfl) (by kernel_rfl) (fun _ _ _ h => h) (Or.inl ⟨by rfl, ?_⟩) hS ?_
        rotate_left
        · intro w hSw
          obtain ⟨s0, s1⟩ := hSw
          go_simp
          all_goals with_reducible rfl
        simp only [Act.put, List.setIfInBounds_toArray, List.set_cons_zero, List.set_cons_succ]
        clear hS
        refine wpAnyD_one (i := 5) (o := { dst := some 36, op := Op.call { callee := Callee.value (Operand.func 35), args := #[Operand.tmp 31, Operand.tmp 35], argTypes := #[29, 3] }, type := 3, pos := "ref.go:294", after := #[{ on := 0, ground := Ground.data }, { on := 4, ground := Ground.data }], guard := none }) (by kernel_rfl) rfl (fun K hK => ?_)
        go_simp
        (with_reducible refine Calls.mono (HCL.out _ HB2.out) ?_)
        rintro r w7 ⟨rfl, b7⟩
        have HB7 := hide (HB2.out.trans (b7.mono HB2.out.size))
        clear b7
        have hS := HKS.out w7 HB7.out
        refine hK _ _ (fun _ _ => hS) ?_
        clear hK K
        try simp only [Act.put, List.setIfInBounds_toArray, List.set_cons_zero, List.set_cons_succ]
        refine wpAnyD_takeW (i := 6) (oi := { dst := some 37, op := Op.binOp BinOp.eql 3 (Operand.tmp 36) (Operand.const (Value.int IntKind.i64 5)) 3, type := 4, pos := "ref.go:294", after := #[{ on := 5, ground := Ground.data }], guard := none }) (v := ?_) rfl (by kernel_rfl) (by kernel_rfl) (by kernel_rfl) (fun _ _ _ h => h) (Or.inl ⟨by rfl, ?_⟩) ?_
        rotate_left
        · intro w hSw
          clear hSw
          go_simp
          all_goals with_reducible rfl
        simp only [Act.put, List.setIfInBounds_toArray, List.set_cons_zero, List.set_cons_succ]
        refine wpAnyD_takeW (i := 7) (oi := { dst := some 38, op := Op.move (Operand.tmp 37), type := 4, pos := "ref.go:294", after := #[{ on := 6, ground := Ground.data }, { on := 5, ground := Ground.chain }], guard := none }) (v := ?_) rfl (by kernel_rfl) (by kernel_rfl) (by kernel_rfl) (fun _ _ _ h => h) (Or.inl ⟨by rfl, ?_⟩) ?_
        rotate_left
        · intro w hSw
          clear hSw
          go_simp
          all_goals with_reducible rfl
        simp only [Act.put, List.setIfInBounds_toArray, List.set_cons_zero, List.set_cons_succ]
        refine wpAnyD_takeW (i := 8) (oi := { dst := some 39, op := Op.move (Operand.tmp 1), type := 24, pos := "ref.go:294", after := #[{ on := 7, ground := Ground.guard }], guard := some (7, true) }) (v := undef) rfl (by kernel_rfl) (by kernel_rfl) (by kernel_rfl) (fun _ _ _ h => h) (Or.inr ⟨by rfl, rfl⟩) ?_
        simp only [Act.put, List.setIfInBounds_toArray, List.set_cons_zero, List.set_cons_succ]
        refine wpAnyD_takeW (i := 9) (oi := { dst := some 40, op := Op.move (Operand.tmp 10), type := 3, pos := "ref.go:294", after := #[{ on := 7, ground := Ground.guard }], guard := some (7, true) }) (v := undef) rfl (by kernel_rfl) (by kernel_rfl) (by kernel_rfl) (fun _ _ _ h => h) (Or.inr ⟨by rfl, rfl⟩) ?_
        simp only [Act.put, List.setIfInBounds_toArray, List.set_cons_zero, List.set_cons_succ]
        refine wpAnyD_takeW (i := 10) (oi := { dst := some 41, op := Op.indexAddr 24 (Operand.tmp 39) (Operand.tmp 40), type := 0, pos := "ref.go:294", after := #[{ on := 8, ground := Ground.data }, { on := 9, ground := Ground.data }, { on := 7, ground := Ground.guard }], guard := some (7, true) }) (v := undef) rfl (by kernel_rfl) (by kernel_rfl) (by kernel_rfl) (fun _ _ _ h => h) (Or.inr ⟨by rfl, rfl⟩) ?_
        simp only [Act.put, List.setIfInBounds_toArray, List.set_cons_zero, List.set_cons_succ]
        refine wpAnyD_takeW (i := 11) (oi := { dst := some 42, op := Op.load 3 (Operand.tmp 41), type := 3, pos := "ref.go:294", after := #[{ on := 10, ground := Ground.data }, { on := 7, ground := Ground.guard }], guard := some (7, true) }) (v := undef) rfl (by kernel_rfl) (by kernel_rfl) (by kernel_rfl) (fun _ _ _ h => h) (Or.inr ⟨by rfl, rfl⟩) ?_
        simp only [Act.put, List.setIfInBounds_toArray, List.set_cons_zero, List.set_cons_succ]
        refine wpAnyD_takeW (i := 12) (oi := { dst := some 43, op := Op.move (Operand.tmp 0), type := 29, pos := "ref.go:294", after := #[{ on := 7, ground := Ground.guard }], guard := some (7, true) }) (v := undef) rfl (by kernel_rfl) (by kernel_rfl) (by kernel_rfl) (fun _ _ _ h => h) (Or.inr ⟨by rfl, rfl⟩) ?_
        simp only [Act.put, List.setIfInBounds_toArray, List.set_cons_zero, List.set_cons_succ]
        refine wpAnyD_takeW (i := 13) (oi := { dst := some 44, op := Op.move (Operand.tmp 1), type := 24, pos := "ref.go:294", after := #[{ on := 7, ground := Ground.guard }], guard := some (7, true) }) (v := undef) rfl (by kernel_rfl) (by kernel_rfl) (by kernel_rfl) (fun _ _ _ h => h) (Or.inr ⟨by rfl, rfl⟩) ?_
        simp only [Act.put, List.setIfInBounds_toArray, List.set_cons_zero, List.set_cons_succ]
        refine wpAnyD_takeW (i := 14) (oi := { dst := some 45, op := Op.move (Operand.tmp 2), type := 3, pos := "ref.go:294", after := #[{ on := 7, ground := Ground.guard }], guard := some (7, true) }) (v := undef) rfl (by kernel_rfl) (by kernel_rfl) (by kernel_rfl) (fun _ _ _ h => h) (Or.inr ⟨by rfl, rfl⟩) ?_
        simp only [Act.put, List.setIfInBounds_toArray, List.set_cons_zero, List.set_cons_succ]
        refine wpAnyD_takeW (i := 15) (oi := { dst := some 46, op := Op.indexAddr 24 (Operand.tmp 44) (Operand.tmp 45), type := 0, pos := "ref.go:294", after := #[{ on := 13, ground := Ground.data }, { on := 14, ground := Ground.data }, { on := 7, ground := Ground.guard }], guard := some (7, true) }) (v := undef) rfl (by kernel_rfl) (by kernel_rfl) (by kernel_rfl) (fun _ _ _ h => h) (Or.inr ⟨by rfl, rfl⟩) ?_
        simp only [Act.put, List.setIfInBounds_toArray, List.set_cons_zero, List.set_cons_succ]
        refine wpAnyD_takeW (i := 16) (oi := { dst := some 47, op := Op.load 3 (Operand.tmp 46), type := 3, pos := "ref.go:294", after := #[{ on := 15, ground := Ground.data }, { on := 7, ground := Ground.guard }], guard := some (7, true) }) (v := undef) rfl (by kernel_rfl) (by kernel_rfl) (by kernel_rfl) (fun _ _ _ h => h) (Or.inr ⟨by rfl, rfl⟩) ?_
        simp only [Act.put, List.setIfInBounds_toArray, List.set_cons_zero, List.set_cons_succ]
        refine wpAnyD_takeW (i := 17) (oi := { dst := some 48, op := Op.call { callee := Callee.value (Operand.func 36), args := #[Operand.tmp 43, Operand.tmp 47], argTypes := #[29, 3] }, type := 3, pos := "ref.go:294", after := #[{ on := 12, ground := Ground.data }, { on := 16, ground := Ground.data }, { on := 7, ground := Ground.chain }, { on := 7, ground := Ground.guard }], guard := some (7, true) }) (v := undef) rfl (by kernel_rfl) (by kernel_rfl) (by kernel_rfl) (fun _ _ _ h => h) (Or.inr ⟨by rfl, rfl⟩) ?_
        simp only [Act.put, List.setIfInBounds_toArray, List.set_cons_zero, List.set_cons_succ]
        refine wpAnyD_takeW (i := 18) (oi := { dst := some 49, op := Op.binOp BinOp.eql 3 (Operand.tmp 42) (Operand.tmp 48) 3, type := 4, pos := "ref.go:294", after := #[{ on := 11, ground := Ground.data }, { on := 17, ground := Ground.data }, { on := 7, ground := Ground.guard }], guard := some (7, true) }) (v := undef) rfl (by kernel_rfl) (by kernel_rfl) (by kernel_rfl) (fun _ _ _ h => h) (Or.inr ⟨by rfl, rfl⟩) ?_
        simp only [Act.put, List.setIfInBounds_toArray, List.set_cons_zero, List.set_cons_succ]
        refine wpAnyD_takeW (i := 19) (oi := { dst := some 50, op := Op.pick (Operand.tmp 38) (Operand.tmp 49) (Operand.const (Value.bool false)), type := 4, pos := "ref.go:294", after := #[{ on := 7, ground := Ground.data }, { on := 18, ground := Ground.data }], guard := none }) (v := ?_) rfl (by kernel_rfl) (by kernel_rfl) (by kernel_rfl) (fun _ _ _ h => h) (Or.inl ⟨by rfl, ?_⟩) ?_
        rotate_left
        · intro w hSw
          clear hSw
          go_simp
          all_goals with_reducible rfl
        simp only [Act.put, List.setIfInBounds_toArray, List.set_cons_zero, List.set_cons_succ]
        refine wpAnyD_takeW (i := 20) (oi := { dst := some 30, op := Op.assign (Operand.tmp 50), type := 4, pos := "ref.go:294", after := #[{ on := 19, ground := Ground.data }, { on := 17, ground := Ground.chain }], guard := none }) (v := ?_) rfl (by kernel_rfl) (by kernel_rfl) (by kernel_rfl) (fun _ _ _ h => h) (Or.inl ⟨by rfl, ?_⟩) ?_
        rotate_left
        · intro w hSw
          clear hSw
          go_simp
          all_goals with_reducible rfl
        simp only [Act.put, List.setIfInBounds_toArray, List.set_cons_zero, List.set_cons_succ]
        refine wpAnyD_done (by kernel_rfl) ?_ _
        clear hS
        have HB9 := HB7
        have HBB := hide (HB5.out.trans (HB9.out.mono HB5.out.size))
        obtain ⟨⟨f1, f2, f3⟩, hF⟩ : ∃ X : Ans, X = rF T L m (d + 1) j := ⟨_, rfl⟩
        have HFJ := hide (fun (y : World) (hb : Below w1.heap.size w1 y) => HFW.out m (by have := HM2.out; omega) y hb j (by have := HJL.out; have := HN.out; omega) (by have := HM1.out; have := HI.out; omega))
        rw [show ((d + 1 : Nat) : Int) = (d : Int) + 1 from by omega] at HFJ
        have HMO2 := hide (fun (e : f2 = 0) => (show j < f1 ∧ f1 ≤ n from by
          have h9 := rF_more hT (Nat.le_of_lt HJL.out) (n := m) (d := d + 1) (by have := HM1.out; have := HI.out; have := HN.out; omega) (by rw [← hF]; exact e)
          rw [← hF] at h9
          have := HN.out
          exact ⟨h9.1, by have := h9.2; omega⟩))
        have HQE := hide (show lR T L N d o = (if f2 ≠ 0 then (0, f2, f3) else rL T L m d o f1) by rw [HE.out, HEQ.out, if_neg HJN.out, if_neg HNC.out, ← hF])
        rw [← hF, show ansV (f1, f2, f3) = .tuple #[.int .i64 (f1 : Int), .agg #[.int .i64 f2, .int .i64 f3]] from rfl] at HFJ
        clear hF
        by_cases h0 : f2 = 0
        · have HM0 := hide (HMO2.out h0)
          subst h0
          go_wp2_with (go_at_call 65; (with_reducible refine Calls.mono (HFJ.out _ HBB.out) ?_); rintro e w9 ⟨rfl, b9⟩; have HBF := hide (HBB.out.trans (b9.mono HBB.out.size)); clear b9)
          go_roundw
          case rel => exact ⟨f1, m, rfl, by have := HM0.out; have := HI.out; have := HI1.out; omega, HM0.out.2, by have := HM0.out; have := HM1.out; have := HI.out; omega, by have := HM2.out; omega, by
            have h9 := HQE.out
            rw [HE0.out, if_neg (by simp)] at h9
            exact h9.symm, HBF.out.alloc HBF.out.size _⟩
          case measure => have := HM0.out; have := HI.out; simp [intOf]; omega
        · have HE := hide (show lR T L N d o = (0, f2, f3) by rw [HQE.out, if_pos h0])
          have g0 : (f2 != 0) = true := by simpa using h0
          clear h0
          go_upto_region 11 with (go_at_call 65; (with_reducible refine Calls.mono (HFJ.out _ HBB.out) ?_); rintro e w9 ⟨rfl, b9⟩; have HBF := hide ((HBB.out.trans (b9.mono HBB.out.size)).alloc (HBB.out.trans (b9.mono HBB.out.size)).size (.cells #[.int .i64 f2, .int .i64 f3] 40)); have HFB := hide (Blk.new w9 40 #[.int .i64 f2, .int .i64 f3]); clear b9)
          have HRK := hide (HRB.out.below HBF.out HRB.out.lt)
          have t0 := HRK.out.cell 0
          have t1 := HRK.out.cell 1
          have t2 := HRK.out.frozen 0
          have t3 := HRK.out.frozen 1
          have t4 := HFB.out.cell 0
          have t5 := HFB.out.cell 1
          go_region
          go_wp2_with fail
          refine bodyPost_ret (results_tmp_cell rfl _ _ w.heap.size 40 #[.int .i64 (f2), .int .i64 (f3)] (0, 0) _ rfl ((HRK.out.set_ 0 _).set_ 1 _) Tryd.underlying40 rfl (by kernel_rfl)) rfl ?_
          exact ⟨by rw [HE.out]; rfl, (((HB0.out.trans (HBF.out.mono HB0.out.size)).setCell (p := ⟨w.heap.size, 0, none⟩) (Nat.le_refl _) _).setCell (p := ⟨w.heap.size, 1, none⟩) (Nat.le_refl _) _).drew⟩
theorem moves_any (hT : T.Ok) : ∀ N, FwdOk r T v L N ∧ ListOk r T v L N := by
  intro N
  induction N using Nat.strongRecOn with
  | _ N ih => exact ⟨fwd_of fun k hk => (ih k hk).2, list_of hT fun k hk => (ih k hk).1⟩
/-- Forward over one expression. -/
theorem rforward_any {w : World} {i : Nat} (h : RSc w r T v L) (hi : i ≤ L.length) : Calls Tryd.prog 65 #[.pointer (some ⟨r, 0, none⟩), v, .int .i64 (i : Int), .int .i64 0] w fun e w' => (∃ X : Ans, e = .returned (ansV X) ∧ (if X.2.1 ≠ 0 then (0, X.2) else X) = fwd1 T L i) ∧ Below w.heap.size w w' := by
  obtain ⟨_, _, _, _, _, _, hok⟩ := h.tab
  refine ((moves_any hok (2 * (L.length - i) + 1)).1 w 0 i h hi (by omega) (by omega)).mono ?_
  rintro e w' ⟨rfl, hb⟩
  exact ⟨⟨_, rfl, rF_fwd1 hok hi (by omega)⟩, hb⟩
end
end Go.Proofs.YtdojcgefiekleaaDoor
