/- The gap moves and grows. No condition but those written. -/
import Derived.Test.YtnbhejbpofjamaaGreatDoorBga
import Derived.Deep.RegionHeld3
import Derived.Laws.MakeOwn
import Derived.Laws.OwnMore
namespace Go.Proofs.YtnbhejbpofjamaaGreatDoor
open Go.RowKit

theorem size_int32 : (Tryz.prog.info? 21).map (·.size) = some 1 := by kernel_rfl
section
variable {W w w' : World} {b : Gb} {L : List Nat} {R : Heap}
/-- The row of characters turns, and the two ends of the gap. -/
theorem GapAt.turned (h : GapAt W w b R) (B : List Nat) (hB : B.length = b.g.B.length) (hs : RunSl w' b.bv B) (ho : Only (· = b.bb) w w') :
    GapAt W w' { b with g := { b.g with B := B } } R := by
  have h1 := h.own
  unfold Gb.heap at h1
  have h2 : Own W w ((b.bb, .row 21 1 b.bv b.g.B.length (runs b.g.B)) :: ((b.tb, .cells 164 (gapCells b)) :: (rowOf 3 1 b.fv b.g.F.length (ints b.g.F) ++ R))) := h1.perm (List.Perm.swap _ _ _)
  have hs' : Sl w' 21 1 b.bv b.g.B.length (runs B) := by rw [← hB]; exact hs
  have h3 := h2.turn (b := .row 21 1 b.bv b.g.B.length (runs B)) ho ⟨rfl, hs'⟩
  refine ⟨?_, h.okf, h.le1, by rw [hB]; exact h.le2, by rw [hB]; exact h.lim⟩
  unfold Gb.heap gapCells
  show Own W w' ((b.tb, .cells 164 #[.slice (some ⟨b.bb, b.bo, none⟩) B.length b.bc, .int .i64 (b.g.st : Int), .int .i64 (b.g.en : Int), b.fv]) :: (b.bb, .row 21 1 (.slice (some ⟨b.bb, b.bo, none⟩) B.length b.bc) B.length (runs B)) :: (rowOf 3 1 b.fv b.g.F.length (ints b.g.F) ++ R))
  rw [hB]
  exact h3.perm (List.Perm.swap _ _ _)
theorem GapAt.ends (h : GapAt W w b R) (st en : Nat) (h1 : st ≤ en) (h2 : en ≤ b.g.B.length) :
    GapAt W ((w.setCell ⟨b.tb, 1, none⟩ (.int .i64 (st : Int))).setCell ⟨b.tb, 2, none⟩ (.int .i64 (en : Int))) { b with g := { b.g with st := st, en := en } } R := by
  have k1 := h.own
  unfold Gb.heap at k1
  exact ⟨(Own.setCell k1 1 (.int .i64 (st : Int))).setCell 2 (.int .i64 (en : Int)), h.okf, h1, h2, h.lim⟩
/-- What move leaves. -/
def MoveRes (W : World) (b : Gb) (i : Nat) (R : Heap) (e : Ending) (w' : World) : Prop :=
  e = .returned (.tuple #[]) ∧ ∃ B, GapAt W w' { b with g := { b.g with B := B, st := i, en := i + (b.g.en - b.g.st) } } R ∧ B.length = b.g.B.length ∧ B.take i ++ B.drop (i + (b.g.en - b.g.st)) = b.g.chars
/-- The cells of a text that a copy reads. -/
def MvS (tb : Nat) (bv : Value) (s e : Nat) (w' : World) : Prop := w'.cell? ⟨tb, 0, none⟩ = some bv ∧ w'.cell? ⟨tb, 1, none⟩ = some (.int .i64 (s : Int)) ∧ w'.cell? ⟨tb, 2, none⟩ = some (.int .i64 (e : Int))
theorem GapAt.mvS (h : GapAt W w b R) : MvS b.tb b.bv b.g.st b.g.en w := ⟨h.c0, h.c1, h.c2⟩
set_option maxRecDepth 100000 in
set_option maxHeartbeats 4000000 in
theorem move_any (h : GapAt W w b R) (i : Nat) (hi : i + (b.g.en - b.g.st) ≤ b.g.B.length) : Calls Tryz.prog 163 #[.pointer (some ⟨b.tb, 0, none⟩), .int .i64 (i : Int)] w (MoveRes W b i R) := by
  have H := hide h
  have c0 := h.c0
  have c1 := h.c1
  have c2 := h.c2
  have h1 := h.le1
  have h2 := h.le2
  have h3 := h.lim
  obtain ⟨hcp1, hcp2⟩ := h.cap
  unfold maxLen at hcp2
  obtain ⟨n, hn⟩ : ∃ n, n = b.g.B.length := ⟨_, rfl⟩
  obtain ⟨s, hs⟩ : ∃ s, s = b.g.st := ⟨_, rfl⟩
  obtain ⟨e, he⟩ : ∃ e, e = b.g.en := ⟨_, rfl⟩
  obtain ⟨bc, hbc⟩ : ∃ bc, bc = b.bc := ⟨_, rfl⟩
  have HN := hide hn
  have HS := hide hs
  have HE := hide he
  have HBC := hide hbc
  unfold Gb.bv at c0
  rw [← hn, ← hbc] at c0
  rw [← hn] at h2 h3 hcp1 hi
  rw [← hbc] at hcp1 hcp2
  rw [← hs] at c1 h1 hi
  rw [← he] at c2 h1 h2 hi
  obtain ⟨k, hk⟩ : ∃ k, k = i + (e - s) := ⟨_, rfl⟩
  rw [← hk] at hi
  have hw1 : IntKind.i64.wrap ((e : Int) - (s : Int)) = (e : Int) - (s : Int) := IntWalk.i64_in _ (by omega)
  have hw2 : IntKind.i64.wrap ((i : Int) + ((e : Int) - (s : Int))) = (k : Int) := by rw [show (i : Int) + ((e : Int) - (s : Int)) = (k : Int) by omega]; exact IntWalk.i64_in _ (by omega)
  have HK := hide hk
  have HMV := hide (show ∀ w', GapAt W w' b R → w'.cell? ⟨b.tb, 0, none⟩ = some (.slice (some ⟨b.bb, b.bo, none⟩) n bc) ∧ w'.cell? ⟨b.tb, 1, none⟩ = some (.int .i64 (s : Int)) ∧ w'.cell? ⟨b.tb, 2, none⟩ = some (.int .i64 (e : Int)) from fun w' h' => by
    have := h'.mvS
    unfold MvS Gb.bv at this
    rwa [← hn, ← hs, ← he, ← hbc] at this)
  clear h hn hs he hbc
  have hi0 : (0 : Int) ≤ (i : Int) := by omega
  have hk0 : (0 : Int) ≤ (k : Int) := by omega
  have hs0 : (0 : Int) ≤ (s : Int) := by omega
  have he0 : (0 : Int) ≤ (e : Int) := by omega
  have hs1 : (s : Int) ≤ (bc : Int) := by omega
  have he1 : (e : Int) ≤ (bc : Int) := by omega
  have hib : i ≤ 131104 := by omega
  have heb : e ≤ 131104 := by omega
  rcases Nat.lt_trichotomy i s with hlt | heq | hgt
  · have z1 : decide ((i : Int) < (s : Int)) = true := by simp; omega
    have z2 : decide (i < s) = true := by simpa using hlt
    have g1 : (k : Int) ≤ (e : Int) := by omega
    have g2 : (i : Int) ≤ (s : Int) := by omega
    have g3 : ¬ bc = k := by omega
    have g4 : ¬ bc = i := by omega
    have HPL := hide (And.intro trivial (show (splice b.g.B k ((b.g.B.drop i).take (s - i))).take i ++ (splice b.g.B k ((b.g.B.drop i).take (s - i))).drop (i + (e - s)) = b.g.B.take s ++ b.g.B.drop e by rw [hk]; exact move_left (by omega) h1 (by rw [← HN.out]; exact h2)))
    have HF := hide (And.intro hlt (And.intro h1 (And.intro h2 hi)))
    clear hlt h1 h2 h3 hi hk hcp1
    go_enter Tryz.func163, Tryz.ntmps163
    go_wp2
    go_quiet (fail)
    go_wp2_with fail
    have H2 := hide (H.out.drewN nq)
    clear c0 c1 c2
    generalize w.drewN nq = w2 at *
    go_upto_region 2 with fail
    go_cut [] (fun wx => GapAt W wx { b with g := { b.g with B := splice b.g.B k ((b.g.B.drop i).take (s - i)) } } R)
    case first =>
      go_region_held3 (fun w' => w'.cell? ⟨b.tb, 0, none⟩ = some (.slice (some ⟨b.bb, b.bo, none⟩) n bc) ∧ w'.cell? ⟨b.tb, 1, none⟩ = some (.int .i64 (s : Int)) ∧ w'.cell? ⟨b.tb, 2, none⟩ = some (.int .i64 (e : Int)))
        (first | exact HMV.out _ H2.out.drew | exact HM2.out)
        ((refine step_copy_sl rfl (.tmp 31) (.tmp 41) 162 162 rfl 21 Tryz.underlying162 size_int32 (T := 21) (g := b.bb) (off := b.bo) (n := b.g.B.length) (c := b.bc) (xs := runs b.g.B) H2.out.drew.slB k _ _ _ _ _ _ rfl rfl (runs ((b.g.B.drop i).take (s - i))) (by have := HF.out; have := HN.out; have := HK.out; rw [runs_size, List.length_take, List.length_drop]; show _ = min _ _; omega) (by have := HF.out; have := HN.out; have := HK.out; rw [runs_size, List.length_take, List.length_drop]; omega) (fun _ => ⟨rfl, _, _, rfl, fun m v hv => by rw [runs_get, List.getElem?_take] at hv; split at hv <;> simp at hv; obtain ⟨x, hx, rfl⟩ := hv; rw [Nat.add_assoc]; exact H2.out.drew.rune hx⟩) (runs_one _) ?_; intro w6 hs6 ho6; rw [runs_splice] at hs6; have hm := H2.out.drew.turned (splice b.g.B k ((b.g.B.drop i).take (s - i))) (splice_len _ _ _ (by have := HF.out; have := HN.out; have := HK.out; rw [List.length_take, List.length_drop]; omega)) (by unfold RunSl; rw [splice_len _ _ _ (by have := HF.out; have := HN.out; have := HK.out; rw [List.length_take, List.length_drop]; omega)]; exact hs6) ho6; have HM := hide hm; have HM2 := hide (show w6.cell? ⟨b.tb, 0, none⟩ = some (.slice (some ⟨b.bb, b.bo, none⟩) n bc) ∧ w6.cell? ⟨b.tb, 1, none⟩ = some (.int .i64 (s : Int)) ∧ w6.cell? ⟨b.tb, 2, none⟩ = some (.int .i64 (e : Int)) from by have := hm.mvS; unfold MvS Gb.bv at this; simp only at this; rwa [splice_len _ _ _ (by have := HF.out; have := HN.out; have := HK.out; rw [List.length_take, List.length_drop]; omega), ← HN.out, ← HS.out, ← HE.out, ← HBC.out] at this); clear hm hs6 ho6))
      all_goals (go_wp2_with fail; go_meet; exact HM.out)
    case rest =>
      have H6 := hide hcut
      have x1 := hcut.c1
      have x2 := hcut.c2
      have f1 := hcut.blk.frozen 1
      have f2 := hcut.blk.frozen 2
      have HB := hide (show (splice b.g.B k ((b.g.B.drop i).take (s - i))).length = b.g.B.length from splice_len _ _ _ (by have := HF.out; have := HN.out; have := HK.out; rw [List.length_take, List.length_drop]; omega))
      have HEN := hide (H6.out.ends i k (by have := HK.out; omega) (by show k ≤ (splice b.g.B k ((b.g.B.drop i).take (s - i))).length; rw [HB.out]; have := HF.out; have := HN.out; omega))
      clear hcut
      simp only at x1 x2
      go_wp2
      refine bodyPost_end (results_none rfl _ _ _) rfl ?_
      refine ⟨rfl, _, ?_, HB.out, ?_⟩
      · rw [← HE.out, ← HS.out, ← HK.out]
        exact HEN.out
      · rw [← HE.out, ← HS.out, HPL.out.2]
        show _ = b.g.B.take b.g.st ++ b.g.B.drop b.g.en
        rw [← HE.out, ← HS.out]
  · subst heq
    obtain rfl : e = k := by omega
    by_cases q1 : bc = e
    · subst q1
      by_cases q2 : bc = i
      · subst q2
        have hw3 : IntKind.i64.wrap (bc : Int) = (bc : Int) := IntWalk.i64_in _ (by omega)
        have z1 : decide ((bc : Int) < (bc : Int)) = false := by simp
        have z2 : decide (bc < bc) = false := by simp
        have g5 : (bc : Int) ≤ (bc : Int) := by omega
        have HPL := hide (And.intro trivial (show (splice b.g.B bc ((b.g.B.drop bc).take (bc - bc))).take bc ++ (splice b.g.B bc ((b.g.B.drop bc).take (bc - bc))).drop (bc + (bc - bc)) = b.g.B.take bc ++ b.g.B.drop bc from move_right (by omega) h1 (by rw [← HN.out]; omega)))
        have HF := hide (And.intro trivial (And.intro h1 (And.intro h2 hi)))
        clear h1 h2 h3 hi hk hcp1
        go_enter Tryz.func163, Tryz.ntmps163
        go_wp2
        go_quiet (fail)
        go_wp2_with fail
        have H2 := hide (H.out.drewN nq)
        clear c0 c1 c2
        generalize w.drewN nq = w2 at *
        go_upto_region 3 with fail
        go_cut [] (fun wx => GapAt W wx { b with g := { b.g with B := splice b.g.B bc ((b.g.B.drop bc).take (bc - bc)) } } R)
        case first =>
          go_region_held3 (fun w' => w'.cell? ⟨b.tb, 0, none⟩ = some (.slice (some ⟨b.bb, b.bo, none⟩) n bc) ∧ w'.cell? ⟨b.tb, 1, none⟩ = some (.int .i64 (bc : Int)) ∧ w'.cell? ⟨b.tb, 2, none⟩ = some (.int .i64 (bc : Int)))
            (first | exact HMV.out _ H2.out.drew | exact HM2.out)
            ((refine step_copy_sl rfl (.tmp 52) (.tmp 64) 162 162 rfl 21 Tryz.underlying162 size_int32 (T := 21) (g := b.bb) (off := b.bo) (n := b.g.B.length) (c := b.bc) (xs := runs b.g.B) H2.out.drew.slB bc _ _ _ _ _ _ rfl rfl (runs ((b.g.B.drop bc).take (bc - bc))) (by have := HF.out; have := HN.out; have := HK.out; rw [runs_size, List.length_take, List.length_drop]; show _ = min _ _; omega) (by have := HF.out; have := HN.out; have := HK.out; rw [runs_size, List.length_take, List.length_drop]; omega) (fun h => absurd h (by have := HF.out; rw [runs_size, List.length_take, List.length_drop]; omega)) (runs_one _) ?_; intro w6 hs6 ho6; rw [runs_splice] at hs6; have hm := H2.out.drew.turned (splice b.g.B bc ((b.g.B.drop bc).take (bc - bc))) (splice_len _ _ _ (by have := HF.out; have := HN.out; have := HK.out; rw [List.length_take, List.length_drop]; omega)) (by unfold RunSl; rw [splice_len _ _ _ (by have := HF.out; have := HN.out; have := HK.out; rw [List.length_take, List.length_drop]; omega)]; exact hs6) ho6; have HM := hide hm; have HM2 := hide (show w6.cell? ⟨b.tb, 0, none⟩ = some (.slice (some ⟨b.bb, b.bo, none⟩) n bc) ∧ w6.cell? ⟨b.tb, 1, none⟩ = some (.int .i64 (bc : Int)) ∧ w6.cell? ⟨b.tb, 2, none⟩ = some (.int .i64 (bc : Int)) from by have := hm.mvS; unfold MvS Gb.bv at this; simp only at this; rwa [splice_len _ _ _ (by have := HF.out; have := HN.out; have := HK.out; rw [List.length_take, List.length_drop]; omega), ← HN.out, ← HS.out, ← HE.out, ← HBC.out] at this); clear hm hs6 ho6))
          all_goals (go_wp2_with fail; go_meet; exact HM.out)
        case rest =>
          have H6 := hide hcut
          have x1 := hcut.c1
          have x2 := hcut.c2
          have f1 := hcut.blk.frozen 1
          have f2 := hcut.blk.frozen 2
          have HB := hide (show (splice b.g.B bc ((b.g.B.drop bc).take (bc - bc))).length = b.g.B.length from splice_len _ _ _ (by have := HF.out; have := HN.out; have := HK.out; rw [List.length_take, List.length_drop]; omega))
          have HEN := hide (H6.out.ends bc bc (by have := HK.out; omega) (by show bc ≤ (splice b.g.B bc ((b.g.B.drop bc).take (bc - bc))).length; rw [HB.out]; have := HF.out; have := HN.out; omega))
          clear hcut
          simp only at x1 x2
          go_wp2
          refine bodyPost_end (results_none rfl _ _ _) rfl ?_
          refine ⟨rfl, _, ?_, HB.out, ?_⟩
          · rw [← HE.out, ← HS.out, ← HK.out]
            exact HEN.out
          · rw [← HE.out, ← HS.out, HPL.out.2]
            show _ = b.g.B.take b.g.st ++ b.g.B.drop b.g.en
            rw [← HE.out, ← HS.out]
      · have q3 : ¬ i = bc := by omega
        have z1 : decide ((i : Int) < (i : Int)) = false := by simp
        have z2 : decide (i < i) = false := by simp
        have g5 : (i : Int) ≤ (bc : Int) := by omega
        have HPL := hide (And.intro trivial (show (splice b.g.B i ((b.g.B.drop bc).take (i - i))).take i ++ (splice b.g.B i ((b.g.B.drop bc).take (i - i))).drop (i + (bc - i)) = b.g.B.take i ++ b.g.B.drop bc from move_right (by omega) h1 (by rw [← HN.out]; omega)))
        have HF := hide (And.intro trivial (And.intro h1 (And.intro h2 hi)))
        clear h1 h2 h3 hi hk hcp1
        go_enter Tryz.func163, Tryz.ntmps163
        go_wp2
        go_quiet (fail)
        go_wp2_with fail
        have H2 := hide (H.out.drewN nq)
        clear c0 c1 c2
        generalize w.drewN nq = w2 at *
        go_upto_region 3 with fail
        go_cut [] (fun wx => GapAt W wx { b with g := { b.g with B := splice b.g.B i ((b.g.B.drop bc).take (i - i)) } } R)
        case first =>
          go_region_held3 (fun w' => w'.cell? ⟨b.tb, 0, none⟩ = some (.slice (some ⟨b.bb, b.bo, none⟩) n bc) ∧ w'.cell? ⟨b.tb, 1, none⟩ = some (.int .i64 (i : Int)) ∧ w'.cell? ⟨b.tb, 2, none⟩ = some (.int .i64 (bc : Int)))
            (first | exact HMV.out _ H2.out.drew | exact HM2.out)
            ((refine step_copy_sl rfl (.tmp 52) (.tmp 64) 162 162 rfl 21 Tryz.underlying162 size_int32 (T := 21) (g := b.bb) (off := b.bo) (n := b.g.B.length) (c := b.bc) (xs := runs b.g.B) H2.out.drew.slB i _ _ _ _ _ _ rfl rfl (runs ((b.g.B.drop bc).take (i - i))) (by have := HF.out; have := HN.out; have := HK.out; rw [runs_size, List.length_take, List.length_drop]; show _ = min _ _; omega) (by have := HF.out; have := HN.out; have := HK.out; rw [runs_size, List.length_take, List.length_drop]; omega) (fun h => absurd h (by have := HF.out; rw [runs_size, List.length_take, List.length_drop]; omega)) (runs_one _) ?_; intro w6 hs6 ho6; rw [runs_splice] at hs6; have hm := H2.out.drew.turned (splice b.g.B i ((b.g.B.drop bc).take (i - i))) (splice_len _ _ _ (by have := HF.out; have := HN.out; have := HK.out; rw [List.length_take, List.length_drop]; omega)) (by unfold RunSl; rw [splice_len _ _ _ (by have := HF.out; have := HN.out; have := HK.out; rw [List.length_take, List.length_drop]; omega)]; exact hs6) ho6; have HM := hide hm; have HM2 := hide (show w6.cell? ⟨b.tb, 0, none⟩ = some (.slice (some ⟨b.bb, b.bo, none⟩) n bc) ∧ w6.cell? ⟨b.tb, 1, none⟩ = some (.int .i64 (i : Int)) ∧ w6.cell? ⟨b.tb, 2, none⟩ = some (.int .i64 (bc : Int)) from by have := hm.mvS; unfold MvS Gb.bv at this; simp only at this; rwa [splice_len _ _ _ (by have := HF.out; have := HN.out; have := HK.out; rw [List.length_take, List.length_drop]; omega), ← HN.out, ← HS.out, ← HE.out, ← HBC.out] at this); clear hm hs6 ho6))
          all_goals (go_wp2_with fail; go_meet; exact HM.out)
        case rest =>
          have H6 := hide hcut
          have x1 := hcut.c1
          have x2 := hcut.c2
          have f1 := hcut.blk.frozen 1
          have f2 := hcut.blk.frozen 2
          have HB := hide (show (splice b.g.B i ((b.g.B.drop bc).take (i - i))).length = b.g.B.length from splice_len _ _ _ (by have := HF.out; have := HN.out; have := HK.out; rw [List.length_take, List.length_drop]; omega))
          have HEN := hide (H6.out.ends i bc (by have := HK.out; omega) (by show bc ≤ (splice b.g.B i ((b.g.B.drop bc).take (i - i))).length; rw [HB.out]; have := HF.out; have := HN.out; omega))
          clear hcut
          simp only at x1 x2
          go_wp2
          refine bodyPost_end (results_none rfl _ _ _) rfl ?_
          refine ⟨rfl, _, ?_, HB.out, ?_⟩
          · rw [← HE.out, ← HS.out, ← HK.out]
            exact HEN.out
          · rw [← HE.out, ← HS.out, HPL.out.2]
            show _ = b.g.B.take b.g.st ++ b.g.B.drop b.g.en
            rw [← HE.out, ← HS.out]
    · have q2 : ¬ bc = i := by omega
      have g1 : (i : Int) ≤ (e : Int) := by omega
      have z1 : decide ((i : Int) < (i : Int)) = false := by simp
      have z2 : decide (i < i) = false := by simp
      have g5 : (i : Int) ≤ (bc : Int) := by omega
      have HPL := hide (And.intro trivial (show (splice b.g.B i ((b.g.B.drop e).take (i - i))).take i ++ (splice b.g.B i ((b.g.B.drop e).take (i - i))).drop (i + (e - i)) = b.g.B.take i ++ b.g.B.drop e from move_right (by omega) h1 (by rw [← HN.out]; omega)))
      have HF := hide (And.intro trivial (And.intro h1 (And.intro h2 hi)))
      clear h1 h2 h3 hi hk hcp1
      go_enter Tryz.func163, Tryz.ntmps163
      go_wp2
      go_quiet (fail)
      go_wp2_with fail
      have H2 := hide (H.out.drewN nq)
      clear c0 c1 c2
      generalize w.drewN nq = w2 at *
      go_upto_region 3 with fail
      go_cut [] (fun wx => GapAt W wx { b with g := { b.g with B := splice b.g.B i ((b.g.B.drop e).take (i - i)) } } R)
      case first =>
        go_region_held3 (fun w' => w'.cell? ⟨b.tb, 0, none⟩ = some (.slice (some ⟨b.bb, b.bo, none⟩) n bc) ∧ w'.cell? ⟨b.tb, 1, none⟩ = some (.int .i64 (i : Int)) ∧ w'.cell? ⟨b.tb, 2, none⟩ = some (.int .i64 (e : Int)))
          (first | exact HMV.out _ H2.out.drew | exact HM2.out)
          ((refine step_copy_sl rfl (.tmp 52) (.tmp 64) 162 162 rfl 21 Tryz.underlying162 size_int32 (T := 21) (g := b.bb) (off := b.bo) (n := b.g.B.length) (c := b.bc) (xs := runs b.g.B) H2.out.drew.slB i _ _ _ _ _ _ rfl rfl (runs ((b.g.B.drop e).take (i - i))) (by have := HF.out; have := HN.out; have := HK.out; rw [runs_size, List.length_take, List.length_drop]; show _ = min _ _; omega) (by have := HF.out; have := HN.out; have := HK.out; rw [runs_size, List.length_take, List.length_drop]; omega) (fun h => absurd h (by have := HF.out; rw [runs_size, List.length_take, List.length_drop]; omega)) (runs_one _) ?_; intro w6 hs6 ho6; rw [runs_splice] at hs6; have hm := H2.out.drew.turned (splice b.g.B i ((b.g.B.drop e).take (i - i))) (splice_len _ _ _ (by have := HF.out; have := HN.out; have := HK.out; rw [List.length_take, List.length_drop]; omega)) (by unfold RunSl; rw [splice_len _ _ _ (by have := HF.out; have := HN.out; have := HK.out; rw [List.length_take, List.length_drop]; omega)]; exact hs6) ho6; have HM := hide hm; have HM2 := hide (show w6.cell? ⟨b.tb, 0, none⟩ = some (.slice (some ⟨b.bb, b.bo, none⟩) n bc) ∧ w6.cell? ⟨b.tb, 1, none⟩ = some (.int .i64 (i : Int)) ∧ w6.cell? ⟨b.tb, 2, none⟩ = some (.int .i64 (e : Int)) from by have := hm.mvS; unfold MvS Gb.bv at this; simp only at this; rwa [splice_len _ _ _ (by have := HF.out; have := HN.out; have := HK.out; rw [List.length_take, List.length_drop]; omega), ← HN.out, ← HS.out, ← HE.out, ← HBC.out] at this); clear hm hs6 ho6))
        all_goals (go_wp2_with fail; go_meet; exact HM.out)
      case rest =>
        have H6 := hide hcut
        have x1 := hcut.c1
        have x2 := hcut.c2
        have f1 := hcut.blk.frozen 1
        have f2 := hcut.blk.frozen 2
        have HB := hide (show (splice b.g.B i ((b.g.B.drop e).take (i - i))).length = b.g.B.length from splice_len _ _ _ (by have := HF.out; have := HN.out; have := HK.out; rw [List.length_take, List.length_drop]; omega))
        have HEN := hide (H6.out.ends i e (by have := HK.out; omega) (by show e ≤ (splice b.g.B i ((b.g.B.drop e).take (i - i))).length; rw [HB.out]; have := HF.out; have := HN.out; omega))
        clear hcut
        simp only at x1 x2
        go_wp2
        refine bodyPost_end (results_none rfl _ _ _) rfl ?_
        refine ⟨rfl, _, ?_, HB.out, ?_⟩
        · rw [← HE.out, ← HS.out, ← HK.out]
          exact HEN.out
        · rw [← HE.out, ← HS.out, HPL.out.2]
          show _ = b.g.B.take b.g.st ++ b.g.B.drop b.g.en
          rw [← HE.out, ← HS.out]
  · have z1 : decide ((i : Int) < (s : Int)) = false := by simp; omega
    have z2 : decide (i < s) = false := by simp; omega
    have g1 : (e : Int) ≤ (k : Int) := by omega
    have g2 : (s : Int) ≤ (i : Int) := by omega
    have g5 : (i : Int) ≤ (bc : Int) := by omega
    have g6 : (k : Int) ≤ (bc : Int) := by omega
    have g3 : ¬ bc = s := by omega
    have g4 : ¬ bc = e := by omega
    have HPL := hide (And.intro trivial (show (splice b.g.B s ((b.g.B.drop e).take (i - s))).take i ++ (splice b.g.B s ((b.g.B.drop e).take (i - s))).drop (i + (e - s)) = b.g.B.take s ++ b.g.B.drop e from move_right (by omega) h1 (by rw [← HN.out]; omega)))
    have HF := hide (And.intro hgt (And.intro h1 (And.intro h2 hi)))
    clear hgt h1 h2 h3 hi hk hcp1
    go_enter Tryz.func163, Tryz.ntmps163
    go_wp2
    go_quiet (fail)
    go_wp2_with fail
    have H2 := hide (H.out.drewN nq)
    clear c0 c1 c2
    generalize w.drewN nq = w2 at *
    go_upto_region 3 with fail
    go_cut [] (fun wx => GapAt W wx { b with g := { b.g with B := splice b.g.B s ((b.g.B.drop e).take (i - s)) } } R)
    case first =>
      go_region_held3 (fun w' => w'.cell? ⟨b.tb, 0, none⟩ = some (.slice (some ⟨b.bb, b.bo, none⟩) n bc) ∧ w'.cell? ⟨b.tb, 1, none⟩ = some (.int .i64 (s : Int)) ∧ w'.cell? ⟨b.tb, 2, none⟩ = some (.int .i64 (e : Int)))
        (first | exact HMV.out _ H2.out.drew | exact HM2.out)
        ((refine step_copy_sl rfl (.tmp 52) (.tmp 64) 162 162 rfl 21 Tryz.underlying162 size_int32 (T := 21) (g := b.bb) (off := b.bo) (n := b.g.B.length) (c := b.bc) (xs := runs b.g.B) H2.out.drew.slB s _ _ _ _ _ _ rfl rfl (runs ((b.g.B.drop e).take (i - s))) (by have := HF.out; have := HN.out; have := HK.out; rw [runs_size, List.length_take, List.length_drop]; show _ = min _ _; omega) (by have := HF.out; have := HN.out; have := HK.out; rw [runs_size, List.length_take, List.length_drop]; omega) (fun _ => ⟨rfl, _, _, rfl, fun m v hv => by rw [runs_get, List.getElem?_take] at hv; split at hv <;> simp at hv; obtain ⟨x, hx, rfl⟩ := hv; rw [Nat.add_assoc]; exact H2.out.drew.rune hx⟩) (runs_one _) ?_; intro w6 hs6 ho6; rw [runs_splice] at hs6; have hm := H2.out.drew.turned (splice b.g.B s ((b.g.B.drop e).take (i - s))) (splice_len _ _ _ (by have := HF.out; have := HN.out; have := HK.out; rw [List.length_take, List.length_drop]; omega)) (by unfold RunSl; rw [splice_len _ _ _ (by have := HF.out; have := HN.out; have := HK.out; rw [List.length_take, List.length_drop]; omega)]; exact hs6) ho6; have HM := hide hm; have HM2 := hide (show w6.cell? ⟨b.tb, 0, none⟩ = some (.slice (some ⟨b.bb, b.bo, none⟩) n bc) ∧ w6.cell? ⟨b.tb, 1, none⟩ = some (.int .i64 (s : Int)) ∧ w6.cell? ⟨b.tb, 2, none⟩ = some (.int .i64 (e : Int)) from by have := hm.mvS; unfold MvS Gb.bv at this; simp only at this; rwa [splice_len _ _ _ (by have := HF.out; have := HN.out; have := HK.out; rw [List.length_take, List.length_drop]; omega), ← HN.out, ← HS.out, ← HE.out, ← HBC.out] at this); clear hm hs6 ho6))
      all_goals (go_wp2_with fail; go_meet; exact HM.out)
    case rest =>
      have H6 := hide hcut
      have x1 := hcut.c1
      have x2 := hcut.c2
      have f1 := hcut.blk.frozen 1
      have f2 := hcut.blk.frozen 2
      have HB := hide (show (splice b.g.B s ((b.g.B.drop e).take (i - s))).length = b.g.B.length from splice_len _ _ _ (by have := HF.out; have := HN.out; have := HK.out; rw [List.length_take, List.length_drop]; omega))
      have HEN := hide (H6.out.ends i k (by have := HK.out; omega) (by show k ≤ (splice b.g.B s ((b.g.B.drop e).take (i - s))).length; rw [HB.out]; have := HF.out; have := HN.out; omega))
      clear hcut
      simp only at x1 x2
      go_wp2
      refine bodyPost_end (results_none rfl _ _ _) rfl ?_
      refine ⟨rfl, _, ?_, HB.out, ?_⟩
      · rw [← HE.out, ← HS.out, ← HK.out]
        exact HEN.out
      · rw [← HE.out, ← HS.out, HPL.out.2]
        show _ = b.g.B.take b.g.st ++ b.g.B.drop b.g.en
        rw [← HE.out, ← HS.out]
end
end Go.Proofs.YtnbhejbpofjamaaGreatDoor
namespace Go.Proofs.YtnbhejbpofjamaaGreatDoor
open Go.RowKit

theorem info_int32 : (Tryz.prog.info? 21).map (fun i => (i.zero, i.size, i.bytes)) = some (some (.int .i32 0), 1, 4) := by kernel_rfl
theorem made_runs (n : Nat) : madeCells (Value.int .i32 0).cells n = (runs (List.replicate n 0)).toArray := by
  apply Array.ext'
  rw [show (Value.int .i32 0).cells = #[Value.int .i32 0] from rfl, toList_madeCells_one]
  simp [runs, List.map_replicate]
theorem make_runes (n : Nat) (h : n ≤ 1000000) (w : World) : (Instr.makeSlice 162 (.int .i64 (n : Int)) (.int .i64 (n : Int))).run Tryz.prog w = .ok (.slice (some ⟨w.heap.size, 0, none⟩) n n) (w.alloc (.cells (runs (List.replicate n 0)).toArray 21)) := by
  obtain ⟨i0, hi, hz0, hz1, hz2⟩ := info_parts info_int32
  have := run_makeSlice (P := Tryz.prog) w 162 21 i0 (.int .i32 0) Tryz.underlying162 hi hz0 .i64 .i64 (n : Int) (n : Int) (by omega) (by omega) (by rw [hz1]; simp; omega) (by rw [hz2]; omega) (by omega)
  rw [this, hz1, Int.toNat_natCast, Nat.mul_one, made_runs]
section
variable {W w w' : World} {b : Gb} {L : List Nat} {R : Heap}
theorem GapAt.turnR {g : Nat} {a a' : Ast} (h : GapAt W w b ((g, a) :: R)) (ho : Only (· = g) w w') (hb : Holds w' g a') : GapAt W w' b ((g, a') :: R) := by
  have h1 := (h.own.perm (R := (g, a) :: (b.heap ++ R)) List.perm_middle).turn ho hb
  exact ⟨h1.perm List.perm_middle.symm, h.okf, h.le1, h.le2, h.lim⟩
theorem GapAt.newRow (h : GapAt W w b R) (B : List Nat) (hm : B.length ≤ maxLen) : GapAt W (w.alloc (.cells (runs B).toArray 21)) b ((w.heap.size, .row 21 1 (.slice (some ⟨w.heap.size, 0, none⟩) B.length B.length) B.length (runs B)) :: R) := by
  have hs : Sl (w.alloc (.cells (runs B).toArray 21)) 21 1 (.slice (some ⟨w.heap.size, 0, none⟩) B.length B.length) B.length (runs B) := by
    have := Sl.new w 21 1 (runs B).toArray B.length B.length (Nat.le_refl _) hm (by simp [runs_size])
    rw [Nat.mul_one, List.toList_toArray, List.take_of_length_le (by rw [runs_size]; exact Nat.le_refl _)] at this
    exact this
  have h1 := h.own.new (.cells (runs B).toArray 21) (a := .row 21 1 (.slice (some ⟨w.heap.size, 0, none⟩) B.length B.length) B.length (runs B)) ⟨rfl, hs⟩
  exact ⟨h1.perm List.perm_middle.symm, h.okf, h.le1, h.le2, h.lim⟩
/-- The new row takes the old one's place. -/
theorem GapAt.moved {g : Nat} {B : List Nat} {en : Nat} (h : GapAt W w b ((g, .row 21 1 (.slice (some ⟨g, 0, none⟩) B.length B.length) B.length (runs B)) :: R)) (h1 : b.g.st ≤ en) (h2 : en ≤ B.length) (h3 : B.length ≤ 131104) :
    GapAt W ((w.setCell ⟨b.tb, 0, none⟩ (.slice (some ⟨g, 0, none⟩) B.length B.length)).setCell ⟨b.tb, 2, none⟩ (.int .i64 (en : Int))) ⟨b.tb, g, 0, B.length, b.fv, ⟨B, b.g.st, en, b.g.F⟩⟩ R := by
  have k0 := h.own
  unfold Gb.heap at k0
  have k1 : Own W w ((b.tb, .cells 164 (gapCells b)) :: (g, .row 21 1 (.slice (some ⟨g, 0, none⟩) B.length B.length) B.length (runs B)) :: (rowOf 3 1 b.fv b.g.F.length (ints b.g.F) ++ R)) := by
    refine (k0.perm (R := (b.bb, .row 21 1 b.bv b.g.B.length (runs b.g.B)) :: ((b.tb, .cells 164 (gapCells b)) :: (g, .row 21 1 (.slice (some ⟨g, 0, none⟩) B.length B.length) B.length (runs B)) :: (rowOf 3 1 b.fv b.g.F.length (ints b.g.F) ++ R))) ?_).tail
    classical
    rw [List.perm_iff_count]
    intro x
    simp only [List.count_append, List.count_cons]
    omega
  exact ⟨(Own.setCell k1 0 _).setCell 2 (.int .i64 (en : Int)), h.okf, h1, h2, h3⟩
/-- What grow leaves. -/
def GrowRes (W : World) (b : Gb) (n : Nat) (R : Heap) (e : Ending) (w' : World) : Prop :=
  e = .returned (.tuple #[]) ∧ ∃ b', b'.tb = b.tb ∧ b'.fv = b.fv ∧ b'.g.F = b.g.F ∧ GapAt W w' b' R ∧ b'.g.st = b.g.st ∧ n ≤ b'.g.en - b'.g.st ∧ b'.g.chars = b.g.chars
set_option maxRecDepth 100000 in
set_option maxHeartbeats 4000000 in
theorem grow_any (h : GapAt W w b R) (n : Nat) (hn : b.g.chars.length + n ≤ 65536) : Calls Tryz.prog 164 #[.pointer (some ⟨b.tb, 0, none⟩), .int .i64 (n : Int)] w (GrowRes W b n R) := by
  have H := hide h
  have c0 := h.c0
  have c1 := h.c1
  have c2 := h.c2
  have h1 := h.le1
  have h2 := h.le2
  have h3 := h.lim
  have hlen := b.g.len h1 h2
  obtain ⟨hcp1, hcp2⟩ := h.cap
  unfold maxLen at hcp2
  obtain ⟨n0, hn0⟩ : ∃ n0, n0 = b.g.B.length := ⟨_, rfl⟩
  obtain ⟨s, hs⟩ : ∃ s, s = b.g.st := ⟨_, rfl⟩
  obtain ⟨e, he⟩ : ∃ e, e = b.g.en := ⟨_, rfl⟩
  obtain ⟨bc, hbc⟩ : ∃ bc, bc = b.bc := ⟨_, rfl⟩
  have HN := hide hn0
  have HS := hide hs
  have HE := hide he
  have HBC := hide hbc
  unfold Gb.bv at c0
  rw [← hn0, ← hbc] at c0
  rw [← hn0] at h2 h3 hcp1 hlen
  rw [← hbc] at hcp1 hcp2
  rw [← hs] at c1 h1 hlen
  rw [← he] at c2 h1 h2 hlen
  have hw1 : IntKind.i64.wrap ((e : Int) - (s : Int)) = (e : Int) - (s : Int) := IntWalk.i64_in _ (by omega)
  have HMV := hide (fun (X : Heap) w' (h' : GapAt W w' b X) => (show w'.cell? ⟨b.tb, 0, none⟩ = some (.slice (some ⟨b.bb, b.bo, none⟩) n0 bc) ∧ w'.cell? ⟨b.tb, 1, none⟩ = some (.int .i64 (s : Int)) ∧ w'.cell? ⟨b.tb, 2, none⟩ = some (.int .i64 (e : Int)) from by
    have := h'.mvS
    unfold MvS Gb.bv at this
    rwa [← hn0, ← hs, ← he, ← hbc] at this))
  clear h hn0 hs he hbc
  have hnb : n ≤ 65536 := by omega
  by_cases hge : n ≤ e - s
  · have z1 : decide ((n : Int) ≤ (e : Int) - (s : Int)) = true := by simp; omega
    have HG := hide hge
    clear hge hn hlen
    go_enter Tryz.func164, Tryz.ntmps164
    go_wp2
    go_quiet (fail)
    go_wp2
    refine bodyPost_end (results_none rfl _ _ _) rfl ?_
    exact ⟨rfl, b, rfl, rfl, rfl, H.out.drewN nq, rfl, by rw [← HE.out, ← HS.out]; exact HG.out, rfl⟩
  · have z1 : decide ((n : Int) ≤ (e : Int) - (s : Int)) = false := by simp; omega
    obtain ⟨m, hm⟩ : ∃ m, m = n - (e - s) + n0 / 2 + 16 := ⟨_, rfl⟩
    have HM := hide hm
    have HF := hide (And.intro h1 (And.intro h2 (And.intro h3 (And.intro hn (And.intro hlen hge)))))
    go_enter Tryz.func164, Tryz.ntmps164
    go_wp2
    go_quiet (fail)
    have H2 := hide (H.out.drewN nq)
    obtain ⟨c0, c1, c2⟩ := HMV.out _ _ H2.out
    generalize w.drewN nq = w2 at *
    go_upto_region 2 with fail
    go_cut [5] (fun v wx => v = .int .i64 (m : Int) ∧ wx = w2)
    case first =>
      go_wp2_with fail
      go_meet
      exact ⟨by rw [show ((m : Nat) : Int) = (n : Int) - ((e : Int) - (s : Int)) + (n0 : Int) / 2 + 16 by omega], rfl⟩
    case rest =>
      obtain ⟨rfl, hww⟩ := hcut
      obtain rfl : w2 = wc := hww.symm
      clear c1 c2
      obtain ⟨N, hN⟩ : ∃ N, N = n0 + m := ⟨_, rfl⟩
      have HNN := hide hN
      have hNb : N ≤ 131104 := by omega
      have hmk := make_runes N (by omega) w2
      rw [hN, show (((n0 + m : Nat)) : Int) = (n0 : Int) + (m : Int) by omega] at hmk
      have hmb : m ≤ 200000 := by omega
      clear hN hm h1 h2 hlen hge hn
      go_upto_region 4 with fail
      have H3 := hide (H2.out.newRow (List.replicate (n0 + m) 0) (by rw [List.length_replicate]; unfold maxLen; have := HNN.out; omega))
      obtain ⟨gN, hgN⟩ : ∃ gN, gN = w2.heap.size := ⟨_, rfl⟩
      rw [← hgN] at H3 ⊢
      rw [List.length_replicate] at H3
      clear hmk c0 hgN
      generalize w2.alloc (.cells (runs (List.replicate (n0 + m) 0)).toArray 21) = w3 at *
      obtain ⟨Z, hZ⟩ : ∃ Z, Z = List.replicate (n0 + m) 0 := ⟨_, rfl⟩
      have HZ := hide (show Z.length = n0 + m by rw [hZ]; simp)
      rw [← hZ] at H3
      clear hZ
      have hs0 : (0 : Int) ≤ (s : Int) := by omega
      have hs1 : (s : Int) ≤ (bc : Int) := by have := HF.out; omega
      go_cut [] (fun wx => GapAt W wx b ((gN, .row 21 1 (.slice (some ⟨gN, 0, none⟩) (n0 + m) (n0 + m)) (n0 + m) (runs (splice Z 0 (b.g.B.take s)))) :: R))
      case first =>
        go_region_held3 (fun w' => w'.cell? ⟨b.tb, 0, none⟩ = some (.slice (some ⟨b.bb, b.bo, none⟩) n0 bc) ∧ w'.cell? ⟨b.tb, 1, none⟩ = some (.int .i64 (s : Int)) ∧ w'.cell? ⟨b.tb, 2, none⟩ = some (.int .i64 (e : Int)))
          (first | exact HMV.out _ _ H3.out.drew | exact HM2.out)
          ((refine step_copy_sl rfl (.tmp 38) (.tmp 47) 162 162 rfl 21 Tryz.underlying162 size_int32 (T := 21) (g := gN) (off := 0) (n := n0 + m) (c := n0 + m) (xs := runs Z) (H3.out.drew.own.row (g := gN) (by simp)).2 0 _ _ _ _ _ _ rfl rfl (runs (b.g.B.take s)) (by have := HF.out; have := HN.out; rw [runs_size, List.length_take]; show _ = min _ _; omega) (by have := HF.out; have := HN.out; rw [runs_size, List.length_take]; omega) (fun _ => ⟨rfl, _, _, rfl, fun j v hv => by rw [runs_get, List.getElem?_take] at hv; split at hv <;> simp at hv; obtain ⟨x, hx, rfl⟩ := hv; exact H3.out.drew.rune hx⟩) (runs_one _) ?_; intro w6 hs6 ho6; rw [runs_splice] at hs6; have hm := H3.out.drew.turnR (a' := .row 21 1 (.slice (some ⟨gN, 0, none⟩) (n0 + m) (n0 + m)) (n0 + m) (runs (splice Z 0 (b.g.B.take s)))) ho6 ⟨rfl, hs6⟩; have H4 := hide hm; have HM2 := hide (HMV.out _ _ hm); clear hm hs6 ho6))
        all_goals (go_wp2_with fail; go_meet; exact H4.out)
      case rest =>
        have H4 := hide hcut
        clear hcut H3
        have he0 : (0 : Int) ≤ (e : Int) := by omega
        have he1 : (e : Int) ≤ (n0 : Int) := by have := HF.out; omega
        have he2 : (e : Int) ≤ (bc : Int) := by omega
        have hw5 : IntKind.i64.wrap ((e : Int) + (m : Int)) = (e : Int) + (m : Int) := IntWalk.i64_in _ (by have := HF.out; omega)
        have he3 : (0 : Int) ≤ (e : Int) + (m : Int) := by omega
        have he4 : (e : Int) + (m : Int) ≤ (n0 : Int) + (m : Int) := by omega
        have HY := hide (show (splice Z 0 (b.g.B.take s)).length = n0 + m by rw [splice_len _ _ _ (by have := HF.out; have := HN.out; have := HZ.out; rw [List.length_take]; omega)]; exact HZ.out)
        obtain ⟨Y, hY⟩ : ∃ Y, Y = splice Z 0 (b.g.B.take s) := ⟨_, rfl⟩
        rw [← hY] at H4 HY
        have HYY := hide hY
        clear hY
        go_upto_region 5 with fail
        go_cut [] (fun wx => GapAt W wx b ((gN, .row 21 1 (.slice (some ⟨gN, 0, none⟩) (n0 + m) (n0 + m)) (n0 + m) (runs (splice Y (e + m) (b.g.B.drop e)))) :: R))
        case first =>
          by_cases hen : n0 = e
          · subst hen
            by_cases hbn : bc = n0
            · subst hbn
              go_region_held3 (fun w' => w'.cell? ⟨b.tb, 0, none⟩ = some (.slice (some ⟨b.bb, b.bo, none⟩) bc bc) ∧ w'.cell? ⟨b.tb, 1, none⟩ = some (.int .i64 (s : Int)) ∧ w'.cell? ⟨b.tb, 2, none⟩ = some (.int .i64 (bc : Int)))
                (first | exact HMV.out _ _ H4.out.drew | exact HM2.out)
                ((refine step_copy_sl rfl (.tmp 56) (.tmp 65) 162 162 rfl 21 Tryz.underlying162 size_int32 (T := 21) (g := gN) (off := 0) (n := bc + m) (c := bc + m) (xs := runs Y) (H4.out.drew.own.row (g := gN) (by simp)).2 (bc + m) _ _ _ _ _ _ rfl rfl (runs (b.g.B.drop bc)) (by have := HF.out; have := HN.out; rw [runs_size, List.length_drop]; show _ = min _ _; omega) (by have := HF.out; have := HN.out; rw [runs_size, List.length_drop]; omega) (fun h => absurd h (by have := HN.out; rw [runs_size, List.length_drop]; omega)) (runs_one _) ?_; intro w6 hs6 ho6; rw [runs_splice] at hs6; have hm := H4.out.drew.turnR (a' := .row 21 1 (.slice (some ⟨gN, 0, none⟩) (bc + m) (bc + m)) (bc + m) (runs (splice Y (bc + m) (b.g.B.drop bc)))) ho6 ⟨rfl, hs6⟩; have H5 := hide hm; have HM2 := hide (HMV.out _ _ hm); clear hm hs6 ho6))
              all_goals (go_wp2_with fail; go_meet; exact H5.out)
            · have hbn2 : ¬ n0 = bc := fun h => hbn h.symm
              go_region_held3 (fun w' => w'.cell? ⟨b.tb, 0, none⟩ = some (.slice (some ⟨b.bb, b.bo, none⟩) n0 bc) ∧ w'.cell? ⟨b.tb, 1, none⟩ = some (.int .i64 (s : Int)) ∧ w'.cell? ⟨b.tb, 2, none⟩ = some (.int .i64 (n0 : Int)))
                (first | exact HMV.out _ _ H4.out.drew | exact HM2.out)
                ((refine step_copy_sl rfl (.tmp 56) (.tmp 65) 162 162 rfl 21 Tryz.underlying162 size_int32 (T := 21) (g := gN) (off := 0) (n := n0 + m) (c := n0 + m) (xs := runs Y) (H4.out.drew.own.row (g := gN) (by simp)).2 (n0 + m) _ _ _ _ _ _ rfl rfl (runs (b.g.B.drop n0)) (by have := HF.out; have := HN.out; rw [runs_size, List.length_drop]; show _ = min _ _; omega) (by have := HF.out; have := HN.out; rw [runs_size, List.length_drop]; omega) (fun h => absurd h (by have := HN.out; rw [runs_size, List.length_drop]; omega)) (runs_one _) ?_; intro w6 hs6 ho6; rw [runs_splice] at hs6; have hm := H4.out.drew.turnR (a' := .row 21 1 (.slice (some ⟨gN, 0, none⟩) (n0 + m) (n0 + m)) (n0 + m) (runs (splice Y (n0 + m) (b.g.B.drop n0)))) ho6 ⟨rfl, hs6⟩; have H5 := hide hm; have HM2 := hide (HMV.out _ _ hm); clear hm hs6 ho6))
              all_goals (go_wp2_with fail; go_meet; exact H5.out)
          · have hen2 : ¬ e = n0 := fun h => hen h.symm
            have hbe : ¬ bc = e := by have := HF.out; omega
            have ht : ((e : Int) + (m : Int)).toNat = e + m := by omega
            have ht2 : ¬ n0 + m = e + m := by omega
            go_region_held3 (fun w' => w'.cell? ⟨b.tb, 0, none⟩ = some (.slice (some ⟨b.bb, b.bo, none⟩) n0 bc) ∧ w'.cell? ⟨b.tb, 1, none⟩ = some (.int .i64 (s : Int)) ∧ w'.cell? ⟨b.tb, 2, none⟩ = some (.int .i64 (e : Int)))
              (first | exact HMV.out _ _ H4.out.drew | exact HM2.out)
              ((refine step_copy_sl rfl (.tmp 56) (.tmp 65) 162 162 rfl 21 Tryz.underlying162 size_int32 (T := 21) (g := gN) (off := 0) (n := n0 + m) (c := n0 + m) (xs := runs Y) (H4.out.drew.own.row (g := gN) (by simp)).2 (e + m) _ _ _ _ _ _ rfl rfl (runs (b.g.B.drop e)) (by have := HF.out; have := HN.out; rw [runs_size, List.length_drop]; show _ = min _ _; omega) (by have := HF.out; have := HN.out; rw [runs_size, List.length_drop]; omega) (fun _ => ⟨by rw [Nat.zero_add], _, _, rfl, fun j v hv => by rw [runs_get, List.getElem?_drop] at hv; obtain ⟨x, hx, rfl⟩ := Option.map_eq_some_iff.1 hv; rw [Nat.add_assoc]; exact H4.out.drew.rune hx⟩) (runs_one _) ?_; intro w6 hs6 ho6; rw [runs_splice] at hs6; have hm := H4.out.drew.turnR (a' := .row 21 1 (.slice (some ⟨gN, 0, none⟩) (n0 + m) (n0 + m)) (n0 + m) (runs (splice Y (e + m) (b.g.B.drop e)))) ho6 ⟨rfl, hs6⟩; have H5 := hide hm; have HM2 := hide (HMV.out _ _ hm); clear hm hs6 ho6))
            all_goals (go_wp2_with fail; go_meet; exact H5.out)
        case rest =>
          have H5 := hide hcut
          have x2 := hcut.c2
          rw [← HE.out] at x2
          have x0 := hcut.c0
          have f0 := hcut.blk.frozen 0
          have f2 := hcut.blk.frozen 2
          have HB5 := hide (show (splice Y (e + m) (b.g.B.drop e)).length = n0 + m by rw [splice_len _ _ _ (by have := HF.out; have := HN.out; have := HY.out; rw [List.length_drop]; omega)]; exact HY.out)
          have hmv := GapAt.moved (B := splice Y (e + m) (b.g.B.drop e)) (en := e + m) (g := gN) (b := b) (W := W) (w := wc) (R := R) (by rw [HB5.out]; exact hcut) (by rw [← HS.out]; have := HF.out; omega) (by rw [HB5.out]; have := HF.out; omega) (by rw [HB5.out]; have := HNN.out; omega)
          rw [HB5.out] at hmv
          rw [show ((e + m : Nat) : Int) = (e : Int) + (m : Int) by omega] at hmv
          have HMV2 := hide hmv
          clear hcut hmv
          go_wp2
          refine bodyPost_end (results_none rfl _ _ _) rfl ?_
          refine ⟨rfl, ⟨b.tb, gN, 0, n0 + m, b.fv, ⟨splice Y (e + m) (b.g.B.drop e), b.g.st, e + m, b.g.F⟩⟩, rfl, rfl, rfl, HMV2.out, rfl, ?_, ?_⟩
          · show n ≤ e + m - b.g.st
            rw [← HS.out]
            have := HM.out
            have := HF.out
            omega
          · show (splice Y (e + m) (b.g.B.drop e)).take b.g.st ++ (splice Y (e + m) (b.g.B.drop e)).drop (e + m) = b.g.B.take b.g.st ++ b.g.B.drop b.g.en
            rw [← HS.out, ← HE.out, HYY.out]
            exact grow_eq (by have := HF.out; omega) (by rw [← HN.out]; have := HF.out; omega) (by rw [HZ.out, HN.out])
end
end Go.Proofs.YtnbhejbpofjamaaGreatDoor
