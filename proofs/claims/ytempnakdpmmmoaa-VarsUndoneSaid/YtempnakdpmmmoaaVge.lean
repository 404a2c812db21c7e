/- Variables: check, scopes, marks, Get, Default, Local at any arguments. No condition but those written. -/
import Derived.Test.YtempnakdpmmmoaaVgd
namespace Go.Proofs.Ytempnakdpmmmoaa
open Go.RowKit
attribute [local go_sem] neq_cells eql_cells

section
variable {W w w' : World} {b : Vb} {s : Vst} {R : Heap}
def chkV (n : Int) : Int := if varN n then 0 else 8
theorem check_any (h : VarsAt W w b s R) (n : Int) : Calls Try.prog 40 #[.pointer (some ⟨b.vb, 0, none⟩), .int .i64 n] w fun e w' => e = .returned (.int .i64 (chkV n)) ∧ w = w' := by
  unfold chkV
  by_cases hn : varN n
  · rw [if_pos hn]; exact check_ok h n hn
  · rw [if_neg hn]; exact check_unknown h n hn
theorem scoped_any (k : Int) (w : World) : Calls Try.prog 41 #[.int .i64 k] w fun e w' => e = .returned (.bool (decide (scpK k))) ∧ w = w' := by
  by_cases hk : scpK k
  · rw [decide_eq_true hk]; exact scoped_ok k hk w
  · rw [decide_eq_false hk]
    by_cases h0 : 1 ≤ k
    · have h1 : decide (1 ≤ k) = true := by simpa using h0
      have h2 : decide (k ≤ 65536) = false := by unfold scpK at hk; simp; omega
      clear hk h0
      go_enter Try.func41, Try.ntmps41
      go_wp2
      go_ret
      exact ⟨rfl, rfl⟩
    · have h1 : decide (1 ≤ k) = false := by simpa using h0
      clear hk h0
      go_enter Try.func41, Try.ntmps41
      go_wp2
      go_ret
      exact ⟨rfl, rfl⟩
def scpE (k : Int) : Int := if k = 0 ∨ scpK k then 0 else 3
set_option maxRecDepth 100000 in
set_option maxHeartbeats 1000000 in
theorem setscope_bad (h : VarsAt W w b s R) (k : Int) (hk : ¬ (k = 0 ∨ scpK k)) : Calls Try.prog 16 #[.pointer (some ⟨b.vb, 0, none⟩), .int .i64 k] w
    fun r w' => r = .returned (.int .i64 3) ∧ w = w' := by
  have HM := hide (made_any h)
  have HC := hide (scoped_any k w)
  rw [decide_eq_false fun e => hk (.inr e)] at HC
  have hz : (k != 0) = true := by simpa using fun e => hk (.inl e)
  have hz1 : ¬ k = 0 := fun e => hk (.inl e)
  clear h hk
  go_enter Try.func16, Try.ntmps16
  go_wp2_with fail
  refine (Calls.mono (HM.out)) ?_
  rintro e w2 ⟨rfl, rfl⟩
  go_wp2_with fail
  refine (Calls.mono (HC.out)) ?_
  rintro e w2 ⟨rfl, rfl⟩
  go_wp2
  go_ret
  exact ⟨rfl, rfl⟩
theorem mark_val (s : Vst) (n : Int) (c : Bool) : Value.int .u8 (bits BinOp.or IntKind.u8 (markN (fndM s.marks n)) (if c then 3 else 1)) = markV (c || fndM s.marks n == some true) := by
  rcases fndM s.marks n with _ | _ | _ <;> cases c <;> rfl
def Vst.mark (s : Vst) (n : Int) (c : Bool) : Vst := s.withMarks (putM s.marks n (c || fndM s.marks n == some true))
set_option maxRecDepth 100000 in
set_option maxHeartbeats 1000000 in
theorem markspecial_ok (h : VarsAt W w b s R) (n : Int) (hn : varN n) : Calls Try.prog 45 #[.pointer (some ⟨b.vb, 0, none⟩), .int .i64 n] w
    fun r w' => r = .returned (.int .i64 0) ∧ VarsAt W w' b (s.mark n false) R := by
  have HC := check_ok h n hn
  have c2 : w.cell? ⟨b.vb, 2, none⟩ = some (.map (some b.mb)) := by rw [h.vb.cell]; rfl
  have hl := marks_look h n
  obtain ⟨w5, hr5, hm5, ho5⟩ := (h.mb).update (P := Try.prog) (mark_keys s.marks) Try.underlying54 Try.underlying3 (.int _ n) (.int .u8 (bits BinOp.or IntKind.u8 (markN (fndM s.marks n)) 1))
  rw [show Value.int .u8 (bits BinOp.or IntKind.u8 (markN (fndM s.marks n)) 1) = _ from mark_val s n false, putM_pairs] at hm5
  have HS := hide (h.remark ho5 hm5)
  have HC := hide HC
  generalize markN (fndM s.marks n) = x at *
  clear h hn hm5 ho5
  go_enter Try.func45, Try.ntmps45
  go_wp2_with fail
  refine (Calls.mono (HC.out)) ?_
  rintro e w2 ⟨rfl, rfl⟩
  go_wp2
  go_ret
  exact ⟨rfl, HS.out⟩
set_option maxRecDepth 100000 in
set_option maxHeartbeats 1000000 in
theorem markconst_ok (h : VarsAt W w b s R) (n : Int) (hn : varN n) : Calls Try.prog 17 #[.pointer (some ⟨b.vb, 0, none⟩), .int .i64 n] w
    fun r w' => r = .returned (.int .i64 0) ∧ VarsAt W w' b (s.mark n true) R := by
  have HC := check_ok h n hn
  have c2 : w.cell? ⟨b.vb, 2, none⟩ = some (.map (some b.mb)) := by rw [h.vb.cell]; rfl
  have hl := marks_look h n
  obtain ⟨w5, hr5, hm5, ho5⟩ := (h.mb).update (P := Try.prog) (mark_keys s.marks) Try.underlying54 Try.underlying3 (.int _ n) (.int .u8 (bits BinOp.or IntKind.u8 (markN (fndM s.marks n)) 3))
  rw [show Value.int .u8 (bits BinOp.or IntKind.u8 (markN (fndM s.marks n)) 3) = _ from mark_val s n true, putM_pairs] at hm5
  have HS := hide (h.remark ho5 hm5)
  have HC := hide HC
  generalize markN (fndM s.marks n) = x at *
  clear h hn hm5 ho5
  go_enter Try.func17, Try.ntmps17
  go_wp2_with fail
  refine (Calls.mono (HC.out)) ?_
  rintro e w2 ⟨rfl, rfl⟩
  go_wp2
  go_ret
  exact ⟨rfl, HS.out⟩
set_option maxRecDepth 100000 in
set_option maxHeartbeats 1000000 in
theorem mark_bad (h : VarsAt W w b s R) (n : Int) (hn : ¬ varN n) : (Calls Try.prog 45 #[.pointer (some ⟨b.vb, 0, none⟩), .int .i64 n] w
    fun r w' => r = .returned (.int .i64 8) ∧ w = w') ∧ Calls Try.prog 17 #[.pointer (some ⟨b.vb, 0, none⟩), .int .i64 n] w
    fun r w' => r = .returned (.int .i64 8) ∧ w = w' := by
  have HC := hide (check_unknown h n hn)
  clear h hn
  constructor
  · go_enter Try.func45, Try.ntmps45
    go_wp2_with fail
    refine (Calls.mono (HC.out)) ?_
    rintro e w2 ⟨rfl, rfl⟩
    go_wp2
    go_ret
    exact ⟨rfl, rfl⟩
  · go_enter Try.func17, Try.ntmps17
    go_wp2_with fail
    refine (Calls.mono (HC.out)) ?_
    rintro e w2 ⟨rfl, rfl⟩
    go_wp2
    go_ret
    exact ⟨rfl, rfl⟩
def Cel.res (c : Cel) : Value := .tuple #[.agg #[.int .i64 c.k, .int .i64 c.n], .bool c.b]
set_option maxRecDepth 100000 in
set_option maxHeartbeats 1000000 in
theorem get_bad (h : VarsAt W w b s R) (n : Int) (hn : ¬ varN n) : Calls Try.prog 13 #[.pointer (some ⟨b.vb, 0, none⟩), .int .i64 n] w
    fun r w' => r = .returned (.tuple #[.agg #[.int .i64 0, .int .i64 0], .bool false]) ∧ Below w.heap.size w w' := by
  have h1 := h.box 29 #[.int .i64 0, .int .i64 0]
  have HC := hide (check_unknown h1 n hn)
  have b3 := h1.own.blk (g := w.heap.size) (t := 29) (cs := #[.int .i64 0, .int .i64 0]) (by simp)
  have l0 : (w.alloc (.cells #[.int .i64 0, .int .i64 0] 29)).cell? ⟨w.heap.size, 0, none⟩ = some (.int .i64 0) := b3.cell 0
  have l1 : (w.alloc (.cells #[.int .i64 0, .int .i64 0] 29)).cell? ⟨w.heap.size, 1, none⟩ = some (.int .i64 0) := b3.cell 1
  have p0 := b3.frozen 0
  have p1 := b3.frozen 1
  have HK := hide ((b3.set_ 0 (.int .i64 0)).set_ 1 (.int .i64 0))
  have HB := hide ((((Below.refl _ w).alloc (Nat.le_refl _) (.cells #[.int .i64 0, .int .i64 0] 29)).setCell (p := ⟨w.heap.size, 0, none⟩) (Nat.le_refl _) (.int .i64 0)).setCell (p := ⟨w.heap.size, 1, none⟩) (Nat.le_refl _) (.int .i64 0))
  clear h h1 hn b3
  go_enter Try.func13, Try.ntmps13
  go_wp2_with fail
  refine (Calls.mono (HC.out)) ?_
  rintro e w2 ⟨rfl, rfl⟩
  generalize w.alloc (.cells #[.int .i64 0, .int .i64 0] 29) = w1 at *
  go_wp2
  refine bodyPost_ret (v := .tuple #[.agg #[.int .i64 0, .int .i64 0], .bool false]) ?_ rfl ⟨rfl, HB.out⟩
  rw [results_cell_tmp rfl]
  show ((loadVar 29 ⟨w.heap.size, 0, none⟩).run Try.prog _).andThen _ = _
  rw [run_loadVar_row _ w.heap.size 29 29 #[.int .i64 0, .int .i64 0] (0, 0) _ HK.out Try.underlying29 rfl (by kernel_rfl)]
  rfl
set_option maxRecDepth 100000 in
set_option maxHeartbeats 1000000 in
theorem local_none (h : VarsAt W w b s R) (n k : Int) (he : s.lcl k n = none) : Calls Try.prog 25 #[.pointer (some ⟨b.vb, 0, none⟩), .int .i64 n, .int .i64 k] w
    fun r w' => r = .returned (.tuple #[.agg #[.int .i64 0, .int .i64 0], .bool false]) ∧ Below w.heap.size w w' := by
  have h1 := h.box 29 #[.int .i64 0, .int .i64 0]
  have HC := hide (islocal_any h1 n k)
  rw [he] at HC
  have b3 := h1.own.blk (g := w.heap.size) (t := 29) (cs := #[.int .i64 0, .int .i64 0]) (by simp)
  have l0 : (w.alloc (.cells #[.int .i64 0, .int .i64 0] 29)).cell? ⟨w.heap.size, 0, none⟩ = some (.int .i64 0) := b3.cell 0
  have l1 : (w.alloc (.cells #[.int .i64 0, .int .i64 0] 29)).cell? ⟨w.heap.size, 1, none⟩ = some (.int .i64 0) := b3.cell 1
  have p0 := b3.frozen 0
  have p1 := b3.frozen 1
  have HK := hide ((b3.set_ 0 (.int .i64 0)).set_ 1 (.int .i64 0))
  have HB := hide ((((Below.refl _ w).alloc (Nat.le_refl _) (.cells #[.int .i64 0, .int .i64 0] 29)).setCell (p := ⟨w.heap.size, 0, none⟩) (Nat.le_refl _) (.int .i64 0)).setCell (p := ⟨w.heap.size, 1, none⟩) (Nat.le_refl _) (.int .i64 0))
  clear h h1 he b3
  go_enter Try.func25, Try.ntmps25
  go_wp2_with fail
  refine (Calls.mono (HC.out)) ?_
  rintro e w2 ⟨rfl, rfl⟩
  generalize w.alloc (.cells #[.int .i64 0, .int .i64 0] 29) = w1 at *
  go_wp2
  refine bodyPost_ret (v := .tuple #[.agg #[.int .i64 0, .int .i64 0], .bool false]) ?_ rfl ⟨rfl, HB.out⟩
  rw [results_cell_tmp rfl]
  show ((loadVar 29 ⟨w.heap.size, 0, none⟩).run Try.prog _).andThen _ = _
  rw [run_loadVar_row _ w.heap.size 29 29 #[.int .i64 0, .int .i64 0] (0, 0) _ HK.out Try.underlying29 rfl (by kernel_rfl)]
  rfl
/-- Special and Const read the mark. -/
def spcV (s : Vst) (n : Int) : Bool := decide (varN n) && (fndM s.marks n).isSome
def cstV (s : Vst) (n : Int) : Bool := decide (varN n) && fndM s.marks n == some true
theorem bits_one (m : Option Bool) : (bits BinOp.and IntKind.u8 (markN m) 1 == 0) = !m.isSome := by rcases m with _ | _ | _ <;> rfl
set_option maxRecDepth 100000 in
set_option maxHeartbeats 1000000 in
theorem special_any (h : VarsAt W w b s R) (n : Int) : Calls Try.prog 18 #[.pointer (some ⟨b.vb, 0, none⟩), .int .i64 n] w fun e w' => e = .returned (.bool (spcV s n)) ∧ w = w' := by
  by_cases hn : varN n
  · have HC := hide (check_ok h n hn)
    have c2 : w.cell? ⟨b.vb, 2, none⟩ = some (.map (some b.mb)) := by rw [h.vb.cell]; rfl
    have hl := marks_look h n
    have HR : spcV s n = (fndM s.marks n).isSome := by unfold spcV; rw [decide_eq_true hn]; rfl
    rcases hm : fndM s.marks n with _ | _ | _
    all_goals
      rw [hm] at hl HR
      simp only [markN, Bool.false_eq_true, if_false, if_true] at hl
      have HR := hide HR
      clear h hm hn
      go_enter Try.func18, Try.ntmps18
      go_wp2_with fail
      refine (Calls.mono (HC.out)) ?_
      rintro e w2 ⟨rfl, rfl⟩
      go_wp2
      go_ret
      exact ⟨by rw [HR.out]; rfl, rfl⟩
  · have HC := hide (check_unknown h n hn)
    have HR := hide (show spcV s n = false by unfold spcV; rw [decide_eq_false hn]; rfl)
    clear h hn
    go_enter Try.func18, Try.ntmps18
    go_wp2_with fail
    refine (Calls.mono (HC.out)) ?_
    rintro e w2 ⟨rfl, rfl⟩
    go_wp2
    go_ret
    exact ⟨by rw [HR.out]; rfl, rfl⟩
set_option maxRecDepth 100000 in
set_option maxHeartbeats 1000000 in
theorem const_any (h : VarsAt W w b s R) (n : Int) : Calls Try.prog 19 #[.pointer (some ⟨b.vb, 0, none⟩), .int .i64 n] w fun e w' => e = .returned (.bool (cstV s n)) ∧ w = w' := by
  by_cases hn : varN n
  · have HC := hide (check_ok h n hn)
    have c2 : w.cell? ⟨b.vb, 2, none⟩ = some (.map (some b.mb)) := by rw [h.vb.cell]; rfl
    have hl := marks_look h n
    have HR : cstV s n = (fndM s.marks n == some true) := by unfold cstV; rw [decide_eq_true hn]; rfl
    rcases hm : fndM s.marks n with _ | _ | _
    all_goals
      rw [hm] at hl HR
      simp only [markN, Bool.false_eq_true, if_false, if_true] at hl
      have HR := hide HR
      clear h hm hn
      go_enter Try.func19, Try.ntmps19
      go_wp2_with fail
      refine (Calls.mono (HC.out)) ?_
      rintro e w2 ⟨rfl, rfl⟩
      go_wp2
      go_ret
      exact ⟨by rw [HR.out]; rfl, rfl⟩
  · have HC := hide (check_unknown h n hn)
    have HR := hide (show cstV s n = false by unfold cstV; rw [decide_eq_false hn]; rfl)
    clear h hn
    go_enter Try.func19, Try.ntmps19
    go_wp2_with fail
    refine (Calls.mono (HC.out)) ?_
    rintro e w2 ⟨rfl, rfl⟩
    go_wp2
    go_ret
    exact ⟨by rw [HR.out]; rfl, rfl⟩
end
end Go.Proofs.Ytempnakdpmmmoaa
