/- Scopes, marks, and what is refused at a constant. No condition but those written. -/
import Derived.Test.YtempnakdpmmmoaaVarSim
namespace Go.Proofs.Ytempnakdpmmmoaa
open Go.RowKit
attribute [local go_sem] neq_cells

def Vst.withScope (s : Vst) (k : Int) : Vst := { s with scope := k }
section
variable {W w w' : World} {b : Vb} {s : Vst} {R : Heap}
theorem VarsAt.rescope (h : VarsAt W w b s R) (k : Int) : VarsAt W (w.setCell ⟨b.vb, 4, none⟩ (.int .i64 k)) b (s.withScope k) R :=
  ⟨Own.setCell (L := (([(b.db, .map (entPairs s.defs)), (b.lb, .map (locPairs s.locs)), (b.mb, .map (markPairs s.marks))] : Heap) ++ (entHeap s.defs ++ (locHeap s.locs ++ (noteHeap s.notes ++ noteRow b s)))) ++ R) h.own 4 (.int .i64 k), h.sl.far (p := ⟨b.vb, 4, none⟩) (h.sl.ne_blk h.vb (by decide)) _⟩
theorem scoped_ok (k : Int) (hk : 1 ≤ k ∧ k ≤ 65536) (w : World) : Calls Try.prog 41 #[.int .i64 k] w fun e w' => e = .returned (.bool true) ∧ w = w' := by
  have h1 : decide (1 ≤ k) = true := by simp; omega
  have h2 : decide (k ≤ 65536) = true := by simp; omega
  go_enter Try.func41, Try.ntmps41
  go_wp2
  go_ret
  exact ⟨rfl, rfl⟩
theorem setscope_ok (h : VarsAt W w b s R) (k : Int) (hk : 1 ≤ k ∧ k ≤ 65536) : Calls Try.prog 16 #[.pointer (some ⟨b.vb, 0, none⟩), .int .i64 k] w
    fun r w' => r = .returned (.int .i64 0) ∧ VarsAt W w' b (s.withScope k) R := by
  have HM := hide (made_any h)
  have HC := hide (scoped_ok k hk)
  have HS := hide (h.rescope k)
  have hz : (k != 0) = true := by simp; omega
  have hz1 : ¬ k = 0 := by omega
  have c4 : w.cell? ⟨b.vb, 4, none⟩ = some (.int .i64 s.scope) := by rw [h.vb.cell]; rfl
  have f4 := h.vb.frozen 4
  have HK := hide hk
  clear h hk
  go_enter Try.func16, Try.ntmps16
  go_wp2_with fail
  refine (Calls.mono HM.out) ?_
  rintro e w2 ⟨rfl, rfl⟩
  go_wp2_with fail
  refine (Calls.mono (HC.out _)) ?_
  rintro e w2 ⟨rfl, rfl⟩
  go_wp2
  go_ret
  exact ⟨rfl, HS.out⟩
set_option maxRecDepth 100000 in
theorem markconst_new (h : VarsAt W w b s R) (n : Int) (hn : 0 ≤ n ∧ n < 16384) (hm : fndM s.marks n = none) : Calls Try.prog 17 #[.pointer (some ⟨b.vb, 0, none⟩), .int .i64 n] w
    fun r w' => r = .returned (.int .i64 0) ∧ VarsAt W w' b (s.withMarks (s.marks ++ [(n, true)])) R := by
  have HC := hide (check_ok h n hn)
  have c2 : w.cell? ⟨b.vb, 2, none⟩ = some (.map (some b.mb)) := by rw [h.vb.cell]; rfl
  have hl := (h.mb).lookup (P := Try.prog) (mark_keys s.marks) Try.underlying54 Try.underlying3 (.int _ n) (zero_u8 w) false
  rw [mark_get, hm] at hl
  simp only [Option.map_none, Option.getD_none, Bool.false_eq_true, if_false] at hl
  obtain ⟨w5, hr5, hm5, ho5⟩ := (h.mb).update (P := Try.prog) (mark_keys s.marks) Try.underlying54 Try.underlying3 (.int _ n) (.int .u8 (bits BinOp.or IntKind.u8 0 3))
  have hm6 : MapIs w5 b.mb (markPairs (s.marks ++ [(n, true)])) := by rw [← mark_put true s.marks hm]; exact hm5
  have HS := hide (h.remark ho5 hm6)
  clear h hm hn hm5 hm6 ho5
  go_enter Try.func17, Try.ntmps17
  go_wp2_with fail
  refine (Calls.mono HC.out) ?_
  rintro e w2 ⟨rfl, rfl⟩
  go_wp2
  go_ret
  exact ⟨rfl, HS.out⟩
theorem marks_const (h : VarsAt W w b s R) (n : Int) (hm : fndM s.marks n = some true) :
    (Instr.lookup 54 (.map (some b.mb)) (.int .i64 n) false).run Try.prog w = .ok (.int .u8 3) w := by
  have hl := (h.mb).lookup (P := Try.prog) (mark_keys s.marks) Try.underlying54 Try.underlying3 (.int _ n) (zero_u8 w) false
  rw [mark_get, hm] at hl
  exact hl
set_option maxRecDepth 100000 in
theorem change_const (h : VarsAt W w b s R) (n : Int) (hn : 0 ≤ n ∧ n < 16384) (hm : fndM s.marks n = some true) : Calls Try.prog 34 #[.pointer (some ⟨b.vb, 0, none⟩), .int .i64 n] w fun e w' => e = .returned (.int .i64 10) ∧ w = w' := by
  have HC := hide (check_ok h n hn)
  have c2 : w.cell? ⟨b.vb, 2, none⟩ = some (.map (some b.mb)) := by rw [h.vb.cell]; rfl
  have hl := marks_const h n hm
  clear h hm hn
  go_enter Try.func34, Try.ntmps34
  go_wp2_with fail
  refine (Calls.mono HC.out) ?_
  rintro e w2 ⟨rfl, rfl⟩
  go_wp2
  go_ret
  exact ⟨rfl, rfl⟩
set_option maxRecDepth 100000 in
theorem special_const (h : VarsAt W w b s R) (n : Int) (hn : 0 ≤ n ∧ n < 16384) (hm : fndM s.marks n = some true) : Calls Try.prog 18 #[.pointer (some ⟨b.vb, 0, none⟩), .int .i64 n] w fun e w' => e = .returned (.bool true) ∧ w = w' := by
  have HC := hide (check_ok h n hn)
  have c2 : w.cell? ⟨b.vb, 2, none⟩ = some (.map (some b.mb)) := by rw [h.vb.cell]; rfl
  have hl := marks_const h n hm
  clear h hm hn
  go_enter Try.func18, Try.ntmps18
  go_wp2_with fail
  refine (Calls.mono HC.out) ?_
  rintro e w2 ⟨rfl, rfl⟩
  go_wp2
  go_ret
  exact ⟨rfl, rfl⟩
set_option maxRecDepth 100000 in
theorem const_const (h : VarsAt W w b s R) (n : Int) (hn : 0 ≤ n ∧ n < 16384) (hm : fndM s.marks n = some true) : Calls Try.prog 19 #[.pointer (some ⟨b.vb, 0, none⟩), .int .i64 n] w fun e w' => e = .returned (.bool true) ∧ w = w' := by
  have HC := hide (check_ok h n hn)
  have c2 : w.cell? ⟨b.vb, 2, none⟩ = some (.map (some b.mb)) := by rw [h.vb.cell]; rfl
  have hl := marks_const h n hm
  clear h hm hn
  go_enter Try.func19, Try.ntmps19
  go_wp2_with fail
  refine (Calls.mono HC.out) ?_
  rintro e w2 ⟨rfl, rfl⟩
  go_wp2
  go_ret
  exact ⟨rfl, rfl⟩

/-! ### Refused -/
set_option maxRecDepth 100000 in
theorem set_const (h : VarsAt W w b s R) (n : Int) (hn : 0 ≤ n ∧ n < 16384) (hm : fndM s.marks n = some true) (k m : Int) : Calls Try.prog 15 #[.pointer (some ⟨b.vb, 0, none⟩), .int .i64 n, .agg #[.int .i64 k, .int .i64 m]] w
    fun r w' => r = .returned (.int .i64 10) ∧ Below w.heap.size w w' := by
  have HC := hide (change_const (h.skip (.cells #[.int .i64 k, .int .i64 m] 29)) n hn hm)
  clear h hm
  go_enter Try.func15, Try.ntmps15
  go_wp2_with fail
  refine (Calls.mono HC.out) ?_
  rintro e w2 ⟨rfl, rfl⟩
  go_wp2
  go_ret
  exact ⟨rfl, (Below.refl _ _).alloc (Nat.le_refl _) _⟩
set_option maxRecDepth 100000 in
theorem setdefault_const (h : VarsAt W w b s R) (n : Int) (hn : 0 ≤ n ∧ n < 16384) (hm : fndM s.marks n = some true) (k m : Int) : Calls Try.prog 23 #[.pointer (some ⟨b.vb, 0, none⟩), .int .i64 n, .agg #[.int .i64 k, .int .i64 m]] w
    fun r w' => r = .returned (.int .i64 10) ∧ Below w.heap.size w w' := by
  have HC := hide (change_const (h.skip (.cells #[.int .i64 k, .int .i64 m] 29)) n hn hm)
  clear h hm
  go_enter Try.func23, Try.ntmps23
  go_wp2_with fail
  refine (Calls.mono HC.out) ?_
  rintro e w2 ⟨rfl, rfl⟩
  go_wp2
  go_ret
  exact ⟨rfl, (Below.refl _ _).alloc (Nat.le_refl _) _⟩
set_option maxRecDepth 100000 in
theorem clear_const (h : VarsAt W w b s R) (n : Int) (hn : 0 ≤ n ∧ n < 16384) (hm : fndM s.marks n = some true) : Calls Try.prog 20 #[.pointer (some ⟨b.vb, 0, none⟩), .int .i64 n] w
    fun r w' => r = .returned (.int .i64 10) ∧ Below w.heap.size w w' := by
  have HC := hide (change_const h n hn hm)
  clear h hm
  go_enter Try.func20, Try.ntmps20
  go_wp2_with fail
  refine (Calls.mono HC.out) ?_
  rintro e w2 ⟨rfl, rfl⟩
  go_wp2
  go_ret
  exact ⟨rfl, Below.refl _ _⟩
set_option maxRecDepth 100000 in
theorem makelocal_const (h : VarsAt W w b s R) (n : Int) (hn : 0 ≤ n ∧ n < 16384) (hm : fndM s.marks n = some true) : Calls Try.prog 21 #[.pointer (some ⟨b.vb, 0, none⟩), .int .i64 n] w
    fun r w' => r = .returned (.int .i64 10) ∧ Below w.heap.size w w' := by
  have HC := hide (change_const h n hn hm)
  clear h hm
  go_enter Try.func21, Try.ntmps21
  go_wp2_with fail
  refine (Calls.mono HC.out) ?_
  rintro e w2 ⟨rfl, rfl⟩
  go_wp2
  go_ret
  exact ⟨rfl, Below.refl _ _⟩
set_option maxRecDepth 100000 in
theorem bind_const (h : VarsAt W w b s R) (n : Int) (hn : 0 ≤ n ∧ n < 16384) (hm : fndM s.marks n = some true) (k m : Int) : Calls Try.prog 10 #[.pointer (some ⟨b.vb, 0, none⟩), .int .i64 n, .agg #[.int .i64 k, .int .i64 m]] w
    fun r w' => r = .returned (.int .i64 10) ∧ Below w.heap.size w w' := by
  have HC := hide (change_const ((h.skip (.cells #[.int .i64 n] 3)).skip (.cells #[.int .i64 k, .int .i64 m] 29)) n hn hm)
  clear h hm
  go_enter Try.func10, Try.ntmps10
  go_wp2_with fail
  refine (Calls.mono HC.out) ?_
  rintro e w2 ⟨rfl, rfl⟩
  go_wp2
  go_ret
  exact ⟨rfl, ((Below.refl _ _).alloc (Nat.le_refl _) (.cells #[.int .i64 n] 3)).alloc (by simp) (.cells #[.int .i64 k, .int .i64 m] 29)⟩
set_option maxRecDepth 100000 in
theorem setlocal_const (h : VarsAt W w b s R) (n : Int) (hn : 0 ≤ n ∧ n < 16384) (hm : fndM s.marks n = some true) (q : Int) (hq : 1 ≤ q ∧ q ≤ 65536) (k m : Int) : Calls Try.prog 22 #[.pointer (some ⟨b.vb, 0, none⟩), .int .i64 n, .int .i64 q, .agg #[.int .i64 k, .int .i64 m]] w
    fun r w' => r = .returned (.int .i64 10) ∧ Below w.heap.size w w' := by
  have h1 := h.skip (.cells #[.int .i64 k, .int .i64 m] 29)
  have HC := hide (check_ok h1 n hn)
  have HS := hide (scoped_ok q hq)
  have HK := hide (const_const h1 n hn hm)
  clear h h1 hm hq
  go_enter Try.func22, Try.ntmps22
  go_wp2_with fail
  refine (Calls.mono HC.out) ?_
  rintro e w2 ⟨rfl, rfl⟩
  go_wp2_with fail
  refine (Calls.mono (HS.out _)) ?_
  rintro e w2 ⟨rfl, rfl⟩
  go_wp2_with fail
  refine (Calls.mono HK.out) ?_
  rintro e w2 ⟨rfl, rfl⟩
  go_wp2
  go_ret
  exact ⟨rfl, (Below.refl _ _).alloc (Nat.le_refl _) _⟩
end
end Go.Proofs.Ytempnakdpmmmoaa
