/- What the methods of the variables do: Set, Get, SetDefault. No condition but those written. -/
import Derived.Test.YtempnakdpmmmoaaVarX
import Derived.Deep.RegionWith
namespace Go.Proofs.Ytempnakdpmmmoaa
open Go.RowKit
attribute [local go_sem] neq_cells

section
variable {W w w' : World} {b : Vb} {s : Vst} {R : Heap}
theorem mem_def {s : Vst} {n : Int} {g : Nat} {c : Cel} (h : fnd s.defs n = some ⟨n, g, c⟩) : (g, celA c) ∈ s.cellsOf := List.mem_append_left _ (List.mem_map.2 ⟨_, (fnd_mem h).1, rfl⟩)
theorem mem_lcl {s : Vst} {k n : Int} {e : Ent} (h : s.lcl k n = some e) : (e.g, celA e.c) ∈ s.cellsOf := by
  unfold Vst.lcl Vst.inner at h
  cases hx : fndL s.locs k with
  | none => rw [hx] at h; simp [fnd] at h
  | some x =>
    rw [hx] at h
    exact List.mem_append_right _ (List.mem_flatMap.2 ⟨x, (fndL_mem hx).1, List.mem_map.2 ⟨e, (fnd_mem (by simpa using h)).1, rfl⟩⟩)
theorem glob_lcl (s : Vst) (n k m : Int) (g : Nat) : (s.glob n g).lcl k m = s.lcl k m := by
  unfold Vst.glob
  split <;> rfl
theorem glob_scope (s : Vst) (n : Int) (g : Nat) : (s.glob n g).scope = s.scope := by
  unfold Vst.glob
  split <;> rfl
theorem place_any (h : VarsAt W w b s R) (n : Int) : Calls Try.prog 35 #[.pointer (some ⟨b.vb, 0, none⟩), .int .i64 n] w
    fun r w' => ∃ g, r = .returned (.pointer (some ⟨g, 0, none⟩)) ∧ VarsAt W w' b (s.placed n g) R ∧ (s.placed n g).at_ n g ∧ (g, celA (s.now n)) ∈ (s.placed n g).cellsOf := by
  cases he : s.lcl s.scope n with
  | some e =>
    refine (place_local h n e he).mono ?_
    rintro r w' ⟨rfl, hV⟩
    refine ⟨e.g, rfl, ?_, ?_, ?_⟩
    · simp only [Vst.placed, he, Option.isSome_some, if_true]
      exact hV
    · simp [Vst.placed, Vst.at_, he]
    · simp only [Vst.placed, Vst.now, he, Option.isSome_some, if_true]
      exact mem_lcl he
  | none =>
    refine (place_global h n he).mono ?_
    rintro r w' ⟨g, rfl, hV, hf⟩
    refine ⟨g, rfl, ?_, ?_, ?_⟩
    · simp only [Vst.placed, he, Option.isSome_none, Bool.false_eq_true, if_false]
      exact hV
    · simp only [Vst.placed, he, Option.isSome_none, Bool.false_eq_true, if_false, Vst.at_, glob_lcl, glob_scope]
      exact ⟨_, hf⟩
    · simp only [Vst.placed, Vst.now, he, Option.isSome_none, Bool.false_eq_true, if_false]
      exact mem_def hf
theorem VarsAt.cel {g : Nat} {c : Cel} (h : VarsAt W w b s R) (hg : (g, celA c) ∈ s.cellsOf) : Blk w g 60 c.cells.toArray := h.own.blk (mem_cells hg)

theorem cel_cells {g : Nat} {c : Cel} (h : Blk w g 60 c.cells.toArray) : w.cell? ⟨g, 0, none⟩ = some (.int .i64 c.k) ∧ w.cell? ⟨g, 1, none⟩ = some (.int .i64 c.n) ∧ w.cell? ⟨g, 2, none⟩ = some (.bool c.b) ∧ w.frozen? ⟨g, 0, none⟩ = false ∧ w.frozen? ⟨g, 1, none⟩ = false ∧ w.frozen? ⟨g, 2, none⟩ = false :=
  ⟨h.cell 0, h.cell 1, h.cell 2, h.frozen 0, h.frozen 1, h.frozen 2⟩
set_option maxRecDepth 100000 in
set_option maxHeartbeats 1000000 in
theorem set_ok (h : VarsAt W w b s R) (n : Int) (hn : 0 ≤ n ∧ n < 16384) (hm : fndM s.marks n = none) (k m : Int) : Calls Try.prog 15 #[.pointer (some ⟨b.vb, 0, none⟩), .int .i64 n, .agg #[.int .i64 k, .int .i64 m]] w
    fun r w' => r = .returned (.int .i64 0) ∧ ∃ g, VarsAt W w' b ((s.placed n g).upd g ⟨k, m, true⟩) R ∧ (s.placed n g).at_ n g := by
  have h1 := h.box 29 #[.int .i64 k, .int .i64 m]
  have HC := hide (change_ok h1 n hn hm)
  have HV := hide h1.drew
  clear h h1 hm
  go_enter Try.func15, Try.ntmps15
  go_wp2_with fail
  refine (Calls.mono HC.out) ?_
  rintro e w2 ⟨rfl, rfl⟩
  generalize w.alloc (.cells #[.int .i64 k, .int .i64 m] 29) = w1 at *
  have b0 := (HV.out.own.blk (g := w.heap.size) (t := 29) (cs := #[.int .i64 k, .int .i64 m]) (by simp))
  have k0 : w1.drew.cell? ⟨w.heap.size, 0, none⟩ = some (.int .i64 k) := by rw [b0.cell]; rfl
  have k1 : w1.drew.cell? ⟨w.heap.size, 1, none⟩ = some (.int .i64 m) := by rw [b0.cell]; rfl
  clear b0
  go_wp2
  go_region_with (go_at_call 35; refine (place_any HV.out n).mono ?_; rintro r w3 ⟨g, rfl, hV3, ha, hg⟩; obtain ⟨q0, q1, q2, f0, f1, f2⟩ := cel_cells (hV3.cel hg); have b3 := hV3.own.blk (g := w.heap.size) (t := 29) (cs := #[.int .i64 k, .int .i64 m]) (by simp); have l0 : w3.cell? ⟨w.heap.size, 0, none⟩ = some (.int .i64 k) := b3.cell 0; have l1 : w3.cell? ⟨w.heap.size, 1, none⟩ = some (.int .i64 m) := b3.cell 1; have HS := hide (hV3.drop.store hg ⟨k, m, true⟩); have HA := hide ha; clear hV3 ha hg b3)
  all_goals (go_wp2; go_ret; exact ⟨rfl, g, HS.out, HA.out⟩)
set_option maxRecDepth 100000 in
set_option maxHeartbeats 1000000 in
theorem get_ok (h : VarsAt W w b s R) (n : Int) (hn : 0 ≤ n ∧ n < 16384) : Calls Try.prog 13 #[.pointer (some ⟨b.vb, 0, none⟩), .int .i64 n] w
    fun r w' => r = .returned (.tuple #[.agg #[.int .i64 (s.now n).k, .int .i64 (s.now n).n], .bool (s.now n).b]) ∧ ∃ g, VarsAt W w' b (s.placed n g) R ∧ (s.placed n g).at_ n g := by
  have h1 := h.box 29 #[.int .i64 0, .int .i64 0]
  have HC := hide (check_ok h1 n hn)
  have HP := hide (place_any h1 n)
  clear h h1
  go_enter Try.func13, Try.ntmps13
  go_wp2_with fail
  refine (Calls.mono HC.out) ?_
  rintro e w2 ⟨rfl, rfl⟩
  go_wp2_with fail
  refine (Calls.mono HP.out) ?_
  rintro r w3 ⟨g, rfl, hV, ha, hg⟩
  obtain ⟨q0, q1, q2, f0, f1, f2⟩ := cel_cells (hV.cel hg)
  have b3 := hV.own.blk (g := w.heap.size) (t := 29) (cs := #[.int .i64 0, .int .i64 0]) (by simp)
  have l0 : w3.cell? ⟨w.heap.size, 0, none⟩ = some (.int .i64 0) := b3.cell 0
  have l1 : w3.cell? ⟨w.heap.size, 1, none⟩ = some (.int .i64 0) := b3.cell 1
  have p0 := b3.frozen 0
  have p1 := b3.frozen 1
  have HK := hide ((b3.set_ 0 (.int .i64 (s.now n).k)).set_ 1 (.int .i64 (s.now n).n))
  have h4 := (hV.own.perm List.perm_middle).setCell 0 (.int .i64 (s.now n).k)
  have HV := hide (show VarsAt W ((w3.setCell ⟨w.heap.size, 0, none⟩ (.int .i64 (s.now n).k)).setCell ⟨w.heap.size, 1, none⟩ (.int .i64 (s.now n).n)) b (s.placed n g) R from
    hV.drop.re (h4.setCell 1 (.int .i64 (s.now n).n)).tail)
  have HA := hide ha
  clear hV ha hg b3 h4 HP HC
  go_wp2
  go_region
  all_goals
    go_wp2
    refine bodyPost_ret (v := .tuple #[.agg #[.int .i64 (s.now n).k, .int .i64 (s.now n).n], .bool (s.now n).b]) ?_ rfl ⟨rfl, g, HV.out.drew, HA.out⟩
    rw [results_cell_tmp rfl]
    show ((loadVar 29 ⟨w.heap.size, 0, none⟩).run Try.prog _).andThen _ = _
    rw [run_loadVar_row _ w.heap.size 29 29 #[.int .i64 (s.now n).k, .int .i64 (s.now n).n] (0, 0) _ HK.out.drew Try.underlying29 rfl (by kernel_rfl)]
    rfl
end
end Go.Proofs.Ytempnakdpmmmoaa
