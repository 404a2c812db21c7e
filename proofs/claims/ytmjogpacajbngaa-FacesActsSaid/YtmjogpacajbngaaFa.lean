/- Attributes of faces: Over, Look, within, of the program and of the reference. No condition but those written. -/
import Derived.Test.YtmjogpacajbngaaRow
import Derived.Test.YtmjogpacajbngaaProg
import Derived.BigQuiet
import Derived.Deep.RegionHeld3
import Derived.RegionTactic
import Derived.BigRegion
import Derived.ChangeAlike
import Derived.Laws.StructEq
import Derived.Laws.ResultCell
import Derived.IntWalk
import Derived.Deep.QuietTactic
namespace Go.Proofs.Ytmjogpacajbngaa
open Go.RowKit

structure Att where
  fo : Int
  ba : Int
  bo : Int
  un : Int
  iv : Int
  inh : ByteArray
@[reducible] def Att.cells (a : Att) : List Value := [.int .i64 a.fo, .int .i64 a.ba, .int .i64 a.bo, .int .i64 a.un, .int .i64 a.iv, .string a.inh]
@[reducible] def Att.val (a : Att) : Value := .agg #[.int .i64 a.fo, .int .i64 a.ba, .int .i64 a.bo, .int .i64 a.un, .int .i64 a.iv, .string a.inh]
theorem att_len (a : Att) : a.cells.length = 6 := rfl
def first (a b : Int) : Int := if a = 0 then b else a
def over (a b : Att) : Att := ⟨first a.fo b.fo, first a.ba b.ba, first a.bo b.bo, first a.un b.un, first a.iv b.iv, a.inh⟩
def colour (n : Int) : Int := if 1 ≤ n ∧ n ≤ 256 then n else 0
/-- The look of attributes. -/
def lookV (a : Att) : Value := .agg #[.int .i64 (colour a.fo), .int .i64 (colour a.ba), .bool (a.bo == 1), .bool (a.un == 1), .bool (a.iv == 1)]
theorem first_any (a b : Int) (w : World) : Calls Try.prog 36 #[.int .i64 a, .int .i64 b] w fun e w' => e = .returned (.int .i64 (first a b)) ∧ w = w' := by
  by_cases h : a = 0
  · subst h
    go_enter Try.func36, Try.ntmps36
    go_wp2
    go_ret
    exact ⟨rfl, rfl⟩
  · have HE := hide (show first a b = a from if_neg h)
    have z1 : (a != 0) = true := by simpa using h
    have z2 : (a == 0) = false := by simpa using h
    go_enter Try.func36, Try.ntmps36
    go_wp2
    go_ret
    exact ⟨by rw [HE.out]; rfl, rfl⟩
theorem colour_any (n : Int) (w : World) : Calls Try.prog 37 #[.int .i64 n] w fun e w' => e = .returned (.int .i64 (colour n)) ∧ w = w' := by
  by_cases h1 : 1 ≤ n
  · by_cases h2 : n ≤ 256
    · have HE := hide (show colour n = n from if_pos ⟨h1, h2⟩)
      go_enter Try.func37, Try.ntmps37
      go_wp2
      go_ret
      exact ⟨by rw [HE.out]; rfl, rfl⟩
    · have HE := hide (show colour n = 0 from if_neg (by omega))
      go_enter Try.func37, Try.ntmps37
      go_wp2
      go_ret
      exact ⟨by rw [HE.out]; rfl, rfl⟩
  · have HE := hide (show colour n = 0 from if_neg (by omega))
    go_enter Try.func37, Try.ntmps37
    go_wp2
    go_ret
    exact ⟨by rw [HE.out]; rfl, rfl⟩
theorem rcolour_any (n : Int) (w : World) : Calls Try.prog 38 #[.int .i64 n] w fun e w' => e = .returned (.int .i64 (colour n)) ∧ w = w' := by
  by_cases h1 : n < 1
  · have HE := hide (show colour n = 0 from if_neg (by omega))
    go_enter Try.func38, Try.ntmps38
    go_wp2
    go_ret
    exact ⟨by rw [HE.out]; rfl, rfl⟩
  · by_cases h2 : 256 < n
    · have HE := hide (show colour n = 0 from if_neg (by omega))
      go_enter Try.func38, Try.ntmps38
      go_wp2
      go_ret
      exact ⟨by rw [HE.out]; rfl, rfl⟩
    · have HE := hide (show colour n = n from if_pos (by omega))
      go_enter Try.func38, Try.ntmps38
      go_wp2
      go_ret
      exact ⟨by rw [HE.out]; rfl, rfl⟩
/-- Attributes lie in a block. -/
def AttAt (w : World) (g : Nat) (a : Att) : Prop := w.cell? ⟨g, 0, none⟩ = some (.int .i64 a.fo) ∧ w.cell? ⟨g, 1, none⟩ = some (.int .i64 a.ba) ∧ w.cell? ⟨g, 2, none⟩ = some (.int .i64 a.bo) ∧ w.cell? ⟨g, 3, none⟩ = some (.int .i64 a.un) ∧ w.cell? ⟨g, 4, none⟩ = some (.int .i64 a.iv) ∧ w.cell? ⟨g, 5, none⟩ = some (.string a.inh)
theorem Blk.att {w : World} {g : Nat} {t : TypeId} {a : Att} (h : Blk w g t a.cells.toArray) : AttAt w g a := ⟨by rw [h.cell]; rfl, by rw [h.cell]; rfl, by rw [h.cell]; rfl, by rw [h.cell]; rfl, by rw [h.cell]; rfl, by rw [h.cell]; rfl⟩
set_option maxRecDepth 100000 in
set_option maxHeartbeats 4000000 in
theorem look_any (a : Att) (w : World) : Calls Try.prog 13 #[a.val] w fun e w' => e = .returned (lookV a) ∧ Below w.heap.size w w' := by
  obtain ⟨f, b, o, u, i, h⟩ := a
  have HV := hide (show lookV ⟨f, b, o, u, i, h⟩ = .agg #[.int .i64 (colour f), .int .i64 (colour b), .bool (o == 1), .bool (u == 1), .bool (i == 1)] from rfl)
  have HB := hide (fun ob => ((Blk.new w 23 (Att.cells ⟨f, b, o, u, i, h⟩).toArray).alloc ob).drew.att)
  have HR := hide (fun (w1 : World) (hs : w1.heap.size = w.heap.size + 1) => (show Blk (w1.alloc (.cells #[.int .i64 (colour f), .int .i64 (colour b), .bool (o == 1), .bool (u == 1), .bool (i == 1)] 26)) (w.heap.size + 1) 26 #[.int .i64 (colour f), .int .i64 (colour b), .bool (o == 1), .bool (u == 1), .bool (i == 1)] from hs ▸ Blk.new w1 _ _))
  go_enter Try.func13, Try.ntmps13
  go_wp2_with fail
  go_region_held3 (fun w' => w'.cell? ⟨w.heap.size, 0, none⟩ = some (.int .i64 f) ∧ w'.cell? ⟨w.heap.size, 1, none⟩ = some (.int .i64 b) ∧ w'.cell? ⟨w.heap.size, 2, none⟩ = some (.int .i64 o) ∧ w'.cell? ⟨w.heap.size, 3, none⟩ = some (.int .i64 u) ∧ w'.cell? ⟨w.heap.size, 4, none⟩ = some (.int .i64 i))
    (first | assumption | exact ⟨(HB.out _).1, (HB.out _).2.1, (HB.out _).2.2.1, (HB.out _).2.2.2.1, (HB.out _).2.2.2.2.1⟩)
    ((go_at_call 37; refine (colour_any _ _).mono ?_; rintro r w2 ⟨rfl, rfl⟩))
  go_wp2
  refine bodyPost_ret (results_cell_row rfl _ _ (w.heap.size + 1) 26 #[.int .i64 (colour f), .int .i64 (colour b), .bool (o == 1), .bool (u == 1), .bool (i == 1)] (0, 0) _ rfl (HR.out _ (by simp)) Try.underlying26 rfl (by kernel_rfl)) rfl ?_
  exact ⟨by rw [HV.out], (((Below.refl _ _).alloc (Nat.le_refl _) _).alloc (by simp) _).drew⟩
set_option maxRecDepth 100000 in
set_option maxHeartbeats 4000000 in
theorem rlook_any (a : Att) (w : World) : Calls Try.prog 14 #[a.val] w fun e w' => e = .returned (lookV a) ∧ Below w.heap.size w w' := by
  obtain ⟨f, b, o, u, i, h⟩ := a
  have HV := hide (show lookV ⟨f, b, o, u, i, h⟩ = .agg #[.int .i64 (colour f), .int .i64 (colour b), .bool (o == 1), .bool (u == 1), .bool (i == 1)] from rfl)
  have HB := hide (fun ob => ((Blk.new w 23 (Att.cells ⟨f, b, o, u, i, h⟩).toArray).alloc ob).drew.att)
  have HR := hide (fun (w1 : World) (hs : w1.heap.size = w.heap.size + 1) => (show Blk (w1.alloc (.cells #[.int .i64 (colour f), .int .i64 (colour b), .bool (o == 1), .bool (u == 1), .bool (i == 1)] 26)) (w.heap.size + 1) 26 #[.int .i64 (colour f), .int .i64 (colour b), .bool (o == 1), .bool (u == 1), .bool (i == 1)] from hs ▸ Blk.new w1 _ _))
  go_enter Try.func14, Try.ntmps14
  go_wp2_with fail
  go_region_held3 (fun w' => w'.cell? ⟨w.heap.size, 0, none⟩ = some (.int .i64 f) ∧ w'.cell? ⟨w.heap.size, 1, none⟩ = some (.int .i64 b) ∧ w'.cell? ⟨w.heap.size, 2, none⟩ = some (.int .i64 o) ∧ w'.cell? ⟨w.heap.size, 3, none⟩ = some (.int .i64 u) ∧ w'.cell? ⟨w.heap.size, 4, none⟩ = some (.int .i64 i))
    (first | assumption | exact ⟨(HB.out _).1, (HB.out _).2.1, (HB.out _).2.2.1, (HB.out _).2.2.2.1, (HB.out _).2.2.2.2.1⟩)
    ((go_at_call 38; refine (rcolour_any _ _).mono ?_; rintro r w2 ⟨rfl, rfl⟩))
  go_wp2
  refine bodyPost_ret (results_cell_row rfl _ _ (w.heap.size + 1) 26 #[.int .i64 (colour f), .int .i64 (colour b), .bool (o == 1), .bool (u == 1), .bool (i == 1)] (0, 0) _ rfl (HR.out _ (by simp)) Try.underlying26 rfl (by kernel_rfl)) rfl ?_
  exact ⟨by rw [HV.out], (((Below.refl _ _).alloc (Nat.le_refl _) _).alloc (by simp) _).drew⟩
/-- The six cells of two boxes, behind whatever is made. -/
theorem two_boxes (a b : Att) (t : TypeId) (w : World) (o : Obj) : AttAt ((((w.alloc (.cells a.cells.toArray t)).alloc (.cells b.cells.toArray t)).alloc o).drew) w.heap.size a ∧ AttAt ((((w.alloc (.cells a.cells.toArray t)).alloc (.cells b.cells.toArray t)).alloc o).drew) (w.heap.size + 1) b := by
  have h1 := (((Blk.new w t a.cells.toArray).alloc (.cells b.cells.toArray t)).alloc o).drew
  have h2 := ((Blk.new (w.alloc (.cells a.cells.toArray t)) t b.cells.toArray).alloc o).drew
  rw [show (w.alloc (.cells a.cells.toArray t)).heap.size = w.heap.size + 1 from Array.size_push ..] at h2
  exact ⟨h1.att, h2.att⟩
set_option maxRecDepth 100000 in
set_option maxHeartbeats 8000000 in
theorem rover_any (a b : Att) (w : World) : Calls Try.prog 12 #[a.val, b.val] w fun e w' => e = .returned (over a b).val ∧ Below w.heap.size w w' := by
  have HB := hide (fun o => two_boxes a b 23 w o)
  have HR := hide (fun (w1 : World) (hs : w1.heap.size = w.heap.size + 2) => (show Blk (w1.alloc (.cells (over a b).cells.toArray 23)) (w.heap.size + 2) 23 (over a b).cells.toArray from hs ▸ Blk.new w1 _ _))
  go_enter Try.func12, Try.ntmps12
  go_wp2_with fail
  go_region_held3 (fun w' => w'.cell? ⟨w.heap.size, 0, none⟩ = some (.int .i64 a.fo) ∧ w'.cell? ⟨w.heap.size, 1, none⟩ = some (.int .i64 a.ba) ∧ w'.cell? ⟨w.heap.size, 2, none⟩ = some (.int .i64 a.bo) ∧ w'.cell? ⟨w.heap.size, 3, none⟩ = some (.int .i64 a.un) ∧ w'.cell? ⟨w.heap.size, 4, none⟩ = some (.int .i64 a.iv) ∧ w'.cell? ⟨w.heap.size, 5, none⟩ = some (.string a.inh) ∧ w'.cell? ⟨w.heap.size + 1, 0, none⟩ = some (.int .i64 b.fo) ∧ w'.cell? ⟨w.heap.size + 1, 1, none⟩ = some (.int .i64 b.ba) ∧ w'.cell? ⟨w.heap.size + 1, 2, none⟩ = some (.int .i64 b.bo) ∧ w'.cell? ⟨w.heap.size + 1, 3, none⟩ = some (.int .i64 b.un) ∧ w'.cell? ⟨w.heap.size + 1, 4, none⟩ = some (.int .i64 b.iv))
    (first | assumption | exact ⟨(HB.out _).1.1, (HB.out _).1.2.1, (HB.out _).1.2.2.1, (HB.out _).1.2.2.2.1, (HB.out _).1.2.2.2.2.1, (HB.out _).1.2.2.2.2.2, (HB.out _).2.1, (HB.out _).2.2.1, (HB.out _).2.2.2.1, (HB.out _).2.2.2.2.1, (HB.out _).2.2.2.2.2.1⟩)
    ((go_at_call 36; refine (first_any _ _ _).mono ?_; rintro r w2 ⟨rfl, rfl⟩))
  go_wp2
  refine bodyPost_ret (results_cell_row rfl _ _ (w.heap.size + 2) 23 (over a b).cells.toArray (0, 0) _ rfl (HR.out _ (by simp)) Try.underlying23 rfl (by kernel_rfl)) rfl ?_
  exact ⟨rfl, ((((Below.refl _ _).alloc (Nat.le_refl _) _).alloc (by simp) _).alloc (by simp; omega) _).drew⟩
set_option maxRecDepth 100000 in
set_option maxHeartbeats 4000000 in
theorem fields_any (g : Nat) (w : World) : Calls Try.prog 35 #[.pointer (some ⟨g, 0, none⟩)] w fun e w' => e = .returned (.agg #[.pointer (some ⟨g, 0, none⟩), .pointer (some ⟨g, 1, none⟩), .pointer (some ⟨g, 2, none⟩), .pointer (some ⟨g, 3, none⟩), .pointer (some ⟨g, 4, none⟩)]) ∧ Below w.heap.size w w' := by
  have HR := hide (Blk.new w 65 #[.pointer (some ⟨g, 0, none⟩), .pointer (some ⟨g, 1, none⟩), .pointer (some ⟨g, 2, none⟩), .pointer (some ⟨g, 3, none⟩), .pointer (some ⟨g, 4, none⟩)])
  go_enter Try.func35, Try.ntmps35
  go_wp2_with fail
  go_region
  all_goals go_wp2
  refine bodyPost_ret (results_cell_row rfl _ _ w.heap.size 65 #[.pointer (some ⟨g, 0, none⟩), .pointer (some ⟨g, 1, none⟩), .pointer (some ⟨g, 2, none⟩), .pointer (some ⟨g, 3, none⟩), .pointer (some ⟨g, 4, none⟩)] (0, 0) _ rfl (HR.out) Try.underlying65 rfl (by kernel_rfl)) rfl ?_
  exact ⟨rfl, ((Below.refl _ _).alloc (Nat.le_refl _) _).drew⟩
end Go.Proofs.Ytmjogpacajbngaa
