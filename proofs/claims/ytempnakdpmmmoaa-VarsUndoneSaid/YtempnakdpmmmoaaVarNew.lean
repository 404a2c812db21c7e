/- New: only nil and t have values. No condition but those written. -/
import Derived.Test.YtempnakdpmmmoaaVarUn
namespace Go.Proofs.Ytempnakdpmmmoaa
open Go.RowKit
attribute [local go_sem] neq_cells

def Vst.withMarks (s : Vst) (l : List (Int × Bool)) : Vst := { s with marks := l }
theorem mark_put {n : Int} (c : Bool) : ∀ l : List (Int × Bool), fndM l n = none → mput (markPairs l) (.int .i64 n) (markV c) = markPairs (l ++ [(n, c)])
  | [], _ => rfl
  | e :: l, h => by
    simp only [fndM, List.find?_cons] at h
    split at h
    · cases h
    · next hne =>
      have ih := mark_put c l h
      simp only [markPairs] at ih
      simp only [markPairs, List.map_cons, mput, keyEq_int, hne, List.cons_append]
      rw [ih]
      simp
section
variable {W w w' : World} {b : Vb} {s : Vst} {R : Heap}
theorem VarsAt.remark (h : VarsAt W w b s R) {l : List (Int × Bool)} (ho : Only (· = b.mb) w w') (hm : MapIs w' b.mb (markPairs l)) : VarsAt W w' b (s.withMarks l) R := by
  have h1 := h.own
  unfold Vst.heap Vb.head at h1
  have h2 := ((h1.perm (show List.Perm _ ((b.mb, .map (markPairs s.marks)) :: ([(b.vb, .cells 57 #[.map (some b.db), .map (some b.lb), .map (some b.mb), b.nv, .int .i64 s.scope]), (b.db, .map (entPairs s.defs)), (b.lb, .map (locPairs s.locs))] ++ (entHeap s.defs ++ (locHeap s.locs ++ (noteHeap s.notes ++ noteRow b s))) ++ R)) from List.perm_middle (l₁ := [_, _, _]))).turn (b := .map (markPairs l)) ho hm).perm (List.perm_middle (l₁ := [_, _, _])).symm
  exact ⟨h2, h.sl.only ho fun g' hg' e => h.sl.ne_map h.mb (by rw [hg', e])⟩
end

/-- The variables as New makes them. -/
def Fresh (s : Vst) (k : Nat) : Prop := s.locs = [] ∧ s.notes = [] ∧ s.scope = 0 ∧ s.marks = [((0 : Int), true), (1, true)].take k ∧ s.defs.map (fun e => (e.n, e.c)) = [((0 : Int), (⟨1, 0, true⟩ : Cel)), (1, ⟨1, 1, true⟩)].take k
def NewG (W : World) (e : Ending) (w' : World) : Prop := ∃ b s, e = .returned (.pointer (some ⟨b.vb, 0, none⟩)) ∧ VarsAt W w' b s [] ∧ Fresh s 2
set_option maxRecDepth 100000 in
set_option maxHeartbeats 4000000 in
theorem new_any (W : World) : Calls Try.prog 9 #[] W (NewG W) := by
  have hmm := @run_makeMap Try.prog
  go_enter Try.func9, Try.ntmps9
  go_wp2_with fail
  have hO := ((((Own.refl W).newMap).newMap).newMap)
  simp only [World.size_alloc] at hO
  have hO2 := hO.newCells 57 #[.map (some W.heap.size), .map (some (W.heap.size + 1)), .map (some (W.heap.size + 1 + 1)), .slice none 0 0, .int .i64 0]
  simp only [World.size_alloc] at hO2
  have hO3 := hO2.newCells 3 #[.int .i64 0, .int .i64 1]
  simp only [World.size_alloc] at hO3
  have hV : VarsAt W (((((W.alloc (.map #[] 0)).alloc (.map #[] 0)).alloc (.map #[] 0)).alloc (.cells #[.map (some W.heap.size), .map (some (W.heap.size + 1)), .map (some (W.heap.size + 1 + 1)), .slice none 0 0, .int .i64 0] 57)).alloc (.cells #[.int .i64 0, .int .i64 1] 3))
      ⟨W.heap.size + 1 + 1 + 1, W.heap.size, W.heap.size + 1, W.heap.size + 1 + 1, .slice none 0 0⟩ ⟨[], [], [], [], 0⟩ [(W.heap.size + 1 + 1 + 1 + 1, .cells 3 #[.int .i64 0, .int .i64 1])] := by
    refine ⟨hO3.perm ?_, Sl.nil _ _ _⟩
    exact (List.perm_append_comm (l₁ := [_]) (l₂ := [_, _, _, _])).trans (List.Perm.cons _ ((List.reverse_perm [_, _, _]).append_right [_]))
  clear hO hO2 hO3
  generalize ((((W.alloc (.map #[] 0)).alloc (.map #[] 0)).alloc (.map #[] 0)).alloc (.cells #[.map (some W.heap.size), .map (some (W.heap.size + 1)), .map (some (W.heap.size + 1 + 1)), .slice none 0 0, .int .i64 0] 57)).alloc (.cells #[.int .i64 0, .int .i64 1] 3) = w1 at *
  generalize W.heap.size + 1 + 1 + 1 + 1 = sb at *
  generalize hb : (⟨W.heap.size + 1 + 1 + 1, W.heap.size, W.heap.size + 1, W.heap.size + 1 + 1, .slice none 0 0⟩ : Vb) = b at *
  have hvb : W.heap.size + 1 + 1 + 1 = b.vb := by rw [← hb]
  rw [hvb]
  clear hb hvb
  go_loopw [11] (fun i wr => ∃ (k : Nat) (s : Vst), k ≤ 2 ∧ i = .int .i64 (k : Int) ∧ VarsAt W wr b s [(sb, .cells 3 #[.int .i64 0, .int .i64 1])] ∧ Fresh s k) (fun i _ => 2 - (intOf i).toNat)
  case atStart => exact ⟨0, _, by omega, rfl, hV, rfl, rfl, rfl, rfl, rfl⟩
  case round =>
    obtain ⟨k, s, hk, rfl, hs, hF⟩ := hrel
    clear hV
    by_cases hlt : k < 2
    · have hz : decide ((k : Int) < 2) = true := by simp; omega
      have hcs := hs.own.blk (g := sb) (t := 3) (cs := #[.int .i64 0, .int .i64 1]) (by simp)
      have hc : wr.cell? ⟨sb, k, none⟩ = some (.int .i64 (k : Int)) := by
        rw [hcs.cell]
        obtain rfl | rfl : k = 0 ∨ k = 1 := by omega
        · rfl
        · rfl
      obtain ⟨hF1, hF2, hF3, hF4, hF5⟩ := hF
      have hfd : fnd s.defs (k : Int) = none := by
        have h1 : (s.defs.map fun e => (e.n, e.c)).find? (fun x => (k : Int) == x.1) = none := by
          rw [hF5]
          obtain rfl | rfl : k = 0 ∨ k = 1 := by omega
          · rfl
          · rfl
        rw [List.find?_map] at h1
        simpa [fnd, Function.comp_def] using h1
      have hfm : fndM s.marks (k : Int) = none := by
        rw [hF4]
        obtain rfl | rfl : k = 0 ∨ k = 1 := by omega
        · rfl
        · rfl
      have c0 : wr.cell? ⟨b.vb, 0, none⟩ = some (.map (some b.db)) := by rw [hs.vb.cell]; rfl
      have h1 : VarsAt W (wr.alloc (.cells #[.int .i64 1, .int .i64 (k : Int), .bool true] 60)) b s ((wr.heap.size, celA ⟨1, k, true⟩) :: [(sb, .cells 3 #[.int .i64 0, .int .i64 1])]) := hs.box 60 (Cel.cells ⟨1, k, true⟩).toArray
      obtain ⟨w4, hr, hm4, ho4⟩ := (h1.db).update (P := Try.prog) (ent_keys s.defs) Try.underlying52 Try.underlying3 (.int _ (k : Int)) (.pointer (some ⟨wr.heap.size, 0, none⟩))
      rw [show mput (entPairs s.defs) (.int .i64 (k : Int)) (.pointer (some ⟨wr.heap.size, 0, none⟩)) = _ from ent_put wr.heap.size ⟨1, k, true⟩ s.defs hfd] at hm4
      have h4 := h1.addDef ho4 hm4
      obtain ⟨w5, hr5, hm5, ho5⟩ := (h4.mb).update (P := Try.prog) (mark_keys s.marks) Try.underlying54 Try.underlying3 (.int _ (k : Int)) (.int .u8 3)
      have hm6 : MapIs w5 b.mb (markPairs (s.marks ++ [((k : Int), true)])) := by rw [← mark_put true s.marks hfm]; exact hm5
      have h5 := h4.remark ho5 hm6
      have d2 : w4.cell? ⟨b.vb, 2, none⟩ = some (.map (some b.mb)) := by rw [h4.vb.cell]; rfl
      have hM : s.marks ++ [((k : Int), true)] = [((0 : Int), true), (1, true)].take (k + 1) := by
        rw [hF4]
        obtain rfl | rfl : k = 0 ∨ k = 1 := by omega
        · rfl
        · rfl
      have hD : (s.defs ++ [(⟨k, wr.heap.size, ⟨1, k, true⟩⟩ : Ent)]).map (fun e => (e.n, e.c)) = [((0 : Int), (⟨1, 0, true⟩ : Cel)), (1, ⟨1, 1, true⟩)].take (k + 1) := by
        rw [List.map_append, hF5]
        obtain rfl | rfl : k = 0 ∨ k = 1 := by omega
        · rfl
        · rfl
      have HN := hide (And.intro h5 (show Fresh ((s.addDef k wr.heap.size ⟨1, k, true⟩).withMarks (s.marks ++ [((k : Int), true)])) (k + 1) from ⟨hF1, hF2, hF3, hM, hD⟩))
      have HLT := hide hlt
      clear hM hD hs hF1 hF2 hF3 hF4 hF5 hfd hfm h1 hm4 ho4 h4 hm5 hm6 ho5 h5 hcs
      go_wp2
      go_roundw
      case rel => exact ⟨k + 1, _, HLT.out, by go_num, HN.out.1, HN.out.2⟩
      case measure => have := HLT.out; simp [intOf]; omega
    · have hz : decide ((k : Int) < 2) = false := by simp; omega
      have HS := hide (And.intro hs (And.intro hF (show k = 2 by omega)))
      clear hs hF
      go_wp2
      go_ret
      obtain ⟨h1, h2, h3⟩ := HS.out
      rw [h3] at h2
      exact ⟨b, s, rfl, h1.sub (List.nil_sublist _), h2⟩
end Go.Proofs.Ytempnakdpmmmoaa
