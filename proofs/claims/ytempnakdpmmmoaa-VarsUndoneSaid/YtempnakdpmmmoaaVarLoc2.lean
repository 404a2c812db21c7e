/- What the methods do at local values. No condition but those written. -/
import Derived.Test.YtempnakdpmmmoaaVarLoc
namespace Go.Proofs.Ytempnakdpmmmoaa
open Go.RowKit
attribute [local go_sem] neq_cells
theorem eql_cells (w : World) (r : Option Nat) : (binOp .eql 52 (.map r) (.map none)).run Try.prog w = .ok (.bool r.isNone) w := run_eql_map_nil w _ _ _ r Try.underlying52
attribute [local go_sem] eql_cells

section
variable {W w w' : World} {b : Vb} {s : Vst} {R : Heap}
theorem VarsAt.newMap (h : VarsAt W w b s R) : VarsAt W (w.alloc (.map #[] 0)) b s ((w.heap.size, .map []) :: R) := ⟨h.own.newMap.perm List.perm_middle.symm, h.sl.alloc _⟩
set_option maxRecDepth 100000 in
set_option maxHeartbeats 1000000 in
theorem setdefault_ok (h : VarsAt W w b s R) (n : Int) (hn : 0 ≤ n ∧ n < 16384) (hm : fndM s.marks n = none) (k m : Int) : Calls Try.prog 23 #[.pointer (some ⟨b.vb, 0, none⟩), .int .i64 n, .agg #[.int .i64 k, .int .i64 m]] w
    fun r w' => r = .returned (.int .i64 0) ∧ ∃ g, VarsAt W w' b ((s.glob n g).upd g ⟨k, m, true⟩) R ∧ fnd (s.glob n g).defs n = some ⟨n, g, s.dflt n⟩ := by
  have h1 := h.box 29 #[.int .i64 k, .int .i64 m]
  have HC := hide (change_ok h1 n hn hm)
  have HV := hide h1.drew
  clear h h1 hm
  go_enter Try.func23, Try.ntmps23
  go_wp2_with fail
  refine (Calls.mono HC.out) ?_
  rintro e w2 ⟨rfl, rfl⟩
  generalize w.alloc (.cells #[.int .i64 k, .int .i64 m] 29) = w1 at *
  have b0 := (HV.out.own.blk (g := w.heap.size) (t := 29) (cs := #[.int .i64 k, .int .i64 m]) (by simp))
  have k0 : w1.drew.cell? ⟨w.heap.size, 0, none⟩ = some (.int .i64 k) := by rw [b0.cell]; rfl
  have k1 : w1.drew.cell? ⟨w.heap.size, 1, none⟩ = some (.int .i64 m) := by rw [b0.cell]; rfl
  clear b0
  go_wp2
  go_region_with (go_at_call 37; refine (global_any HV.out n).mono ?_; rintro r w3 ⟨g, rfl, hV3, hf⟩; obtain ⟨q0, q1, q2, f0, f1, f2⟩ := cel_cells (hV3.cel (mem_def hf)); have b3 := hV3.own.blk (g := w.heap.size) (t := 29) (cs := #[.int .i64 k, .int .i64 m]) (by simp); have l0 : w3.cell? ⟨w.heap.size, 0, none⟩ = some (.int .i64 k) := b3.cell 0; have l1 : w3.cell? ⟨w.heap.size, 1, none⟩ = some (.int .i64 m) := b3.cell 1; have HS := hide (hV3.drop.store (mem_def hf) ⟨k, m, true⟩); have HA := hide hf; clear hV3 hf b3)
  all_goals (go_wp2; go_ret; exact ⟨rfl, g, HS.out, HA.out⟩)
theorem withLocs_locs (s : Vst) (l : List Loc) : (s.withLocs l).locs = l := rfl
theorem fnd_at {l1 l2 : List Loc} {x : Loc} {k : Int} (h : ∀ y ∈ l1, y.k ≠ k) (hk : x.k = k) : fndL (l1 ++ x :: l2) k = some x := by rw [fndL_skip h, fndL_cons, if_pos hk]
/-- What 'in' leaves. -/
def InG (W : World) (b : Vb) (s : Vst) (R : Heap) (n : Int) (c : Cel) (l1 l2 : List Loc) (x : Loc) (r : Ending) (w' : World) : Prop :=
  ∃ g, r = .returned (.pointer (some ⟨g, 0, none⟩)) ∧ VarsAt W w' b (s.withLocs (l1 ++ { x with es := x.es ++ [⟨n, g, c⟩] } :: l2)) R
set_option maxRecDepth 100000 in
theorem in_old (h : VarsAt W w b s R) {k : Int} {l1 l2 : List Loc} {x : Loc} (hx : s.locs = l1 ++ x :: l2) (hk : x.k = k) (h1 : ∀ y ∈ l1, y.k ≠ k) (n : Int) (hn : fnd x.es n = none) (c : Cel) :
    Calls Try.prog 42 #[.pointer (some ⟨b.vb, 0, none⟩), .int .i64 n, .int .i64 k, .agg #[.int .i64 c.k, .int .i64 c.n, .bool c.b]] w (InG W b s R n c l1 l2 x) := by
  have hb : VarsAt W (w.alloc (.cells #[.int .i64 c.k, .int .i64 c.n, .bool c.b] 60)) b s ((w.heap.size, celA c) :: R) := h.box 60 c.cells.toArray
  have c1 : (w.alloc (.cells #[.int .i64 c.k, .int .i64 c.n, .bool c.b] 60)).cell? ⟨b.vb, 1, none⟩ = some (.map (some b.lb)) := by rw [hb.vb.cell]; rfl
  have hl := (hb.lb).lookup (P := Try.prog) (loc_keys s.locs) Try.underlying53 Try.underlying3 (.int _ k) (zero_map _) false
  rw [loc_get, hx, fnd_at h1 hk] at hl
  simp only [Option.map_some, Option.getD_some, Bool.false_eq_true, if_false] at hl
  obtain ⟨w4, hr, hm4, ho4⟩ := (hb.loc (x := x) (by rw [hx]; simp)).update (P := Try.prog) (ent_keys x.es) Try.underlying52 Try.underlying3 (.int _ n) (.pointer (some ⟨w.heap.size, 0, none⟩))
  rw [show mput (entPairs x.es) (.int .i64 n) (.pointer (some ⟨w.heap.size, 0, none⟩)) = _ from ent_put w.heap.size c x.es hn] at hm4
  have h4 : VarsAt W w4 b (s.withLocs (l1 ++ { x with es := x.es ++ [⟨n, w.heap.size, c⟩] } :: l2)) R := hb.reinner hx ho4 hm4 (by rw [entHeap_snoc, List.append_assoc]; exact List.Perm.refl _)
  have c4 : w4.cell? ⟨b.vb, 1, none⟩ = some (.map (some b.lb)) := by rw [h4.vb.cell]; rfl
  have hl4 := (h4.lb).lookup (P := Try.prog) (loc_keys _) Try.underlying53 Try.underlying3 (.int _ k) (zero_map _) false
  rw [loc_get, withLocs_locs, fnd_at (x := { x with es := x.es ++ [⟨n, w.heap.size, c⟩] }) h1 hk] at hl4
  simp only [Option.map_some, Option.getD_some, Bool.false_eq_true, if_false] at hl4
  have hi4 := (h4.loc (x := { x with es := x.es ++ [⟨n, w.heap.size, c⟩] }) (by simp [Vst.withLocs])).lookup (P := Try.prog) (ent_keys _) Try.underlying52 Try.underlying3 (.int _ n) (zero_ptr _) false
  rw [ent_get, show fnd (x.es ++ [⟨n, w.heap.size, c⟩]) n = some ⟨n, w.heap.size, c⟩ from fnd_append hn _ rfl] at hi4
  simp only [Option.map_some, Option.getD_some, Bool.false_eq_true, if_false] at hi4
  have HV := hide h4
  clear h hb hm4 ho4 h4 hn h1 hk hx
  go_enter Try.func42, Try.ntmps42
  go_wp2
  go_ret
  exact ⟨w.heap.size, rfl, HV.out⟩
set_option maxRecDepth 100000 in
theorem in_new (h : VarsAt W w b s R) {k : Int} (hk : fndL s.locs k = none) (n : Int) (c : Cel) :
    Calls Try.prog 42 #[.pointer (some ⟨b.vb, 0, none⟩), .int .i64 n, .int .i64 k, .agg #[.int .i64 c.k, .int .i64 c.n, .bool c.b]] w fun r w' => ∃ gm, InG W b s R n c s.locs [] ⟨k, gm, []⟩ r w' := by
  have hb : VarsAt W (w.alloc (.cells #[.int .i64 c.k, .int .i64 c.n, .bool c.b] 60)) b s ((w.heap.size, celA c) :: R) := h.box 60 c.cells.toArray
  have c1 : (w.alloc (.cells #[.int .i64 c.k, .int .i64 c.n, .bool c.b] 60)).cell? ⟨b.vb, 1, none⟩ = some (.map (some b.lb)) := by rw [hb.vb.cell]; rfl
  have hl := (hb.lb).lookup (P := Try.prog) (loc_keys s.locs) Try.underlying53 Try.underlying3 (.int _ k) (zero_map _) false
  rw [loc_get, hk] at hl
  simp only [Option.map_none, Option.getD_none, Bool.false_eq_true, if_false] at hl
  have hm := hb.newMap
  simp only [World.size_alloc] at hm
  obtain ⟨w3, hr3, hm3, ho3⟩ := (hm.lb).update (P := Try.prog) (loc_keys s.locs) Try.underlying53 Try.underlying3 (.int _ k) (.map (some (w.heap.size + 1)))
  rw [loc_put (w.heap.size + 1) s.locs hk] at hm3
  have h3 : VarsAt W w3 b (s.withLocs (s.locs ++ ⟨k, w.heap.size + 1, []⟩ :: [])) ((w.heap.size, celA c) :: R) := hm.relocs ho3 hm3 (by
    rw [locHeap_mid]
    simp only [entHeap, locHeap, entPairs, List.map_nil, List.flatMap_nil, List.append_nil, List.append_assoc, List.cons_append, List.nil_append]
    exact List.Perm.refl _)
  have c3 : w3.cell? ⟨b.vb, 1, none⟩ = some (.map (some b.lb)) := by rw [h3.vb.cell]; rfl
  have hne : ∀ y ∈ s.locs, y.k ≠ k := fun y hy e => by
    have := List.find?_eq_none.1 hk y hy
    simp [e] at this
  have hl3 := (h3.lb).lookup (P := Try.prog) (loc_keys _) Try.underlying53 Try.underlying3 (.int _ k) (zero_map _) false
  rw [loc_get, withLocs_locs, fnd_at hne rfl] at hl3
  simp only [Option.map_some, Option.getD_some, Bool.false_eq_true, if_false] at hl3
  obtain ⟨w4, hr, hm4, ho4⟩ := (h3.loc (x := ⟨k, w.heap.size + 1, []⟩) (by simp [Vst.withLocs])).update (P := Try.prog) (ent_keys []) Try.underlying52 Try.underlying3 (.int _ n) (.pointer (some ⟨w.heap.size, 0, none⟩))
  rw [show mput (entPairs []) (.int .i64 n) (.pointer (some ⟨w.heap.size, 0, none⟩)) = _ from ent_put w.heap.size c [] rfl] at hm4
  have h4 : VarsAt W w4 b (s.withLocs (s.locs ++ ⟨k, w.heap.size + 1, [] ++ [⟨n, w.heap.size, c⟩]⟩ :: [])) R := h3.reinner (x := ⟨k, w.heap.size + 1, []⟩) rfl ho4 hm4 (by rw [entHeap_snoc, List.append_assoc]; exact List.Perm.refl _)
  have c4 : w4.cell? ⟨b.vb, 1, none⟩ = some (.map (some b.lb)) := by rw [h4.vb.cell]; rfl
  have hl4 := (h4.lb).lookup (P := Try.prog) (loc_keys _) Try.underlying53 Try.underlying3 (.int _ k) (zero_map _) false
  rw [loc_get, withLocs_locs, fnd_at hne rfl] at hl4
  simp only [Option.map_some, Option.getD_some, Bool.false_eq_true, if_false] at hl4
  have hi4 := (h4.loc (x := ⟨k, w.heap.size + 1, [] ++ [⟨n, w.heap.size, c⟩]⟩) (by simp [Vst.withLocs])).lookup (P := Try.prog) (ent_keys _) Try.underlying52 Try.underlying3 (.int _ n) (zero_ptr _) false
  rw [ent_get, show fnd ([] ++ [⟨n, w.heap.size, c⟩]) n = some ⟨n, w.heap.size, c⟩ from fnd_append rfl _ rfl] at hi4
  simp only [Option.map_some, Option.getD_some, Bool.false_eq_true, if_false] at hi4
  have HV := hide h4
  clear h hb hm hm3 ho3 h3 hm4 ho4 h4 hk hne
  have hmm := @run_makeMap Try.prog
  go_enter Try.func42, Try.ntmps42
  go_wp2
  go_ret
  exact ⟨w.heap.size + 1, w.heap.size, rfl, HV.out⟩
end
end Go.Proofs.Ytempnakdpmmmoaa
