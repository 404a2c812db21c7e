/- What the methods do at local values: SetLocal, IsLocal, Local, KillLocal, Drop. No condition but those written. -/
import Derived.Test.YtempnakdpmmmoaaVarLoc2
namespace Go.Proofs.Ytempnakdpmmmoaa
open Go.RowKit
attribute [local go_sem] neq_cells eql_cells

section
variable {W w w' : World} {b : Vb} {s : Vst} {R : Heap}
set_option maxRecDepth 100000 in
theorem const_none (h : VarsAt W w b s R) (n : Int) (hn : 0 ≤ n ∧ n < 16384) (hm : fndM s.marks n = none) : Calls Try.prog 19 #[.pointer (some ⟨b.vb, 0, none⟩), .int .i64 n] w fun e w' => e = .returned (.bool false) ∧ w = w' := by
  have HC := hide (check_ok h n hn)
  have c2 : w.cell? ⟨b.vb, 2, none⟩ = some (.map (some b.mb)) := by rw [h.vb.cell]; rfl
  have hl := (h.mb).lookup (P := Try.prog) (mark_keys s.marks) Try.underlying54 Try.underlying3 (.int _ n) (zero_u8 w) false
  rw [mark_get, hm] at hl
  simp only [Option.map_none, Option.getD_none, Bool.false_eq_true, if_false] at hl
  clear h hm hn
  go_enter Try.func19, Try.ntmps19
  go_wp2_with fail
  refine (Calls.mono HC.out) ?_
  rintro e w2 ⟨rfl, rfl⟩
  go_wp2
  go_ret
  exact ⟨rfl, rfl⟩
set_option maxRecDepth 100000 in
theorem setscope_zero (h : VarsAt W w b s R) : Calls Try.prog 16 #[.pointer (some ⟨b.vb, 0, none⟩), .int .i64 0] w
    fun r w' => r = .returned (.int .i64 0) ∧ VarsAt W w' b (s.withScope 0) R := by
  have HM := hide (made_any h)
  have HS := hide (h.rescope 0)
  have c4 : w.cell? ⟨b.vb, 4, none⟩ = some (.int .i64 s.scope) := by rw [h.vb.cell]; rfl
  have f4 := h.vb.frozen 4
  clear h
  go_enter Try.func16, Try.ntmps16
  go_wp2_with fail
  refine (Calls.mono HM.out) ?_
  rintro e w2 ⟨rfl, rfl⟩
  go_wp2
  go_ret
  exact ⟨rfl, HS.out⟩
set_option maxRecDepth 100000 in
theorem scope_any (h : VarsAt W w b s R) : Calls Try.prog 28 #[.pointer (some ⟨b.vb, 0, none⟩)] w fun r w' => r = .returned (.int .i64 s.scope) ∧ w = w' := by
  have HM := hide (made_any h)
  have c4 : w.cell? ⟨b.vb, 4, none⟩ = some (.int .i64 s.scope) := by rw [h.vb.cell]; rfl
  clear h
  go_enter Try.func28, Try.ntmps28
  go_wp2_with fail
  refine (Calls.mono HM.out) ?_
  rintro e w2 ⟨rfl, rfl⟩
  go_wp2
  go_ret
  exact ⟨rfl, rfl⟩
/-- SetLocal where the scope has no map. -/
theorem setlocal_new (h : VarsAt W w b s R) (n : Int) (hn : 0 ≤ n ∧ n < 16384) (hm : fndM s.marks n = none) (q : Int) (hq : 1 ≤ q ∧ q ≤ 65536) (hk : fndL s.locs q = none) (k m : Int) :
    Calls Try.prog 22 #[.pointer (some ⟨b.vb, 0, none⟩), .int .i64 n, .int .i64 q, .agg #[.int .i64 k, .int .i64 m]] w
    fun r w' => r = .returned (.int .i64 0) ∧ ∃ gm g, VarsAt W w' b (s.withLocs (s.locs ++ [⟨q, gm, [⟨n, g, ⟨k, m, true⟩⟩]⟩])) R := by
  have h1 := h.box 29 #[.int .i64 k, .int .i64 m]
  have HC := hide (check_ok h1 n hn)
  have HS := hide (scoped_ok q hq)
  have HK := hide (const_none h1 n hn hm)
  have HI := hide (in_new h1 hk n ⟨k, m, true⟩)
  have c1 : (w.alloc (.cells #[.int .i64 k, .int .i64 m] 29)).cell? ⟨b.vb, 1, none⟩ = some (.map (some b.lb)) := by rw [h1.vb.cell]; rfl
  have hl := (h1.lb).lookup (P := Try.prog) (loc_keys s.locs) Try.underlying53 Try.underlying3 (.int _ q) (zero_map _) false
  rw [loc_get, hk] at hl
  simp only [Option.map_none, Option.getD_none, Bool.false_eq_true, if_false] at hl
  have hi := lookup_nil (P := Try.prog) Try.underlying52 Try.underlying3 (.int _ n) (zero_ptr (w.alloc (.cells #[.int .i64 k, .int .i64 m] 29))) false
  simp only [Bool.false_eq_true, if_false] at hi
  clear h h1 hm hq hk
  go_enter Try.func22, Try.ntmps22
  go_wp2_with fail
  refine (Calls.mono HC.out) ?_
  rintro e w2 ⟨rfl, rfl⟩
  go_wp2_with fail
  refine (Calls.mono (HS.out _)) ?_
  rintro e w2 ⟨rfl, rfl⟩
  go_wp2_with fail
  refine (Calls.mono HK.out) ?_
  rintro e w2 ⟨rfl, rfl⟩
  go_wp2_with fail
  refine (Calls.mono HI.out) ?_
  rintro e w2 ⟨gm, g, rfl, hV⟩
  have HV := hide hV.drop
  clear hV HI HC HS HK
  go_wp2
  go_ret
  exact ⟨rfl, gm, g, HV.out⟩
set_option maxRecDepth 100000 in
theorem islocal_any (h : VarsAt W w b s R) (n k : Int) : Calls Try.prog 29 #[.pointer (some ⟨b.vb, 0, none⟩), .int .i64 n, .int .i64 k] w fun r w' => r = .returned (.bool (s.lcl k n).isSome) ∧ w = w' := by
  have HM := hide (made_any h)
  have c1 : w.cell? ⟨b.vb, 1, none⟩ = some (.map (some b.lb)) := by rw [h.vb.cell]; rfl
  have hl := (h.lb).lookup (P := Try.prog) (loc_keys s.locs) Try.underlying53 Try.underlying3 (.int _ k) (zero_map w) false
  rw [loc_get] at hl
  cases hx : fndL s.locs k with
  | none =>
    rw [hx] at hl
    simp only [Option.map_none, Option.getD_none, Bool.false_eq_true, if_false] at hl
    have hi := lookup_nil (P := Try.prog) Try.underlying52 Try.underlying3 (.int _ n) (zero_ptr w) false
    simp only [Bool.false_eq_true, if_false] at hi
    have HR := hide (show (s.lcl k n).isSome = false by unfold Vst.lcl Vst.inner; rw [hx]; rfl)
    clear h hx
    go_enter Try.func29, Try.ntmps29
    go_wp2_with fail
    refine (Calls.mono HM.out) ?_
    rintro e w2 ⟨rfl, rfl⟩
    go_wp2
    go_ret
    exact ⟨by rw [HR.out]; rfl, rfl⟩
  | some x =>
    rw [hx] at hl
    simp only [Option.map_some, Option.getD_some, Bool.false_eq_true, if_false] at hl
    have hi := (h.loc (fndL_mem hx).1).lookup (P := Try.prog) (ent_keys _) Try.underlying52 Try.underlying3 (.int _ n) (zero_ptr w) false
    rw [ent_get] at hi
    cases he : fnd x.es n with
    | none =>
      rw [he] at hi
      simp only [Option.map_none, Option.getD_none, Bool.false_eq_true, if_false] at hi
      have HR := hide (show (s.lcl k n).isSome = false by rw [lcl_eq hx, he]; rfl)
      clear h hx he
      go_enter Try.func29, Try.ntmps29
      go_wp2_with fail
      refine (Calls.mono HM.out) ?_
      rintro e w2 ⟨rfl, rfl⟩
      go_wp2
      go_ret
      exact ⟨by rw [HR.out]; rfl, rfl⟩
    | some e =>
      rw [he] at hi
      simp only [Option.map_some, Option.getD_some, Bool.false_eq_true, if_false] at hi
      have HR := hide (show (s.lcl k n).isSome = true by rw [lcl_eq hx, he]; rfl)
      clear h hx he
      go_enter Try.func29, Try.ntmps29
      go_wp2_with fail
      refine (Calls.mono HM.out) ?_
      rintro e w2 ⟨rfl, rfl⟩
      go_wp2
      go_ret
      exact ⟨by rw [HR.out]; rfl, rfl⟩
end
end Go.Proofs.Ytempnakdpmmmoaa
