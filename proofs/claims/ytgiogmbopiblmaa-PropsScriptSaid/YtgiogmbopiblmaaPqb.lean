/- Next, NextOf. No condition but those written. -/
import Derived.Test.YtgiogmbopiblmaaPqa
namespace Go.Proofs.Ytgiogmbopiblmaa
open Go.RowKit

/-- The same list. -/
def sameL (a b : List Pr) : Bool := decide (a = b)
/-- The same value of a name. -/
def sameV (n : Int) (a b : List Pr) : Bool := decide (getP a n = getP b n)
theorem sameV_eq (n : Int) (a b : List Pr) : sameV n a b = (decide ((getV a n).1 = (getV b n).1) && decide ((getV a n).2 = (getV b n).2) && decide ((getP a n).isSome = (getP b n).isSome)) := by
  unfold sameV getV
  cases h1 : getP a n with
  | none =>
    cases h2 : getP b n with
    | none => simp
    | some y => simp
  | some x =>
    cases h2 : getP b n with
    | none => simp
    | some y =>
      obtain ⟨x1, x2⟩ := x
      obtain ⟨y1, y2⟩ := y
      simp
section
variable {w : World} {b : Nat} {sv : Value} {L : List (Pc × Value)} {N : Nat}
theorem ok_next (hN : N ≤ 1000) : SameOk w 59 #[] sameL N := by
  refine ⟨fun args w => Try.call59 args w, fun w v1 v2 q1 q2 _ h1 h2 hl1 hl2 => ?_⟩
  have HE := hide (equal_props q1 q2 v1 v2 w (Sl.rd h1) (Sl.rd h2) (by omega) (by omega))
  obtain ⟨A1, c1, rfl, _⟩ := Sl.form h1
  obtain ⟨A2, c2, rfl, _⟩ := Sl.form h2
  clear h1 h2
  show Calls Try.prog 59 #[.slice A1 q1.length c1, .slice A2 q2.length c2] w _
  go_enter Try.func59, Try.ntmps59
  go_wp2_with (go_at_call 60; (with_reducible refine Calls.mono HE.out ?_); rintro r w2 ⟨rfl, nd, rfl⟩)
  go_ret
  exact ⟨rfl, ((Only.refl (fun _ => False) w).drewN nd).below_none⟩
set_option maxRecDepth 100000 in
set_option maxHeartbeats 8000000 in
theorem ok_nextof {nb : Nat} {n : Int} (hb : Blk w nb 3 #[.int .i64 n]) (hN : N ≤ 1000) : SameOk w 63 #[.pointer (some ⟨nb, 0, none⟩)] (sameV n) N := by
  refine ⟨fun args w => Try.call63 args w, fun w' v1 v2 q1 q2 hbe h1 h2 hl1 hl2 => ?_⟩
  have hb' := hb.below hbe hb.lt
  have HB := hide hb'
  have c0 := hb'.cell 0
  have HG1 := hide (get_any q1 v1 n w' (Sl.rd h1) (by omega))
  have HG2 := hide (fun (w2 : World) (hb : Below w'.heap.size w' w2) => get_any q2 v2 n w2 (Sl.rd (h2.below hb)) (by omega))
  obtain ⟨A1, c1, rfl, _⟩ := Sl.form h1
  obtain ⟨A2, c2, rfl, _⟩ := Sl.form h2
  rw [sameV_eq]
  obtain ⟨x1, hx1⟩ : ∃ x, x = (getV q1 n).1 := ⟨_, rfl⟩
  obtain ⟨x2, hx2⟩ : ∃ x, x = (getV q1 n).2 := ⟨_, rfl⟩
  obtain ⟨y1, hy1⟩ : ∃ x, x = (getV q2 n).1 := ⟨_, rfl⟩
  obtain ⟨y2, hy2⟩ : ∃ x, x = (getV q2 n).2 := ⟨_, rfl⟩
  obtain ⟨s1, hs1⟩ : ∃ x, x = (getP q1 n).isSome := ⟨_, rfl⟩
  obtain ⟨s2, hs2⟩ : ∃ x, x = (getP q2 n).isSome := ⟨_, rfl⟩
  rw [← hx1, ← hx2, ← hs1] at HG1
  simp only [← hy1, ← hy2, ← hs2] at HG2
  rw [← hx1, ← hx2, ← hs1, ← hy1, ← hy2, ← hs2]
  clear hx1 hx2 hy1 hy2 hs1 hs2 h1 h2 hb' hb hbe hl1 hl2
  show Calls Try.prog 63 #[.slice A1 q1.length c1, .slice A2 q2.length c2, .pointer (some ⟨nb, 0, none⟩)] w' _
  by_cases h1 : x1 = y1
  · subst h1
    by_cases h2 : x2 = y2
    · subst h2
      cases s1 <;> cases s2
      all_goals
        go_enter Try.func63, Try.ntmps63
        go_upto_region 2 with (go_at_call 57; (with_reducible refine Calls.mono HG1.out ?_); rintro r w2 ⟨rfl, b2⟩; have HB2 := hide b2; clear b2)
        have HA2 := hide (HB2.out.trans ((below_box w2 (.cells #[.int .i64 x1, .int .i64 x2] 29)).mono HB2.out.size))
        have k1 := (HB.out.below HA2.out HB.out.lt).cell 0
        have HK1 := hide (Blk.new w2 29 #[.int .i64 x1, .int .i64 x2])
        go_upto_region 3 with (go_at_call 57; (with_reducible refine Calls.mono (HG2.out _ HA2.out) ?_); rintro r w3 ⟨rfl, b3⟩; have HB3 := hide b3; clear b3)
        have HK3 := hide ((HK1.out.below HB3.out HK1.out.lt).alloc (.cells #[.int .i64 x1, .int .i64 x2] 29))
        have HK4 := hide (Blk.new w3 29 #[.int .i64 x1, .int .i64 x2])
        have HB4 := hide ((HA2.out.trans (HB3.out.mono HA2.out.size)).trans ((below_box w3 (.cells #[.int .i64 x1, .int .i64 x2] 29)).mono (HA2.out.trans (HB3.out.mono HA2.out.size)).size))
        have d0 := HK3.out.cell 0
        have d1 := HK3.out.cell 1
        have e0 := HK4.out.cell 0
        have e1 := HK4.out.cell 1
        go_wp2
        go_ret
        exact ⟨by simp <;> rfl, HB4.out⟩
    · have r1 : (x2 == y2) = false := by simpa using h2
      have r2 : decide (x2 = y2) = false := decide_eq_false h2
      have HR := hide r2
      go_enter Try.func63, Try.ntmps63
      go_upto_region 2 with (go_at_call 57; (with_reducible refine Calls.mono HG1.out ?_); rintro r w2 ⟨rfl, b2⟩; have HB2 := hide b2; clear b2)
      have HA2 := hide (HB2.out.trans ((below_box w2 (.cells #[.int .i64 x1, .int .i64 x2] 29)).mono HB2.out.size))
      have k1 := (HB.out.below HA2.out HB.out.lt).cell 0
      have HK1 := hide (Blk.new w2 29 #[.int .i64 x1, .int .i64 x2])
      go_upto_region 3 with (go_at_call 57; (with_reducible refine Calls.mono (HG2.out _ HA2.out) ?_); rintro r w3 ⟨rfl, b3⟩; have HB3 := hide b3; clear b3)
      have HK3 := hide ((HK1.out.below HB3.out HK1.out.lt).alloc (.cells #[.int .i64 x1, .int .i64 y2] 29))
      have HK4 := hide (Blk.new w3 29 #[.int .i64 x1, .int .i64 y2])
      have HB4 := hide ((HA2.out.trans (HB3.out.mono HA2.out.size)).trans ((below_box w3 (.cells #[.int .i64 x1, .int .i64 y2] 29)).mono (HA2.out.trans (HB3.out.mono HA2.out.size)).size))
      have d0 := HK3.out.cell 0
      have d1 := HK3.out.cell 1
      have e0 := HK4.out.cell 0
      have e1 := HK4.out.cell 1
      go_wp2
      go_ret
      exact ⟨by rw [HR.out]; simp, HB4.out⟩
  · have r1 : (x1 == y1) = false := by simpa using h1
    have r2 : decide (x1 = y1) = false := decide_eq_false h1
    have HR := hide r2
    go_enter Try.func63, Try.ntmps63
    go_upto_region 2 with (go_at_call 57; (with_reducible refine Calls.mono HG1.out ?_); rintro r w2 ⟨rfl, b2⟩; have HB2 := hide b2; clear b2)
    have HA2 := hide (HB2.out.trans ((below_box w2 (.cells #[.int .i64 x1, .int .i64 x2] 29)).mono HB2.out.size))
    have k1 := (HB.out.below HA2.out HB.out.lt).cell 0
    have HK1 := hide (Blk.new w2 29 #[.int .i64 x1, .int .i64 x2])
    go_upto_region 3 with (go_at_call 57; (with_reducible refine Calls.mono (HG2.out _ HA2.out) ?_); rintro r w3 ⟨rfl, b3⟩; have HB3 := hide b3; clear b3)
    have HK3 := hide ((HK1.out.below HB3.out HK1.out.lt).alloc (.cells #[.int .i64 y1, .int .i64 y2] 29))
    have HK4 := hide (Blk.new w3 29 #[.int .i64 y1, .int .i64 y2])
    have HB4 := hide ((HA2.out.trans (HB3.out.mono HA2.out.size)).trans ((below_box w3 (.cells #[.int .i64 y1, .int .i64 y2] 29)).mono (HA2.out.trans (HB3.out.mono HA2.out.size)).size))
    have d0 := HK3.out.cell 0
    have d1 := HK3.out.cell 1
    have e0 := HK4.out.cell 0
    have e1 := HK4.out.cell 1
    go_wp2
    go_ret
    exact ⟨by rw [HR.out]; simp, HB4.out⟩
set_option maxRecDepth 100000 in
set_option maxHeartbeats 4000000 in
theorem Next_any (h : PropsAt w b sv L) (hg : Good (pcs L) N) (hN : N ≤ 1000) (at_ most : Int) : Calls Try.prog 22 #[.pointer (some ⟨b, 0, none⟩), .int .i64 at_, .int .i64 most] w fun e w' => e = .returned (.int .i64 (nextP sameL (pcs L) at_ most)) ∧ Below w.heap.size w w' := by
  have HN := hide (next_any h hg hN (ok_next hN) at_ most)
  clear h hg hN
  go_enter Try.func22, Try.ntmps22
  go_wp2_with (go_at_call 58; (with_reducible refine Calls.mono HN.out ?_); rintro r w2 ⟨rfl, b2⟩; have HB2 := hide b2; clear b2)
  go_ret
  exact ⟨rfl, HB2.out⟩
set_option maxRecDepth 100000 in
set_option maxHeartbeats 4000000 in
theorem NextOf_any (h : PropsAt w b sv L) (hg : Good (pcs L) N) (hN : N ≤ 1000) (at_ n most : Int) : Calls Try.prog 30 #[.pointer (some ⟨b, 0, none⟩), .int .i64 at_, .int .i64 n, .int .i64 most] w fun e w' => e = .returned (.int .i64 (nextP (sameV n) (pcs L) at_ most)) ∧ Below w.heap.size w w' := by
  have hb := below_box w (.cells #[.int .i64 n] 3)
  have HN := hide (next_any (h.below hb) hg hN (ok_nextof (Blk.new w 3 #[.int .i64 n]) hN) at_ most)
  have HB := hide hb
  clear h hg hN hb
  go_enter Try.func30, Try.ntmps30
  go_wp2_with (go_at_call 58; (with_reducible refine Calls.mono HN.out ?_); rintro r w2 ⟨rfl, b2⟩; have HB2 := hide (HB.out.trans (b2.mono HB.out.size)); clear b2)
  go_ret
  exact ⟨rfl, HB2.out⟩
end
end Go.Proofs.Ytgiogmbopiblmaa
