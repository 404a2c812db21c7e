/- awake, FacesOver: the walks. No condition but those written. -/
import Derived.Test.YtmjogpacajbngaaFl
namespace Go.Proofs.Ytmjogpacajbngaa
open Go.RowKit

theorem resT {W w : World} {fb mb n : Nat} {D : Fm} {R : Heap} (h : FaAt W w fb mb D R) (hC : Chained D) (l : List ByteArray) (cs : Array Value) (hcs : cs.toList = strs l) (hn : n = l.length) (hm : l.length ≤ 1000000) {V : Value} (hV : lookV (over (accum D l) (fullA D dflt)) = V) :
    Calls Try.prog 28 #[.pointer (some ⟨fb, 0, none⟩), .slice (some ⟨w.heap.size, 0, none⟩) n n] (w.alloc (.cells cs 9)) fun e w' => e = .returned V ∧ FaAt W w' fb mb D R := by
  subst hn hV
  have hb := (Below.refl _ w).alloc (Nat.le_refl _) (.cells cs 9)
  have h1 := h.below hb
  have hr := rd_row w 9 1 cs l.length (strs l) hcs (by simp [strs]) (by unfold maxLen; omega)
  refine (resolve_any h1.fin hC l _ hr hm).mono ?_
  rintro e w' ⟨rfl, hb2⟩
  exact ⟨rfl, h1.below hb2⟩
theorem eql_look (w : World) (c d c' d' : Int) (p q r p' q' r' : Bool) : (binOp .eql 26 (.agg #[.int .i64 c, .int .i64 d, .bool p, .bool q, .bool r]) (.agg #[.int .i64 c', .int .i64 d', .bool p', .bool q', .bool r'])).run Try.prog w = .ok (.bool (decide (c = c' ∧ d = d' ∧ p = p' ∧ q = q' ∧ r = r'))) w := by
  go_simp
  repeat' split
  all_goals simp_all
set_option maxRecDepth 100000 in
set_option maxHeartbeats 8000000 in
theorem awake_any (w : World) : Calls Try.prog 15 #[] w fun e w' => e = .returned (.bool true) ∧ Below w.heap.size w w' := by
  have e1 := fun w => eql_look w 2 0 2 0 true false true true false true
  have e2 := fun w => eql_look w 0 0 0 0 false false true false false true
  go_enter Try.func15, Try.ntmps15
  go_wp2_with fail
  refine (Calls.mono (chapter_any w)) ?_
  rintro r w2 ⟨fb, mb, rfl, h2⟩
  have H2 := hide h2
  clear h2
  go_wp2_with fail
  refine Calls.mono (resT (n := 1) H2.out chained4 [sLoud] _ rfl rfl (by decide) res_loud) ?_
  rintro r w3 ⟨rfl, h3⟩
  have H3 := hide h3
  clear h3
  go_wp2_with fail
  refine Calls.mono (resT (n := 2) H3.out chained4 [sCalm, sLoud] _ rfl rfl (by decide) res_both) ?_
  rintro r w4 ⟨rfl, h4⟩
  have H4 := hide h4
  clear h4
  go_wp2_with fail
  refine Calls.mono (def5 H4.out) ?_
  rintro r w5 ⟨rfl, h5⟩
  have H5 := hide h5
  clear h5
  go_wp2
  go_ret
  exact ⟨rfl, H5.out.bel⟩
end Go.Proofs.Ytmjogpacajbngaa
