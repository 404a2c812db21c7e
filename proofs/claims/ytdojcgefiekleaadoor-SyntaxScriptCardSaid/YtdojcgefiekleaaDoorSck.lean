/- The chapter's examples. No condition but those written. -/
import Derived.Test.YtdojcgefiekleaaDoorScj
import Derived.Test.YtdojcgefiekleaaDoorSyba
namespace Go.Proofs.YtdojcgefiekleaaDoor
open Go.RowKit

def exS : ByteArray := ⟨#[40, 97, 32, 34, 98, 41, 34, 32, 99, 41, 32, 100]⟩
def exW : ByteArray := ⟨#[97, 98, 32, 99, 45, 100]⟩
theorem exS_chars : charsL exS.data.toList = some [40, 97, 32, 34, 98, 41, 34, 32, 99, 41, 32, 100] := by decide +kernel
theorem exW_chars : charsL exW.data.toList = some [97, 98, 32, 99, 45, 100] := by decide +kernel
theorem ex1 : sexpsR T0 exS 0 1 = (10, 0, 0) := by
  unfold sexpsR
  rw [exS_chars]
  decide +kernel
theorem ex2 : sexpsR T0 exS 10 (-1) = (0, 0, 0) := by
  unfold sexpsR
  rw [exS_chars]
  decide +kernel
theorem ex3 : wordsR T0 exW 0 2 = (4, true, 0) := by
  unfold wordsR
  rw [exW_chars]
  decide +kernel
set_option maxRecDepth 100000 in
set_option maxHeartbeats 4000000 in
theorem lives_any (w : World) (hT : Tabs w) : Calls Tryd.prog 11 #[] w fun e w' => e = .returned (.bool true) ∧ Below w.heap.size w w' := by
  have HT := hide hT
  have h1 := fun (W : World) (hW : Tabs W) (p : TL) (h : TabAt W p ⟨true, []⟩) => sexps_any h exS (by decide) hW 0 1 (by decide) (by decide)
  have h2 := fun (W : World) (hW : Tabs W) (p : TL) (h : TabAt W p ⟨true, []⟩) => sexps_any h exS (by decide) hW 10 (-1) (by decide) (by decide)
  have h3 := fun (W : World) (hW : Tabs W) (p : TL) (h : TabAt W p ⟨true, []⟩) => words_any h exW (by decide) hW 0 2 (by decide) (by decide)
  rw [show sexpsR ⟨true, []⟩ exS 0 1 = (10, 0, 0) from ex1] at h1
  rw [show sexpsR ⟨true, []⟩ exS 10 (-1) = (0, 0, 0) from ex2] at h2
  rw [show wordsR ⟨true, []⟩ exW 0 2 = (4, true, 0) from ex3] at h3
  unfold exS at h1 h2
  unfold exW at h3
  simp only [ansV, wrdV] at h1 h2 h3
  have H1 := hide h1
  have H2 := hide h2
  have H3 := hide h3
  clear h1 h2 h3 hT
  go_enter Tryd.func11, Tryd.ntmps11
  go_wp2_with (go_at_call 22; (with_reducible refine Calls.mono (tlisp_any _) ?_); rintro r w1 ⟨p, rfl, hb1, -, ht1⟩; have HB1 := hide hb1; have HA1 := hide ht1; clear hb1 ht1)
  go_wp2_with (first
    | (go_at_call 19; (with_reducible refine Calls.mono (H1.out _ (HT.out.below HB1.out) p HA1.out) ?_); rintro r w2 ⟨rfl, hb2⟩; have HB2 := hide ((HB1.out.trans (hb2.mono HB1.out.size)).alloc (HB1.out.trans (hb2.mono HB1.out.size)).size (.cells #[.int .i64 0, .int .i64 0] 40)); have HA2 := hide ((HA1.out.below hb2).alloc (.cells #[.int .i64 0, .int .i64 0] 40)); have HF2 := hide (Blk.new w2 40 #[.int .i64 0, .int .i64 0]); clear hb2)
    | (go_at_call 19; (with_reducible refine Calls.mono (H2.out _ (HT.out.below HB2.out) p HA2.out) ?_); rintro r w3 ⟨rfl, hb3⟩; have HB3 := hide ((HB2.out.trans (hb3.mono HB2.out.size)).alloc (HB2.out.trans (hb3.mono HB2.out.size)).size (.cells #[.int .i64 0, .int .i64 0] 40)); have HA3 := hide ((HA2.out.below hb3).alloc (.cells #[.int .i64 0, .int .i64 0] 40)); have HF3 := hide ((HF2.out.below hb3 HF2.out.lt).alloc (.cells #[.int .i64 0, .int .i64 0] 40)); have HG3 := hide (Blk.new w3 40 #[.int .i64 0, .int .i64 0]); clear hb3)
    | (go_at_call 14; (with_reducible refine Calls.mono (H3.out _ (HT.out.below HB3.out) p HA3.out) ?_); rintro r w4 ⟨rfl, hb4⟩; have HB4 := hide (HB3.out.trans (hb4.mono HB3.out.size)); have c0 := (HF3.out.below hb4 HF3.out.lt).cell 0; have c1 := (HG3.out.below hb4 HG3.out.lt).cell 0; clear hb4))
  go_ret
  exact ⟨rfl, HB4.out⟩
end Go.Proofs.YtdojcgefiekleaaDoor
