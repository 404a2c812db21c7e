/- A set of buffers: none, known, check, Many, Current. No condition but those written. -/
import Derived.Test.YtnbhejbpofjamaaGreatDoorBfa
import Derived.Test.YtnbhejbpofjamaaGreatDoorChecked
import Derived.RegionTactic
import Derived.BigRegion
import Derived.ChangeAlike
import Derived.BigQuiet
import Derived.Deep.QuietTactic
import Derived.Laws.ResultCell
import Derived.Laws.Rows
import Derived.Lib.SlicesS
namespace Go.Proofs.YtnbhejbpofjamaaGreatDoor
open Go.RowKit

theorem eql_named (w : World) (r : Option Nat) : (binOp .eql 69 (.map r) (.map none)).run Tryz.prog w = .ok (.bool r.isNone) w := run_eql_map_nil w _ _ _ r Tryz.underlying69
attribute [local go_sem] eql_named
theorem zero_named (w : World) : (zeroValue 78).run Tryz.prog w = .ok (.pointer none) w := by kernel_rfl
def knownE (l : List Nb) (k : Int) : Int := if (fndB l k).isSome then 0 else 8
def chkE (n : ByteArray) : Int := if validS n = false then 5 else if n.size = 0 then 17 else if 200 < lenS n then 4 else 0
section
variable {W w w' : World} {b : Bb} {s : Bst} {R : Heap}
theorem BAt.c0 (h : BAt W w b s R) : w.cell? ⟨b.sb, 0, none⟩ = some (.map (some b.mb)) := (h.sb.cell 0).trans rfl
theorem BAt.c1 (h : BAt W w b s R) : w.cell? ⟨b.sb, 1, none⟩ = some b.ov := (h.sb.cell 1).trans rfl
theorem BAt.c2 (h : BAt W w b s R) : w.cell? ⟨b.sb, 2, none⟩ = some (.int .i64 (s.cur : Int)) := (h.sb.cell 2).trans rfl
theorem BAt.c3 (h : BAt W w b s R) : w.cell? ⟨b.sb, 3, none⟩ = some (.int .i64 (s.next : Int)) := (h.sb.cell 3).trans rfl
theorem bnone_any (h : BAt W w b s R) : Calls Tryz.prog 44 #[.pointer (some ⟨b.sb, 0, none⟩)] w fun e w' => e = .returned (.bool false) ∧ w = w' := by
  have c0 := h.c0
  clear h
  go_enter Tryz.func44, Tryz.ntmps44
  go_wp2
  go_ret
  exact ⟨rfl, rfl⟩
set_option maxRecDepth 100000 in
theorem known_any (h : BAt W w b s R) (k : Int) : Calls Tryz.prog 46 #[.pointer (some ⟨b.sb, 0, none⟩), .int .i64 k] w fun e w' => e = .returned (.int .i64 (knownE s.all k)) ∧ w = w' := by
  have c0 := h.c0
  have HN := hide (bnone_any h)
  have hl := (h.mb).lookup (P := Tryz.prog) (nb_keys s.all) Tryz.underlying69 Tryz.underlying3 (.int _ k) (zero_named w) false
  rw [nb_get] at hl
  clear h
  cases he : fndB s.all k with
  | some x =>
    have HE := hide (show knownE s.all k = 0 by unfold knownE; rw [he]; rfl)
    rw [he] at hl
    simp only [Option.map_some, Option.getD_some, Bool.false_eq_true, if_false] at hl
    clear he
    go_enter Tryz.func46, Tryz.ntmps46
    go_wp2_with (go_at_call 44; refine (Calls.mono HN.out) ?_; rintro e w' ⟨rfl, rfl⟩)
    go_ret
    exact ⟨by rw [HE.out]; rfl, rfl⟩
  | none =>
    have HE := hide (show knownE s.all k = 8 by unfold knownE; rw [he]; rfl)
    rw [he] at hl
    simp only [Option.map_none, Option.getD_none, Bool.false_eq_true, if_false] at hl
    clear he
    go_enter Tryz.func46, Tryz.ntmps46
    go_wp2_with (go_at_call 44; refine (Calls.mono HN.out) ?_; rintro e w' ⟨rfl, rfl⟩)
    go_ret
    exact ⟨by rw [HE.out]; rfl, rfl⟩
theorem many_any (h : BAt W w b s R) : Calls Tryz.prog 20 #[.pointer (some ⟨b.sb, 0, none⟩)] w fun e w' => e = .returned (.int .i64 (s.all.length : Int)) ∧ w = w' := by
  have c0 := h.c0
  have HN := hide (bnone_any h)
  have hl := (h.mb).len (P := Tryz.prog) Tryz.underlying69 3
  clear h
  go_enter Tryz.func20, Tryz.ntmps20
  go_wp2_with (go_at_call 44; refine (Calls.mono HN.out) ?_; rintro e w' ⟨rfl, rfl⟩)
  go_ret
  exact ⟨by simp [nbPairs], rfl⟩
theorem current_any (h : BAt W w b s R) : Calls Tryz.prog 21 #[.pointer (some ⟨b.sb, 0, none⟩)] w fun e w' => e = .returned (.int .i64 (s.cur : Int)) ∧ w = w' := by
  have c2 := h.c2
  have HN := hide (bnone_any h)
  clear h
  go_enter Tryz.func21, Tryz.ntmps21
  go_wp2_with (go_at_call 44; refine (Calls.mono HN.out) ?_; rintro e w' ⟨rfl, rfl⟩)
  go_ret
  exact ⟨rfl, rfl⟩
end
theorem chk_any (n : ByteArray) (w : World) (hT : Tabs w) (hs : n.size < 9223372036854775807) : Calls Tryz.prog 48 #[.string n] w fun e w' => e = .returned (.int .i64 (chkE n)) ∧ Below w.heap.size w w' := by
  have HV := hide (valid_any n w (by omega) hT)
  have HL := hide (fun w' (hb : Below w.heap.size w w') => len_any n w' hs (hT.below hb))
  have HS := hide hs
  clear hT hs
  cases hv : validS n with
  | false =>
    have HE := hide (show chkE n = 5 by unfold chkE; rw [if_pos hv])
    rw [hv] at HV
    clear hv HL
    go_enter Tryz.func48, Tryz.ntmps48
    go_wp2_with fail
    refine (Calls.mono HV.out) ?_
    rintro e w1 ⟨rfl, b1⟩
    go_wp2_with fail
    go_ret
    exact ⟨by rw [HE.out]; rfl, b1⟩
  | true =>
    rw [hv] at HV
    by_cases h0 : n.size = 0
    · have HE := hide (show chkE n = 17 by unfold chkE; rw [if_neg (by rw [hv]; simp), if_pos h0])
      obtain rfl : n = ⟨#[]⟩ := by
        cases n with
        | mk d => exact congrArg ByteArray.mk (Array.eq_empty_of_size_eq_zero h0)
      clear hv HL h0
      go_enter Tryz.func48, Tryz.ntmps48
      go_wp2_with fail
      refine (Calls.mono HV.out) ?_
      rintro e w1 ⟨rfl, b1⟩
      go_wp2_with fail
      go_ret
      exact ⟨by rw [HE.out]; rfl, b1⟩
    · have y1 : n.toList.isEmpty = false := by
        cases he : n.toList.isEmpty with
        | false => rfl
        | true =>
          rw [List.isEmpty_iff] at he
          have h9 : n = ⟨#[]⟩ := (Lib.bytes_beq_iff _ _).1 (by rw [he]; kernel_rfl)
          exact absurd (by rw [h9]; rfl) h0
      by_cases h1 : 200 < lenS n
      · have HE := hide (show chkE n = 4 by unfold chkE; rw [if_neg (by rw [hv]; simp), if_neg h0, if_pos h1])
        have y2 : decide ((200 : Int) < (lenS n : Int)) = true := by simp; omega
        clear hv h0 h1
        go_enter Tryz.func48, Tryz.ntmps48
        go_wp2_with fail
        refine (Calls.mono HV.out) ?_
        rintro e w1 ⟨rfl, b1⟩
        have HB1 := hide b1
        clear b1
        go_wp2_with fail
        refine (Calls.mono (HL.out _ HB1.out)) ?_
        rintro e w2 ⟨rfl, b2⟩
        go_wp2_with fail
        go_ret
        exact ⟨by rw [HE.out]; rfl, HB1.out.trans (b2.mono HB1.out.size)⟩
      · have HE := hide (show chkE n = 0 by unfold chkE; rw [if_neg (by rw [hv]; simp), if_neg h0, if_neg h1])
        have y2 : decide ((200 : Int) < (lenS n : Int)) = false := by simp; omega
        clear hv h0 h1
        go_enter Tryz.func48, Tryz.ntmps48
        go_wp2_with fail
        refine (Calls.mono HV.out) ?_
        rintro e w1 ⟨rfl, b1⟩
        have HB1 := hide b1
        clear b1
        go_wp2_with fail
        refine (Calls.mono (HL.out _ HB1.out)) ?_
        rintro e w2 ⟨rfl, b2⟩
        go_wp2_with fail
        go_ret
        exact ⟨by rw [HE.out]; rfl, HB1.out.trans (b2.mono HB1.out.size)⟩
end Go.Proofs.YtnbhejbpofjamaaGreatDoor
