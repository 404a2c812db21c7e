/- What the functions on characters return: the program's and the reference's. For every string; a list of characters is made for strings of fewer than 2 to the 44 bytes. -/
import Derived.Test.YtnbhejbpofjamaaGreatDoorUtf
import Derived.Test.YtnbhejbpofjamaaGreatDoorShelf
import Derived.BigQuiet
import Derived.Deep.QuietTactic
namespace Go.Proofs.YtnbhejbpofjamaaGreatDoor
open Go.RowKit

/-- The tables of utf8, as their initialisers lay them. -/
def Tabs (w : World) : Prop := Lib.Utf8Tabs (Tryz.lays196_ren.g 3) (Tryz.lays196_ren.g 4) w
theorem Tabs.below {w w' : World} (h : Tabs w) (hb : Below w.heap.size w w') : Tabs w' := Utf8Tabs_below h hb

theorem info_int : (Tryz.prog.info? 3).map (fun i => (i.zero, i.size, i.bytes)) = some (some (.int .i64 0), 1, 8) := by kernel_rfl
/-- The cells of a list of numbers. -/
def ints (l : List Nat) : List Value := l.map fun c : Nat => Value.int .i64 (c : Int)
theorem ints_len (l : List Nat) : (ints l).length = l.length * 1 := by simp [ints]
theorem ints_snoc (l : List Nat) (c : Nat) : ints (l ++ [c]) = ints l ++ [.int .i64 (c : Int)] := by simp [ints]
theorem ints_one (l : List Nat) : ∀ u ∈ ints l, u.oneCell' = true := by
  intro u hu
  obtain ⟨c, _, rfl⟩ := List.mem_map.1 hu
  rfl

theorem rd_one (w : World) (e : TypeId) (x : Value) : Rd (w.alloc (.cells #[x] e)) (.slice (some ⟨w.heap.size, 0, none⟩) 1 1) 1 1 [x] := by
  have h := Sl.new w e 1 #[x] 1 1 (Nat.le_refl _) (by simp [maxLen]) (by simp)
  simpa using h.rd

/-- Is a string valid? -/
def validS (s : ByteArray) : Bool := (charsL s.data.toList).isSome
/-- How many characters a string has; 0: it is not valid. -/
def lenS (s : ByteArray) : Nat := ((charsL s.data.toList).getD []).length
theorem lenS_le (s : ByteArray) : lenS s ≤ s.size := by
  unfold lenS
  cases h : charsL s.data.toList with
  | none => simp
  | some c => exact chars_le _ c h

theorem valid_any (s : ByteArray) (w : World) (hs : s.size ≤ 9223372036854775807) (hT : Tabs w) : Calls Tryz.prog 71 #[.string s] w fun e w' => e = .returned (.bool (validS s)) ∧ Below w.heap.size w w' := by
  have hv : Lib.validD s.data.toList = validS s := valid_iff _
  have hc : Calls Tryz.prog 106 #[.string s] w fun e w' => e = .returned (.bool (validS s)) ∧ Below w.heap.size w w' := by
    rw [← hv]
    exact Any.utf8_ValidString Tryz.lays196 s w hs hT
  have HC := hide hc
  clear hc hv hT
  go_enter Tryz.func71, Tryz.ntmps71
  go_wp2_with (go_at_call 106; refine (Calls.mono HC.out) ?_; rintro e w' ⟨rfl, hb⟩)
  go_ret
  exact ⟨rfl, hb⟩

theorem len_any (s : ByteArray) (w : World) (hs : s.size < 9223372036854775807) (hT : Tabs w) : Calls Tryz.prog 72 #[.string s] w fun e w' => e = .returned (.int .i64 (lenS s : Int)) ∧ Below w.heap.size w w' := by
  cases hc : charsL s.data.toList with
  | none =>
    have hv : validS s = false := by simp [validS, hc]
    have HL := hide (show lenS s = 0 by simp [lenS, hc])
    have HA := hide (valid_any s w (by omega) hT)
    rw [hv] at HA
    clear hc hv hT
    go_enter Tryz.func72, Tryz.ntmps72
    go_wp2_with (go_at_call 71; refine (Calls.mono HA.out) ?_; rintro e w' ⟨rfl, hb⟩)
    go_ret
    exact ⟨by rw [HL.out]; rfl, hb⟩
  | some c =>
    have hv : validS s = true := by simp [validS, hc]
    have HL := hide (show Lib.runeCount s = lenS s by rw [count_chars hc]; simp [lenS, hc])
    have HA := hide (valid_any s w (by omega) hT)
    rw [hv] at HA
    clear hc hv hT
    go_enter Tryz.func72, Tryz.ntmps72
    go_wp2_with (first | (go_at_call 71; refine (Calls.mono HA.out) ?_; rintro e w' ⟨rfl, hb⟩) | (go_at_call 107; refine (Tryz.utf8_RuneCountInString s _ hs).mono ?_; rintro e w2 ⟨rfl, pos, rfl⟩))
    go_ret
    exact ⟨by rw [HL.out]; rfl, hb.alloc (by have := hb.size; omega) _⟩

end Go.Proofs.YtnbhejbpofjamaaGreatDoor
