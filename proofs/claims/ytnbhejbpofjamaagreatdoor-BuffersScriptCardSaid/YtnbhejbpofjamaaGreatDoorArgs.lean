/- Lists of strings, of bools and of integers that came in, as the walks want them: no condition. -/
import Derived.Test.YtnbhejbpofjamaaGreatDoorBase
import Derived.SliceStrings
import Derived.Deep.Grids
import Derived.WideShapes
import Derived.Carry
namespace Go.Proofs.YtnbhejbpofjamaaGreatDoor
open Go.RowKit Go.ChangeShapes Go.WideShapes Go.Deep

section
variable {H : Type} {enc : TypeId × Value → H} {P : Program} {w : World} {base : Nat} {held : Bool}

theorem rd_of_cells {a : Addr} {n c : Nat} {xs : List Value} (hn : xs.length = n) (h : ∀ (i : Nat) u, xs[i]? = some u → w.cell? (a.add i) = some u) : Rd w (.slice (some a) n c) 1 n xs := by
  subst hn
  refine ⟨_, _, rfl, by simp, fun hp => ?_⟩
  have h0 := h 0 _ (List.getElem?_eq_getElem hp)
  obtain ⟨b, off, spot⟩ := a
  have hspot : spot = none := by simpa [Addr.add] using World.cell?_spot h0
  subst hspot
  refine ⟨b, off, rfl, fun j u hu => ?_⟩
  rw [← add_plain]
  exact h j u hu

theorem open_strs_in {t e : TypeId} {fuel : Nat} {cs : List Value} {x : DataW H × List MemPlace} (ht : P.underlying t = some (.slice e)) (he : P.underlying e = some .string) (hc : P.cellsOf e = 1)
    (h : DataW.trod enc P w base (fun _ => true) held fuel t cs = some x) : ∃ A c, ∃ ss : List ByteArray, cs = [.slice A ss.length c] ∧ ss.length ≤ maxLen ∧ Rd w (.slice A ss.length c) 1 ss.length (ss.map .string) := by
  rcases open_strings ht he hc h with ⟨rfl, _⟩ | ⟨a, len, cap, ss, rfl, _, hl, hm, hz, _, hcell, _⟩
  · exact ⟨none, 0, [], rfl, Nat.zero_le _, Rd.nil _ _⟩
  · simp only [if_true] at hz
    have e : (ss.take len).length = len := by simp; omega
    refine ⟨some a, cap, ss.take len, by rw [e], by omega, ?_⟩
    refine rd_of_cells (by simp) fun i u hu => ?_
    rw [List.getElem?_map] at hu
    obtain ⟨s, hs, rfl⟩ := Option.map_eq_some_iff.1 hu
    have hi : i < len := by
      have := (List.getElem?_eq_some_iff.1 hs).1
      omega
    rw [List.getElem?_take_of_lt hi] at hs
    have h1 := hcell i (by omega)
    simpa [List.getD, hs] using h1

theorem open_bools_in {t e : TypeId} {fuel : Nat} {cs : List Value} {x : DataW H × List MemPlace} (ht : P.underlying t = some (.slice e)) (he : P.underlying e = some .bool) (hc : P.cellsOf e = 1)
    (h : DataW.trod enc P w base (fun _ => true) held fuel t cs = some x) : ∃ A c, ∃ bs : List Bool, cs = [.slice A bs.length c] ∧ bs.length ≤ maxLen ∧ Rd w (.slice A bs.length c) 1 bs.length (bs.map .bool) := by
  rcases open_bools ht he hc h with ⟨rfl, _⟩ | ⟨a, len, cap, B, rfl, _, hl, hm, _, hcell⟩
  · exact ⟨none, 0, [], rfl, Nat.zero_le _, Rd.nil _ _⟩
  · have e : ((List.range len).map B).length = len := by simp
    refine ⟨some a, cap, (List.range len).map B, by rw [e], by omega, ?_⟩
    refine rd_of_cells (by simp) fun i u hu => ?_
    have hi : i < len := by
      have := (List.getElem?_eq_some_iff.1 hu).1
      simpa using this
    have h1 := hcell i (by omega)
    rw [h1]
    simpa [hi] using hu
end
end Go.Proofs.YtnbhejbpofjamaaGreatDoor
