/- Two lists of symbols that differ in the blocks of the properties alone. Plain lists; no condition but those written. -/
import Derived.Test.YtkhjdhoaephdkaaDoorNamProp3
namespace Go.Proofs.YtkhjdhoaephdkaaDoor
open Go.RowKit

/-- A symbol without its block of properties. -/
def Sym.strip (x : Sym) : Sym := { x with pm := none }
/-- A symbol with another block of properties. -/
def Sym.withPm (x : Sym) (p : Option Nat) : Sym := { x with pm := p }
theorem strip_withPm (x : Sym) (p : Option Nat) : (x.withPm p).strip = x.strip := rfl
def stripped (L : List Sym) : List Sym := L.map Sym.strip
theorem stripped_len {L M : List Sym} (h : stripped M = stripped L) : M.length = L.length := by
  have := congrArg List.length h
  simpa [stripped] using this
theorem stripped_append (L M : List Sym) : stripped (L ++ M) = stripped L ++ stripped M := by simp [stripped]
theorem index_stripped : ∀ (L : List Sym) (k : Nat), indexFrom k (stripped L) = indexFrom k L
  | [], _ => rfl
  | x :: L, k => by
    have ih := index_stripped L (k + 1)
    simp only [stripped] at ih
    simp [stripped, indexFrom, ih, Sym.strip]
theorem find_stripped (s : ByteArray) : ∀ (L : List Sym) (k : Nat), findFrom k (stripped L) s = findFrom k L s
  | [], _ => rfl
  | x :: L, k => by
    have ih := find_stripped s L (k + 1)
    simp only [stripped] at ih
    simp [stripped, findFrom, ih, Sym.strip]
theorem index_twin {L M : List Sym} (h : stripped M = stripped L) (k : Nat) : indexFrom k M = indexFrom k L := by rw [← index_stripped M k, h, index_stripped]
theorem find_twin {L M : List Sym} (h : stripped M = stripped L) (s : ByteArray) : find M s = find L s := by
  unfold find
  rw [← find_stripped s M 0, h, find_stripped]
theorem at_twin {L M : List Sym} (h : stripped M = stripped L) {n : Nat} {x : Sym} (hn : L[n]? = some x) : ∃ y, M[n]? = some y ∧ y.strip = x.strip := by
  have e : (stripped M)[n]? = (stripped L)[n]? := by rw [h]
  simp only [stripped, List.getElem?_map, hn, Option.map_some] at e
  cases hy : M[n]? with
  | none => rw [hy] at e; simp at e
  | some y => rw [hy] at e; exact ⟨y, rfl, by simpa using e⟩
theorem stripped_set (L : List Sym) (n : Nat) (x : Sym) : stripped (L.set n x) = (stripped L).set n x.strip := by simp [stripped, List.map_set]
theorem strip_props {x y : Sym} (h : y.strip = x.strip) : y.props = x.props := by
  have e : y.strip.props = x.strip.props := by rw [h]
  exact e
theorem find_set {x y : Sym} (h1 : y.name = x.name) (h2 : y.intd = x.intd) (s : ByteArray) : ∀ (L : List Sym) (n k : Nat), L[n]? = some x → findFrom k (L.set n y) s = findFrom k L s
  | [], n, k, h => by simp at h
  | z :: L, 0, k, h => by
    simp at h
    subst h
    simp [findFrom, h1, h2]
  | z :: L, n + 1, k, h => by
    have ih := find_set h1 h2 s L n (k + 1) (by simpa using h)
    simp [findFrom, ih]
theorem prop_blocks_append (L M : List Sym) : propBlocks (L ++ M) = propBlocks L ++ propBlocks M := by simp [propBlocks]

end Go.Proofs.YtkhjdhoaephdkaaDoor
