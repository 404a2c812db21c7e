/- Texts as lists of characters: plain words for what the reference of chapter 15 answers. No condition but those written. -/
import Derived.Test.YtghcmakhfdnimaaDoorUndLim
import Derived.Test.YtghcmakhfdnimaaDoorEnc
namespace Go.Proofs.YtghcmakhfdnimaaDoor
open Go.RowKit

def charsOf (s : ByteArray) : List Nat := (charsL s.data.toList).getD []
theorem charsOf_eq {s : ByteArray} (h : validS s = true) : charsL s.data.toList = some (charsOf s) := by
  unfold validS at h
  unfold charsOf
  cases hc : charsL s.data.toList with
  | none => rw [hc] at h; cases h
  | some l => rfl
theorem lenS_eq (s : ByteArray) : lenS s = (charsOf s).length := rfl
theorem ints_append (A B : List Nat) : ints (A ++ B) = ints A ++ ints B := by simp [ints]
theorem ints_take (A : List Nat) (m : Nat) : ints (A.take m) = (ints A).take m := by simp [ints]
theorem ints_drop (A : List Nat) (m : Nat) : ints (A.drop m) = (ints A).drop m := by simp [ints]
theorem ints_size (A : List Nat) : (ints A).length = A.length := by simp [ints]
def spanB (L : List Nat) (a c : Int) : Bool := decide (1 ≤ a ∧ a ≤ c ∧ c ≤ (L.length : Int) + 1)
def sliceR (L : List Nat) (a c : Int) : Value := if spanB L a c then .tuple #[.string (strOf ((L.drop (a - 1).toNat).take (c - a).toNat)), .int .i64 0] else .tuple #[.string ⟨#[]⟩, .int .i64 3]
/-- What an insertion returns, and leaves. -/
def insErr (L : List Nat) (p : Int) (s : ByteArray) : Int :=
  if p < 1 ∨ (L.length : Int) + 1 < p then 3 else if validS s = false then 5 else if 65536 < L.length + lenS s then 4 else 0
def insL (L : List Nat) (p : Int) (s : ByteArray) : List Nat :=
  if insErr L p s = 0 then L.take (p - 1).toNat ++ charsOf s ++ L.drop (p - 1).toNat else L
def delErr (L : List Nat) (x y : Int) : Int := if spanB L x y then 0 else 3
def delL (L : List Nat) (x y : Int) : List Nat := if spanB L x y then L.take (x - 1).toNat ++ L.drop (y - 1).toNat else L
theorem str_of_chars {s : ByteArray} (h : validS s = true) : strOf (charsOf s) = s := str_chars (charsOf_eq h)
theorem chars_of_str {L : List Nat} (h : ∀ c ∈ L, okc c) : charsOf (strOf L) = L := by
  unfold charsOf
  rw [chars_str h]
  rfl
theorem valid_str {L : List Nat} (h : ∀ c ∈ L, okc c) : validS (strOf L) = true := by
  unfold validS
  rw [chars_str h]
  rfl
theorem charsOf_okc {s : ByteArray} (h : validS s = true) : ∀ c ∈ charsOf s, okc c := chars_okc (charsOf_eq h)
theorem charsOf_nil : charsOf ⟨#[]⟩ = [] := by rfl
theorem strOf_nil : strOf [] = ⟨#[]⟩ := by rfl
theorem strOf_ne {L : List Nat} (h : L ≠ []) : strOf L ≠ ⟨#[]⟩ := fun e => by
  obtain ⟨c, r, rfl⟩ := List.exists_cons_of_ne_nil h
  have h1 := congrArg (fun b : ByteArray => b.data.toList.length) e
  have h2 : 0 < (encU c).length := by unfold encU; split <;> (try split) <;> (try split) <;> simp
  simp [strOf, encL_cons] at h1
  rw [h1.1] at h2
  simp at h2
end Go.Proofs.YtghcmakhfdnimaaDoor
