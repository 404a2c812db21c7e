/- The chapter's example of the symbol table holds: lives returns true. No condition but the tables of utf8. -/
import Derived.Test.YtkhjdhoaephdkaaDoorNamNew
namespace Go.Proofs.YtkhjdhoaephdkaaDoor
open Go.RowKit

def car : ByteArray := ⟨#[99, 97, 114]⟩
theorem chk_car : chk car = 0 := by decide +kernel
theorem find_car : find fixedSyms car = none := by decide +kernel
theorem find_car1 : find (fixedSyms ++ [Sym.fresh car true]) car = some 62 := by decide +kernel
theorem find_car2 : find ((fixedSyms ++ [Sym.fresh car true]) ++ [Sym.fresh car false]) car = some 62 := by decide +kernel
theorem fixedSyms_len : fixedSyms.length = 62 := by decide
theorem intern_car : internM fixedSyms car = (62, 0, fixedSyms ++ [Sym.fresh car true]) := by simp [internM, chk_car, find_car, fixedSyms_len]
theorem intern_car1 : internM (fixedSyms ++ [Sym.fresh car true]) car = (62, 0, fixedSyms ++ [Sym.fresh car true]) := by simp [internM, chk_car, find_car1]
theorem fresh_car : freshM (fixedSyms ++ [Sym.fresh car true]) car = (63, 0, (fixedSyms ++ [Sym.fresh car true]) ++ [Sym.fresh car false]) := by simp [freshM, chk_car, fixedSyms_len]

/-- A table of the blocks made since W. -/
def Since (W : World) (tb : Nat) (L : List Sym) (w : World) : Prop := TableIs w tb L (newF W w) ∧ Below W.heap.size W w
theorem Since.next {W w w' : World} {tb : Nat} {L L' : List Sym} (h : Since W tb L w) (hl : Left w tb L' (newF W w) w') : Since W tb L' w' := by
  have hs := h.2.size
  have hs2 := hl.2.size
  refine ⟨hl.1.mono (fun k hk => ?_) fun k hk => hk.2, h.2.trans (hl.2.below hs fun k hk => hk.1)⟩
  rcases hk with hk | hk
  · exact ⟨hk.1, by have := hk.2; omega⟩
  · exact ⟨by have := hk.1; omega, hk.2⟩
theorem Since.below {W w w' : World} {tb : Nat} {L : List Sym} (h : Since W tb L w) (hb : Below w.heap.size w w') : Since W tb L w' := h.next (h.1.left hb)
theorem Since.tabs {W w : World} {tb : Nat} {L : List Sym} (h : Since W tb L w) (hT : Tabs W) : Tabs w := hT.below h.2

section
variable {W : World} {tb : Nat} {L : List Sym} {w : World}
/-- The methods at such a table. -/
theorem since_intern (h : Since W tb L w) (hT : Tabs W) (s : ByteArray) (hs : s.size * 8 ≤ 140737488355328) (hL : L.length ≤ 16384) {n e : Int} {L' : List Sym} (hm : internM L s = (n, e, L')) :
    Calls Tryd.prog 12 #[.pointer (some ⟨tb, 0, none⟩), .string s] w fun r w' => r = .returned (.tuple #[.int .i64 n, .int .i64 e]) ∧ Since W tb L' w' := by
  refine (intern_any h.1 (h.tabs hT) s hs hL).mono ?_
  rw [hm]
  rintro r w' ⟨rfl, hl⟩
  exact ⟨rfl, h.next hl⟩
theorem since_fresh (h : Since W tb L w) (hT : Tabs W) (s : ByteArray) (hs : s.size * 8 ≤ 140737488355328) (hL : L.length ≤ 16384) {n e : Int} {L' : List Sym} (hm : freshM L s = (n, e, L')) :
    Calls Tryd.prog 14 #[.pointer (some ⟨tb, 0, none⟩), .string s] w fun r w' => r = .returned (.tuple #[.int .i64 n, .int .i64 e]) ∧ Since W tb L' w' := by
  refine (fresh_any h.1 (h.tabs hT) s hs hL).mono ?_
  rw [hm]
  rintro r w' ⟨rfl, hl⟩
  exact ⟨rfl, h.next hl⟩
theorem since_find (h : Since W tb L w) (s : ByteArray) {n : Nat} {b : Bool} (hm : (find L s).getD 0 = n) (hb : (find L s).isSome = b) :
    Calls Tryd.prog 16 #[.pointer (some ⟨tb, 0, none⟩), .string s] w fun r w' => r = .returned (.tuple #[.int .i64 (n : Int), .bool b]) ∧ w = w' := by
  refine (find_any h.1 s).mono ?_
  rw [hm, hb]
  exact fun _ _ h => h
end

set_option maxRecDepth 100000 in
set_option maxHeartbeats 1000000 in
theorem lives_any (w : World) (hT : Tabs w) : Calls Tryd.prog 9 #[] w fun e w' => e = .returned (.bool true) ∧ Below w.heap.size w w' := by
  have HT := hide hT
  clear hT
  go_enter Tryd.func9, Tryd.ntmps9
  go_wp2_with fail
  refine (new_any w).mono ?_
  rintro e w1 ⟨tb, rfl, ht, hb⟩
  have h1 : Since w tb fixedSyms w1 := ⟨ht, hb⟩
  clear ht hb
  go_wp2_with fail
  refine (since_intern h1 HT.out car (by decide) (by decide) intern_car).mono ?_
  rintro e w2 ⟨rfl, h2⟩
  go_wp2_with fail
  refine (since_intern h2 HT.out car (by decide) (by decide) intern_car1).mono ?_
  rintro e w3 ⟨rfl, h3⟩
  go_wp2_with fail
  refine (since_fresh h3 HT.out car (by decide) (by decide) fresh_car).mono ?_
  rintro e w4 ⟨rfl, h4⟩
  go_wp2_with fail
  refine (since_find (n := 62) (b := true) h4 car (by rw [find_car2]; rfl) (by rw [find_car2]; rfl)).mono ?_
  rintro e w5 ⟨rfl, rfl⟩
  go_wp2
  go_ret
  exact ⟨rfl, h4.2⟩

end Go.Proofs.YtkhjdhoaephdkaaDoor
