/- The walk of NamesNames: it returns true and leaves everything that was there as it was, under the tables of utf8 alone. -/
import Derived.Test.YtkhjdhoaephdkaaDoorNamSet
namespace Go.Proofs.YtkhjdhoaephdkaaDoor
open Go.RowKit

/-- A table made since W, and a block beside it. -/
structure Far (W : World) (tb : Nat) (L : List Sym) (g : Nat) (t : TypeId) (cs : Array Value) (w : World) : Prop where
  tab : ∃ F, TableIs w tb L F ∧ (∀ k, F k → W.heap.size ≤ k) ∧ ¬ F g
  blk : Blk w g t cs
  bel : Below W.heap.size W w

section
variable {W : World} {tb : Nat} {L : List Sym} {g : Nat} {t : TypeId} {cs : Array Value} {w : World}
theorem Far.next {w' : World} {L' : List Sym} {F : Nat → Prop} (h1 : ∀ k, F k → W.heap.size ≤ k) (h2 : ¬ F g) (h3 : Blk w g t cs) (h4 : Below W.heap.size W w) (hl : Left w tb L' F w') : Far W tb L' g t cs w' := by
  have hs := h4.size
  have hlt : g < w.heap.size := lt_of_heap h3
  refine ⟨⟨_, hl.1, fun k hk => ?_, fun hk => ?_⟩, (hl.2.block g hlt h2).trans h3, h4.trans (hl.2.below hs h1)⟩
  · rcases hk with hk | hk
    · exact h1 k hk
    · exact Nat.le_trans hs hk.1
  · rcases hk with hk | hk
    · exact h2 hk
    · have := hk.1
      omega
theorem Far.below (h : Far W tb L g t cs w) {w' : World} (hb : Below w.heap.size w w') : Far W tb L g t cs w' := by
  obtain ⟨⟨F, hF, h1, h2⟩, h3, h4⟩ := h
  exact Far.next h1 h2 h3 h4 (hF.left hb)
theorem far_intern (h : Far W tb L g t cs w) (hT : Tabs W) (s : ByteArray) (hs : s.size * 8 ≤ 140737488355328) (hL : L.length ≤ 16384) {n e : Int} {L' : List Sym} (hm : internM L s = (n, e, L')) :
    Calls Tryd.prog 12 #[.pointer (some ⟨tb, 0, none⟩), .string s] w fun r w' => r = .returned (.tuple #[.int .i64 n, .int .i64 e]) ∧ Far W tb L' g t cs w' := by
  have ht := hT.below h.bel
  obtain ⟨⟨F, hF, h1, h2⟩, h3, h4⟩ := h
  refine (intern_any hF ht s hs hL).mono ?_
  rw [hm]
  rintro r w' ⟨rfl, hl⟩
  exact ⟨rfl, Far.next h1 h2 h3 h4 hl⟩
theorem far_fresh (h : Far W tb L g t cs w) (hT : Tabs W) (s : ByteArray) (hs : s.size * 8 ≤ 140737488355328) (hL : L.length ≤ 16384) {n e : Int} {L' : List Sym} (hm : freshM L s = (n, e, L')) :
    Calls Tryd.prog 14 #[.pointer (some ⟨tb, 0, none⟩), .string s] w fun r w' => r = .returned (.tuple #[.int .i64 n, .int .i64 e]) ∧ Far W tb L' g t cs w' := by
  have ht := hT.below h.bel
  obtain ⟨⟨F, hF, h1, h2⟩, h3, h4⟩ := h
  refine (fresh_any hF ht s hs hL).mono ?_
  rw [hm]
  rintro r w' ⟨rfl, hl⟩
  exact ⟨rfl, Far.next h1 h2 h3 h4 hl⟩
theorem far_table (h : Far W tb L g t cs w) : ∃ F, TableIs w tb L F := h.tab.imp fun _ h => h.1
end

theorem chk_fixed : ∀ s ∈ fixedNames, chk s = 0 := by decide +kernel
theorem fixed_size : ∀ s ∈ fixedNames, s.size ≤ 1000 := by decide +kernel
theorem find_fixed : ∀ i < 62, find fixedSyms (fixedNames.getD i ⟨#[]⟩) = some i := by decide +kernel
theorem at_fixed {i : Nat} {s : ByteArray} (h : fixedNames[i]? = some s) : fixedSyms[i]? = some (Sym.fresh s true) := by
  show (symsOf fixedNames)[i]? = _
  simp [symsOf, h]
theorem intern_fixed {i : Nat} {s : ByteArray} (h : fixedNames[i]? = some s) : internM fixedSyms s = ((i : Int), 0, fixedSyms) := by
  have hc := chk_fixed s (List.mem_of_getElem? h)
  have hi : i < 62 := by
    have := (List.getElem?_eq_some_iff.1 h).1
    rw [fixed_len] at this
    exact this
  have hf := find_fixed i hi
  rw [show fixedNames.getD i ⟨#[]⟩ = s by simp [List.getD, h]] at hf
  simp [internM, hc, hf]

def ffs : ByteArray := ⟨#[255]⟩
def longs : ByteArray := timesB ⟨#[97]⟩ 1001
def accents : ByteArray := timesB ⟨#[195, 169]⟩ 1000
theorem chk_ffs : chk ffs = 5 := by decide +kernel
theorem chk_longs : chk longs = 4 := by decide +kernel
theorem chk_accents : chk accents = 0 := by decide +kernel
theorem find_accents : find fixedSyms accents = none := by decide +kernel
theorem size_longs : longs.size = 1001 := by decide +kernel
theorem size_accents : accents.size = 2000 := by decide +kernel
theorem intern_ffs : internM fixedSyms ffs = (0, 5, fixedSyms) := by simp [internM, chk_ffs]
theorem fresh_longs : freshM fixedSyms longs = (0, 4, fixedSyms) := by simp [freshM, chk_longs]
theorem intern_accents : internM fixedSyms accents = (62, 0, fixedSyms ++ [Sym.fresh accents true]) := by simp [internM, chk_accents, find_accents, fixedSyms_len]
theorem times_longs (w : World) : Calls Tryd.prog 20 #[.string ⟨#[97]⟩, .int .i64 1001] w fun e w' => e = .returned (.string longs) ∧ w = w' := times_any ⟨#[97]⟩ 1001 w (by decide) (by decide)
theorem times_accents (w : World) : Calls Tryd.prog 20 #[.string ⟨#[195, 169]⟩, .int .i64 1000] w fun e w' => e = .returned (.string accents) ∧ w = w' := times_any ⟨#[195, 169]⟩ 1000 w (by decide) (by decide)

set_option maxRecDepth 100000 in
set_option maxHeartbeats 4000000 in
theorem names_walk (W : World) (hT : Tabs W) : Calls Tryd.prog 5 #[] W fun e w' => e = .returned (.bool true) ∧ Below W.heap.size W w' := by
  have HT := hide hT
  clear hT
  go_enter Tryd.func5, Tryd.ntmps5
  go_wp2_with fail
  refine (lives_any W HT.out).mono ?_
  rintro e w1 ⟨rfl, b1⟩
  have HT1 := hide (HT.out.below b1)
  have HB1 := hide b1
  clear HT b1
  go_wp2_with fail
  refine (new_any w1).mono ?_
  rintro e w2 ⟨tb, rfl, ht, hb⟩
  go_wp2_with fail
  refine (fixed_any w2).mono ?_
  rintro e w3 ⟨rfl, hl, hb3⟩
  have hf : Far w1 tb fixedSyms w2.heap.size 9 fixedCells w3 :=
    ⟨⟨_, ht.below hb3, fun k hk => hk.1, fun hk => by have := hk.2; omega⟩, hl, hb.trans (hb3.mono hb.size)⟩
  clear ht hb hl hb3
  generalize w2.heap.size = g at hf
  go_wp2
  go_loopw [3] (fun i wr => ∃ k : Nat, k ≤ 62 ∧ i = .int .i64 (k : Int) ∧ Far w1 tb fixedSyms g 9 fixedCells wr) (fun i _ => 62 - (intOf i).toNat)
  case atStart => exact ⟨0, by omega, rfl, hf⟩
  case round =>
    obtain ⟨k, hk, rfl, hf⟩ := hrel
    by_cases hlt : k < 62
    · have hz : decide ((k : Int) < (62 : Int)) = true := by simp; omega
      obtain ⟨s, hs⟩ : ∃ s, fixedNames[k]? = some s := ⟨_, List.getElem?_eq_getElem (by rw [fixed_len]; exact hlt)⟩
      have hcell : fixedCells[k]? = some (.string s) := by simp [fixedCells, hs]
      have c0 : wr.cell? ⟨g, k, none⟩ = some (.string s) := by rw [hf.blk.cell]; exact hcell
      have hss : (s == s) = true := (MapKept.bytes_beq s s).2 rfl
      have HN := hide (intern_fixed hs)
      have HA := hide (at_fixed hs)
      have hsz : s.size ≤ 1000 := fixed_size s (List.mem_of_getElem? hs)
      have HC := hide hcell
      have HLT := hide hlt
      clear hs hcell
      go_wp2_with fail
      obtain ⟨F, hF⟩ := far_table hf
      refine (name_any hF k _ HA.out).mono ?_
      rintro e w4 ⟨rfl, rfl⟩
      clear hF
      go_wp2_with fail
      refine (far_intern hf HT1.out s (by omega) (by decide) HN.out).mono ?_
      rintro e w4 ⟨rfl, hf4⟩
      clear hf c0
      have c0 : w4.cell? ⟨g, k, none⟩ = some (.string s) := by rw [hf4.blk.cell]; exact HC.out
      obtain ⟨F, hF⟩ := far_table hf4
      have HI := hide (interned_any hF k _ HA.out)
      have HF4 := hide hf4
      clear hF hf4
      go_wp2_with fail
      refine (Calls.mono HI.out) ?_
      rintro e w5 ⟨rfl, rfl⟩
      go_wp2_with fail
      go_roundw
      case rel => exact ⟨k + 1, HLT.out, by go_num, HF4.out⟩
      case measure => have := HLT.out; simp [intOf]; omega
    · have hz : decide ((k : Int) < (62 : Int)) = false := by simp; omega
      obtain rfl : k = 62 := by omega
      go_wp2_with fail
      refine (far_intern hf HT1.out ffs (by decide) (by decide) intern_ffs).mono ?_
      rintro e w4 ⟨rfl, hf4⟩
      clear hf
      go_wp2_with fail
      refine (times_longs w4).mono ?_
      rintro e w5 ⟨rfl, rfl⟩
      go_wp2_with fail
      refine (far_fresh hf4 HT1.out longs (by rw [size_longs]; decide) (by decide) fresh_longs).mono ?_
      rintro e w5 ⟨rfl, hf5⟩
      clear hf4
      go_wp2_with fail
      refine (times_accents w5).mono ?_
      rintro e w6 ⟨rfl, rfl⟩
      go_wp2_with fail
      refine (far_intern hf5 HT1.out accents (by rw [size_accents]; decide) (by decide) intern_accents).mono ?_
      rintro e w6 ⟨rfl, hf6⟩
      clear hf5
      have hlen : (fixedSyms ++ [Sym.fresh accents true]).length = 63 := by simp [fixedSyms_len]
      generalize hL : fixedSyms ++ [Sym.fresh accents true] = L at hf6 hlen
      have HLen := hide hlen
      clear hL hlen
      go_wp2_with fail
      obtain ⟨F, hF⟩ := far_table hf6
      refine (name_none hF (-1) (by omega)).mono ?_
      rintro e w7 ⟨rfl, rfl⟩
      clear hF
      go_wp2_with fail
      refine (intern_nil _ _).mono ?_
      rintro e w7 ⟨rfl, rfl⟩
      go_wp2_with fail
      obtain ⟨F, hF⟩ := far_table hf6
      have HM := hide (many_any hF)
      rw [HLen.out] at HM
      clear hF
      refine (Calls.mono HM.out) ?_
      rintro e w7 ⟨rfl, rfl⟩
      clear HM
      go_wp2_with fail
      refine (nil_any _).mono ?_
      rintro e w7 ⟨rfl, b7⟩
      go_wp2_with fail
      refine (setfunc_nil 3 1 0 _).mono ?_
      rintro e w8 ⟨rfl, b8⟩
      have hf8 := (hf6.below b7).below b8
      clear hf6 b7 b8
      go_wp2_with fail
      refine (many_nil _).mono ?_
      rintro e w9 ⟨rfl, rfl⟩
      go_wp2_with fail
      refine (copy_nil _).mono ?_
      rintro e w9 ⟨rfl, rfl⟩
      go_wp2_with fail
      refine (int_any 5 _).mono ?_
      rintro e w9 ⟨rfl, b9⟩
      have hf9 := hf8.below b9
      clear hf8 b9
      go_wp2_with fail
      obtain ⟨F, hF⟩ := far_table hf9
      refine (setfunc_const hF 0 5 (by have := HLen.out; omega)).mono ?_
      rintro e w10 ⟨rfl, b10⟩
      have hf10 := hf9.below b10
      clear hf9 b10 hF
      go_wp2_with fail
      refine (int_any 5 _).mono ?_
      rintro e w11 ⟨rfl, b11⟩
      have hf11 := hf10.below b11
      clear hf10 b11
      go_wp2_with fail
      obtain ⟨F, hF⟩ := far_table hf11
      refine (setfunc_unknown hF 100 0 5 (by have := HLen.out; omega)).mono ?_
      rintro e w12 ⟨rfl, b12⟩
      have HF := hide (hf11.below b12)
      clear hf11 b12 hF
      go_wp2_with fail
      go_ret
      exact ⟨rfl, HB1.out.trans (HF.out.bel.mono HB1.out.size)⟩

end Go.Proofs.YtkhjdhoaephdkaaDoor
