/- What a new symbol table holds: the fixed symbols. No condition. -/
import Derived.Test.YtkhjdhoaephdkaaDoorNam
namespace Go.Proofs.YtkhjdhoaephdkaaDoor
open Go.RowKit

/-- The bytes of the fixed names, in their order. -/
def fixedBytes : List (List UInt8) := [
  [110, 105, 108],
  [116],
  [113, 117, 111, 116, 101],
  [102, 117, 110, 99, 116, 105, 111, 110],
  [96],
  [44],
  [44, 64],
  [108, 97, 109, 98, 100, 97],
  [99, 108, 111, 115, 117, 114, 101],
  [109, 97, 99, 114, 111],
  [38, 114, 101, 115, 116],
  [38, 111, 112, 116, 105, 111, 110, 97, 108],
  [105, 102],
  [99, 111, 110, 100],
  [97, 110, 100],
  [111, 114],
  [119, 104, 105, 108, 101],
  [112, 114, 111, 103, 110],
  [112, 114, 111, 103, 49],
  [115, 101, 116, 113],
  [108, 101, 116],
  [108, 101, 116, 42],
  [99, 97, 116, 99, 104],
  [117, 110, 119, 105, 110, 100, 45, 112, 114, 111, 116, 101, 99, 116],
  [99, 111, 110, 100, 105, 116, 105, 111, 110, 45, 99, 97, 115, 101],
  [100, 101, 102, 118, 97, 114],
  [100, 101, 102, 99, 111, 110, 115, 116],
  [100, 101, 102, 117, 110],
  [100, 101, 102, 109, 97, 99, 114, 111],
  [105, 110, 116, 101, 114, 97, 99, 116, 105, 118, 101],
  [102, 117, 110, 99, 97, 108, 108],
  [97, 112, 112, 108, 121],
  [109, 97, 112, 99, 97, 114],
  [109, 97, 112, 99],
  [101, 118, 97, 108],
  [116, 104, 114, 111, 119],
  [115, 105, 103, 110, 97, 108],
  [101, 114, 114, 111, 114],
  [113, 117, 105, 116],
  [118, 111, 105, 100, 45, 118, 97, 114, 105, 97, 98, 108, 101],
  [118, 111, 105, 100, 45, 102, 117, 110, 99, 116, 105, 111, 110],
  [119, 114, 111, 110, 103, 45, 116, 121, 112, 101, 45, 97, 114, 103, 117, 109, 101, 110, 116],
  [119, 114, 111, 110, 103, 45, 110, 117, 109, 98, 101, 114, 45, 111, 102, 45, 97, 114, 103, 117, 109, 101, 110, 116, 115],
  [97, 114, 103, 115, 45, 111, 117, 116, 45, 111, 102, 45, 114, 97, 110, 103, 101],
  [97, 114, 105, 116, 104, 45, 101, 114, 114, 111, 114],
  [111, 118, 101, 114, 102, 108, 111, 119, 45, 101, 114, 114, 111, 114],
  [115, 101, 116, 116, 105, 110, 103, 45, 99, 111, 110, 115, 116, 97, 110, 116],
  [110, 111, 45, 99, 97, 116, 99, 104],
  [105, 110, 118, 97, 108, 105, 100, 45, 102, 117, 110, 99, 116, 105, 111, 110],
  [105, 110, 118, 97, 108, 105, 100, 45, 114, 101, 97, 100, 45, 115, 121, 110, 116, 97, 120],
  [101, 110, 100, 45, 111, 102, 45, 102, 105, 108, 101],
  [99, 105, 114, 99, 117, 108, 97, 114, 45, 108, 105, 115, 116],
  [101, 120, 99, 101, 115, 115, 105, 118, 101, 45, 108, 105, 115, 112, 45, 110, 101, 115, 116, 105, 110, 103],
  [109, 101, 109, 111, 114, 121, 45, 102, 117, 108, 108],
  [116, 101, 120, 116, 45, 114, 101, 97, 100, 45, 111, 110, 108, 121],
  [98, 101, 103, 105, 110, 110, 105, 110, 103, 45, 111, 102, 45, 98, 117, 102, 102, 101, 114],
  [101, 110, 100, 45, 111, 102, 45, 98, 117, 102, 102, 101, 114],
  [115, 101, 97, 114, 99, 104, 45, 102, 97, 105, 108, 101, 100],
  [105, 110, 118, 97, 108, 105, 100, 45, 114, 101, 103, 101, 120, 112],
  [117, 115, 101, 114, 45, 101, 114, 114, 111, 114],
  [98, 117, 102, 102, 101, 114, 45, 114, 101, 97, 100, 45, 111, 110, 108, 121],
  [99, 121, 99, 108, 105, 99, 45, 102, 117, 110, 99, 116, 105, 111, 110, 45, 105, 110, 100, 105, 114, 101, 99, 116, 105, 111, 110]]
def strOf (l : List UInt8) : ByteArray := ⟨l.toArray⟩
def fixedNames : List ByteArray := fixedBytes.map strOf
/-- Interned symbols of names. -/
def symsOf (l : List ByteArray) : List Sym := l.map fun s => Sym.fresh s true
def fixedSyms : List Sym := symsOf fixedNames

section
variable {tb : Nat} {L : List Sym} {F : Nat → Prop} {w : World}
theorem TableIs.mono {G : Nat → Prop} (h : TableIs w tb L F) (hF : ∀ k, F k → G k) (hG : ∀ k, G k → k < w.heap.size) : TableIs w tb L G := by
  obtain ⟨vs, ib, a1, a2, a3, a4, a5, a6⟩ := h.holds
  refine ⟨⟨vs, ib, a1, a2, a3, hF _ a4, fun g hg => hF _ (a5 g hg), a6⟩, fun s hs => ?_, h.nodup, hF _ h.self, hG⟩
  rcases h.props s hs with hp | ⟨b, x, y, z⟩
  · exact .inl hp
  · exact .inr ⟨b, x, hF _ y, z⟩
theorem Left.trans {w1 w2 : World} {L1 L2 : List Sym} (h : Left w tb L1 F w1) (h2 : Left w1 tb L2 (grow F w w1) w2) : Left w tb L2 F w2 := by
  have hs := h.2.size
  have hs2 := h2.2.size
  refine ⟨h2.1.mono (fun k hk => ?_) (fun k hk => ?_), h.2.trans' h2.2 fun k hk => ?_⟩
  · rcases hk with (hk | ⟨x, y⟩) | ⟨x, y⟩
    · exact .inl hk
    · exact .inr ⟨x, by omega⟩
    · exact .inr ⟨by omega, y⟩
  · rcases hk with hk | ⟨x, y⟩
    · exact Nat.lt_of_lt_of_le (h.1.bound k (.inl hk)) hs2
    · exact y
  · rcases hk with hk | ⟨x, y⟩
    · exact .inl hk
    · exact .inr x
theorem Left.start (h : TableIs w tb L F) : Left w tb L F w := h.left (Below.refl _ _)

theorem findFrom_append (s : ByteArray) : ∀ (L M : List Sym) (k : Nat), findFrom k (L ++ M) s = (findFrom k L s).or (findFrom (k + L.length) M s)
  | [], M, k => by simp [findFrom]
  | x :: L, M, k => by
    have ih := findFrom_append s L M (k + 1)
    simp only [List.cons_append, findFrom]
    split
    · simp
    · rw [ih]
      congr 2
      simp
      omega
theorem findFrom_syms (s : ByteArray) : ∀ (l : List ByteArray) (k : Nat), s ∉ l → findFrom k (symsOf l) s = none
  | [], _, _ => rfl
  | x :: l, k, h => by
    have ih := findFrom_syms s l (k + 1) (fun h' => h (by simp [h']))
    have hx : (s == x) = false := by
      cases hc : s == x with
      | false => rfl
      | true => exact absurd ((MapKept.bytes_beq s x).1 hc) (fun e => h (by simp [e]))
    simp only [symsOf, List.map_cons, findFrom, Sym.fresh, hx, Bool.and_false] at ih ⊢
    exact ih

set_option maxRecDepth 100000 in
set_option maxHeartbeats 1000000 in
theorem fix_any (l : List ByteArray) (hnd : l.Nodup) (v : Value) (hr : Rd w v 1 l.length (l.map Value.string)) (hv : ∀ g, v.ownBlock = some g → ¬ F g) (h : TableIs w tb [] F) (hl : l.length < 1000) :
    Calls Tryd.prog 37 #[.pointer (some ⟨tb, 0, none⟩), v] w fun e w' => e = .returned (.tuple #[]) ∧ Left w tb (symsOf l) F w' := by
  obtain ⟨A, c, rfl, hrest⟩ := hr
  have HR := hide (show Rd w (.slice A l.length c) 1 l.length (l.map Value.string) from ⟨A, c, rfl, hrest⟩)
  clear hrest
  go_enter Tryd.func37, Tryd.ntmps37
  go_wp2
  go_loopw [8] (fun i wr => ∃ k : Nat, k ≤ l.length ∧ i = .int .i64 k ∧ Left w tb (symsOf (l.take k)) F wr) (fun i _ => l.length - (intOf i).toNat)
  case atStart => exact ⟨0, Nat.zero_le _, rfl, Left.start h⟩
  case round =>
    obtain ⟨k, hk, rfl, hleft⟩ := hrel
    by_cases hlt : k < l.length
    · have hz : decide ((k : Int) < (l.length : Int)) = true := by simp; omega
      obtain ⟨b, off, rfl, hcell'⟩ := (HR.out.only hleft.2 hv).cells (by omega)
      have ck : wr.cell? ⟨b, off + k, none⟩ = some (.string l[k]) := hcell' k _ (by simp [hlt])
      have hmem : l[k] ∉ l.take k := by
        intro hm
        obtain ⟨i, hi, e⟩ := List.mem_take_iff_getElem.1 hm
        have := (List.nodup_iff_pairwise_ne.1 hnd)
        exact (List.pairwise_iff_getElem.1 this i k (by omega) hlt (by omega)) e
      have HA := hide (add_true hleft.1 l[k] (by simp [symsOf]; omega) (findFrom_syms _ _ 0 hmem))
      clear hcell'
      go_wp2_with (go_at_call 39; refine (Calls.mono HA.out) ?_; rintro e w2 ⟨rfl, hw2⟩)
      go_roundw
      case rel =>
        refine ⟨k + 1, by omega, by go_num, ?_⟩
        have e : symsOf (l.take (k + 1)) = symsOf (l.take k) ++ [Sym.fresh l[k] true] := by
          unfold symsOf
          rw [List.take_succ_eq_append_getElem hlt, List.map_append]
          rfl
        rw [e]
        exact hleft.trans hw2
      case measure => simp [intOf]; omega
    · have hz : decide ((k : Int) < (l.length : Int)) = false := by simp; omega
      go_wp2
      go_end0
      refine ⟨rfl, ?_⟩
      rw [List.take_of_length_le (by omega)] at hleft
      exact hleft

theorem fixed_len : fixedNames.length = 62 := by decide
theorem fixed_nodup : fixedNames.Nodup := by
  have h : fixedBytes.Nodup := by decide +kernel
  unfold fixedNames
  rw [List.nodup_iff_pairwise_ne] at h ⊢
  rw [List.pairwise_map]
  refine h.imp fun {a b} hab e => hab ?_
  simpa [strOf] using e
/-- The blocks made between W and w. -/
def newF (W w : World) : Nat → Prop := fun k => W.heap.size ≤ k ∧ k < w.heap.size

set_option maxRecDepth 100000 in
set_option maxHeartbeats 4000000 in
theorem new_any (w : World) : Calls Tryd.prog 11 #[] w fun e w' => ∃ tb, e = .returned (.pointer (some ⟨tb, 0, none⟩)) ∧ TableIs w' tb fixedSyms (newF w w') ∧ Below w.heap.size w w' := by
  have hmm := @run_makeMap Tryd.prog
  go_enter Tryd.func11, Tryd.ntmps11
  go_wp2_with fail
  generalize hW : (w.alloc (.map #[] 0)).alloc (.cells #[.slice none 0 0, .map (some w.heap.size)] 76) = W
  have hsz : W.heap.size = w.heap.size + 2 := by subst hW; simp
  have hT : TableIs W (w.heap.size + 1) [] (newF w W) := by
    have hb : Blk W (w.heap.size + 1) 76 #[.slice none 0 0, .map (some w.heap.size)] := by
      subst hW
      simpa using Blk.new (w.alloc (.map #[] 0)) 76 #[.slice none 0 0, .map (some w.heap.size)]
    have hm : MapIs W w.heap.size [] := by
      subst hW
      exact (MapIs.new w).alloc _
    exact ⟨⟨_, _, hb, Sl.nil _ _ _, hm, ⟨Nat.le_refl _, by omega⟩, fun g h => by simp [Value.ownBlock] at h, by simp [propBlocks]⟩, fun s hs => by simp at hs, by simp [propBlocks], ⟨by omega, by omega⟩, fun k hk => hk.2⟩
  have hB : Below w.heap.size w W := by subst hW; exact ((Below.refl _ _).alloc (Nat.le_refl _) _).alloc (by simp) _
  have hB2 : Below W.heap.size W (W.alloc (.cells (fixedNames.map Value.string).toArray 9)) := (Below.refl _ _).alloc (Nat.le_refl _) _
  have hR : Rd (W.alloc (.cells (fixedNames.map Value.string).toArray 9)) (.slice (some ⟨w.heap.size + 2, 0, none⟩) 62 62) 1 fixedNames.length (fixedNames.map Value.string) := by
    have h := rd_row W 9 1 (fixedNames.map Value.string).toArray 62 (fixedNames.map Value.string) (by simp) (by simp [fixed_len]) (by simp [maxLen])
    rw [hsz] at h
    rw [fixed_len]
    exact h
  refine (fix_any fixedNames fixed_nodup _ hR (fun g hg => ?_) (hT.below hB2) (by rw [fixed_len]; decide)).mono ?_
  · simp [Value.ownBlock] at hg
    subst hg
    rintro ⟨_, h⟩
    omega
  rintro e w' ⟨rfl, hl⟩
  go_wp2
  go_ret
  refine ⟨_, rfl, hl.1.mono (fun k hk => ?_) (fun k hk => hk.2), hB.trans ((hB2.mono (by omega)).trans (hl.2.below (by simp; omega) fun k hk => hk.1))⟩
  rcases hk with hk | hk
  · exact ⟨hk.1, Nat.lt_of_lt_of_le (Nat.lt_of_lt_of_le hk.2 hB2.size) hl.2.size⟩
  · refine ⟨?_, hk.2⟩
    have := hB2.size
    omega
end

end Go.Proofs.YtkhjdhoaephdkaaDoor
