/- NamesOnce returns true for every list of names and marks, under the tables of utf8 alone. -/
import Derived.Test.YtkhjdhoaephdkaaDoorNamFull
namespace Go.Proofs.YtkhjdhoaephdkaaDoor
open Go.RowKit

theorem findFrom_some {s : ByteArray} : ∀ {L : List Sym} {k n : Nat}, findFrom k L s = some n → ∃ j x, n = k + j ∧ L[j]? = some x ∧ x.name = s ∧ x.intd = true
  | [], k, n, h => by cases h
  | x :: L, k, n, h => by
    unfold findFrom at h
    split at h
    · rename_i hc
      cases h
      simp only [Bool.and_eq_true] at hc
      exact ⟨0, x, rfl, rfl, ((MapKept.bytes_beq _ _).1 hc.2).symm, hc.1⟩
    · obtain ⟨j, y, rfl, h2, h3⟩ := findFrom_some h
      exact ⟨j + 1, y, by omega, h2, h3⟩
theorem find_spec {L : List Sym} {s : ByteArray} {n : Nat} (h : find L s = some n) : ∃ x, L[n]? = some x ∧ x.name = s ∧ x.intd = true := by
  obtain ⟨j, x, rfl, h1, h2⟩ := findFrom_some h
  exact ⟨x, by simpa using h1, h2⟩
theorem find_mono {L : List Sym} {s : ByteArray} {n : Nat} (h : find L s = some n) (y : Sym) : find (L ++ [y]) s = some n := by
  unfold find at h ⊢
  rw [findFrom_append, h]
  rfl
theorem find_new (L : List Sym) (s : ByteArray) (h : find L s = none) : find (L ++ [Sym.fresh s true]) s = some L.length := by
  rw [find_snoc, h]
  simp [(MapKept.bytes_beq s s).2 rfl]

/-- What the symbols and the list of numbers hold after i names. -/
structure Once (ss : List ByteArray) (bs : List Bool) (i : Nat) (L : List Sym) (l : List Nat) : Prop where
  len : l.length = i
  most : L.length ≤ 62 + i
  each : ∀ (j : Nat) (s : ByteArray) (b : Bool), j < i → ss[j]? = some s → bs[j]? = some b → validS s = true →
    ∃ n x, l[j]? = some n ∧ L[n]? = some x ∧ x.name = s ∧ x.intd = b ∧ (b = true → find L s = some n)

theorem Once.start (ss : List ByteArray) (bs : List Bool) : Once ss bs 0 fixedSyms [] := ⟨rfl, by simp [fixedSyms_len], fun j _ _ h => absurd h (by omega)⟩
theorem Once.step {ss : List ByteArray} {bs : List Bool} {i : Nat} {L L' : List Sym} {l : List Nat} {s : ByteArray} {b : Bool} {z : Nat} (h : Once ss bs i L l) (hs : ss[i]? = some s) (hb : bs[i]? = some b)
    (hL : L' = L ∨ ∃ y, L' = L ++ [y]) (hz : validS s = true → ∃ x, L'[z]? = some x ∧ x.name = s ∧ x.intd = b ∧ (b = true → find L' s = some z)) : Once ss bs (i + 1) L' (l ++ [z]) := by
  refine ⟨by simp [h.len], ?_, fun j t c hj ht hc hv => ?_⟩
  · have := h.most
    rcases hL with rfl | ⟨y, rfl⟩
    · omega
    · simp; omega
  · by_cases hji : j = i
    · subst hji
      obtain rfl : s = t := Option.some.inj (hs.symm.trans ht)
      obtain rfl : b = c := Option.some.inj (hb.symm.trans hc)
      obtain ⟨x, h1⟩ := hz hv
      exact ⟨z, x, by rw [List.getElem?_append_right (by rw [h.len]; exact Nat.le_refl _), h.len]; simp, h1⟩
    · obtain ⟨n, x, h1, h2, h3, h4, h5⟩ := h.each j t c (by omega) ht hc hv
      have hn := (List.getElem?_eq_some_iff.1 h2).1
      refine ⟨n, x, by rw [List.getElem?_append_left (by rw [h.len]; omega)]; exact h1, ?_, h3, h4, fun hcb => ?_⟩
      · rcases hL with rfl | ⟨y, rfl⟩
        · exact h2
        · rw [List.getElem?_append_left hn]; exact h2
      · rcases hL with rfl | ⟨y, rfl⟩
        · exact h5 hcb
        · exact find_mono (h5 hcb) y

/-- A table made since W, and beside it a list of numbers made since W. -/
structure Pair (W : World) (tb : Nat) (L : List Sym) (va : Value) (l : List Nat) (w : World) : Prop where
  tab : ∃ F, TableIs w tb L F ∧ (∀ k, F k → W.heap.size ≤ k) ∧ ∀ g, va.ownBlock = some g → ¬ F g
  list : Sl w 3 1 va l.length (ints l)
  own : ∀ g, va.ownBlock = some g → W.heap.size ≤ g
  bel : Below W.heap.size W w

section
variable {W : World} {tb : Nat} {L : List Sym} {va : Value} {l : List Nat} {w : World}
theorem Pair.next {w' : World} {L' : List Sym} {F : Nat → Prop} (hF : TableIs w tb L F) (h1 : ∀ k, F k → W.heap.size ≤ k) (h2 : ∀ g, va.ownBlock = some g → ¬ F g) (h3 : Sl w 3 1 va l.length (ints l)) (h4 : ∀ g, va.ownBlock = some g → W.heap.size ≤ g) (h5 : Below W.heap.size W w)
    (hl : Left w tb L' F w') : Pair W tb L' va l w' := by
  have hs := h5.size
  refine ⟨⟨_, hl.1, fun k hk => ?_, fun g hg hk => ?_⟩, h3.only hl.2 h2, h4, h5.trans (hl.2.below hs h1)⟩
  · rcases hk with hk | hk
    · exact h1 k hk
    · exact Nat.le_trans hs hk.1
  · rcases hk with hk | hk
    · exact h2 g hg hk
    · have := h3.lt g hg
      have := hk.1
      omega
theorem Pair.below (h : Pair W tb L va l w) {w' : World} (hb : Below w.heap.size w w') : Pair W tb L va l w' := by
  obtain ⟨⟨F, hF, h1, h2⟩, h3, h4, h5⟩ := h
  exact Pair.next hF h1 h2 h3 h4 h5 (hF.left hb)
theorem Pair.tabs (h : Pair W tb L va l w) (hT : Tabs W) : Tabs w := hT.below h.bel
theorem Pair.start (h : Since W tb L w) : Pair W tb L (.slice none 0 0) [] w :=
  ⟨⟨_, h.1, fun k hk => hk.1, fun g hg => by simp [Value.ownBlock] at hg⟩, Sl.nil w 3 1, fun g hg => by simp [Value.ownBlock] at hg, h.2⟩
theorem pair_intern (h : Pair W tb L va l w) (hT : Tabs W) (s : ByteArray) (hs : s.size * 8 ≤ 140737488355328) (hL : L.length ≤ 16384) {n e : Int} {L' : List Sym} (hm : internM L s = (n, e, L')) :
    Calls Tryd.prog 12 #[.pointer (some ⟨tb, 0, none⟩), .string s] w fun r w' => r = .returned (.tuple #[.int .i64 n, .int .i64 e]) ∧ Pair W tb L' va l w' := by
  have ht := h.tabs hT
  obtain ⟨⟨F, hF, h1, h2⟩, h3, h4, h5⟩ := h
  refine (intern_any hF ht s hs hL).mono ?_
  rw [hm]
  rintro r w' ⟨rfl, hl⟩
  exact ⟨rfl, Pair.next hF h1 h2 h3 h4 h5 hl⟩
theorem pair_fresh (h : Pair W tb L va l w) (hT : Tabs W) (s : ByteArray) (hs : s.size * 8 ≤ 140737488355328) (hL : L.length ≤ 16384) {n e : Int} {L' : List Sym} (hm : freshM L s = (n, e, L')) :
    Calls Tryd.prog 14 #[.pointer (some ⟨tb, 0, none⟩), .string s] w fun r w' => r = .returned (.tuple #[.int .i64 n, .int .i64 e]) ∧ Pair W tb L' va l w' := by
  have ht := h.tabs hT
  obtain ⟨⟨F, hF, h1, h2⟩, h3, h4, h5⟩ := h
  refine (fresh_any hF ht s hs hL).mono ?_
  rw [hm]
  rintro r w' ⟨rfl, hl⟩
  exact ⟨rfl, Pair.next hF h1 h2 h3 h4 h5 hl⟩
theorem pair_find (h : Pair W tb L va l w) (s : ByteArray) {n : Nat} {b : Bool} (hm : (find L s).getD 0 = n) (hb : (find L s).isSome = b) :
    Calls Tryd.prog 16 #[.pointer (some ⟨tb, 0, none⟩), .string s] w fun r w' => r = .returned (.tuple #[.int .i64 (n : Int), .bool b]) ∧ w = w' := by
  obtain ⟨⟨F, hF, _⟩, _⟩ := h
  refine (find_any hF s).mono ?_
  rw [hm, hb]
  exact fun _ _ h => h
theorem pair_name (h : Pair W tb L va l w) (n : Nat) (x : Sym) (hn : L[n]? = some x) {s : ByteArray} (hs : x.name = s) : Calls Tryd.prog 18 #[.pointer (some ⟨tb, 0, none⟩), .int .i64 (n : Int)] w fun e w' => e = .returned (.tuple #[.string s, .bool true]) ∧ w = w' := by
  subst hs
  obtain ⟨⟨F, hF, _⟩, _⟩ := h
  exact name_any hF n x hn
theorem pair_interned (h : Pair W tb L va l w) (n : Nat) (x : Sym) (hn : L[n]? = some x) {b : Bool} (hb : x.intd = b) : Calls Tryd.prog 17 #[.pointer (some ⟨tb, 0, none⟩), .int .i64 (n : Int)] w fun e w' => e = .returned (.bool b) ∧ w = w' := by
  subst hb
  obtain ⟨⟨F, hF, _⟩, _⟩ := h
  exact interned_any hF n x hn
theorem pair_many (h : Pair W tb L va l w) : Calls Tryd.prog 13 #[.pointer (some ⟨tb, 0, none⟩)] w fun e w' => e = .returned (.int .i64 (L.length : Int)) ∧ w = w' := by
  obtain ⟨⟨F, hF, _⟩, _⟩ := h
  exact many_any hF
/-- Another number behind the list. -/
theorem Pair.snoc (h : Pair W tb L va l w) {o : Obj} {v' : Value} {w' : World} {z n : Nat} (h1 : Sl w' 3 1 v' n (ints l ++ [.int .i64 (z : Int)])) (hn : n = l.length + 1) (h2 : Only (fun b => va.ownBlock = some b) (w.alloc o) w')
    (h3 : v'.ownBlock = va.ownBlock ∨ v'.ownBlock = some (w.heap.size + 1)) : Pair W tb L v' (l ++ [z]) w' := by
  subst hn
  obtain ⟨⟨F, hF, a1, a2⟩, a3, a4, a5⟩ := h
  have hs := a5.size
  have hal : Below w.heap.size w (w.alloc o) := (Below.refl _ _).alloc (Nat.le_refl _) _
  have hF2 : TableIs w' tb L F := (hF.below hal).only h2 fun k hk e => a2 k e hk
  refine ⟨⟨F, hF2, a1, fun g hg hk => ?_⟩, by rw [ints_snoc]; simpa using h1, fun g hg => ?_, ?_⟩
  · rcases h3 with e | e
    · exact a2 g (e ▸ hg) hk
    · rw [e] at hg
      injection hg with hg
      have := hF.bound g hk
      omega
  · rcases h3 with e | e
    · exact a4 g (e ▸ hg)
    · rw [e] at hg
      injection hg with hg
      omega
  · exact (a5.trans (hal.mono hs)).trans (h2.below (by simp; omega) a4)
end

/-- What LightTexts answers. -/
def lightB (ss : List ByteArray) (most bytes : Int) : Bool := ss.all (fun s => decide ((s.size : Int) ≤ bytes)) && decide ((ss.length : Int) ≤ most)
theorem light_no {ss : List ByteArray} {most bytes : Int} {s : ByteArray} (h : s ∈ ss) (hs : bytes < (s.size : Int)) : lightB ss most bytes = false := by
  unfold lightB
  rw [Bool.and_eq_false_iff]
  left
  rw [List.all_eq_false]
  exact ⟨s, h, by simpa using hs⟩
theorem light_end {ss : List ByteArray} {most bytes : Int} (h : ∀ s ∈ ss, (s.size : Int) ≤ bytes) : lightB ss most bytes = decide ((ss.length : Int) ≤ most) := by
  unfold lightB
  rw [List.all_eq_true.2 fun s hs => decide_eq_true (h s hs), Bool.true_and]
set_option maxRecDepth 100000 in
theorem light_any (ss : List ByteArray) (most bytes : Int) (A : Option Addr) (c : Nat) (w : World) (h : Rd w (.slice A ss.length c) 1 ss.length (ss.map .string)) (hl : ss.length ≤ maxLen) :
    Calls Tryd.prog 15 #[.slice A ss.length c, .int .i64 most, .int .i64 bytes] w fun e w' => e = .returned (.bool (lightB ss most bytes)) ∧ Below w.heap.size w w' := by
  have HR := hide h
  have hmax : ss.length ≤ 9223372036854775807 := by unfold maxLen at hl; omega
  clear h hl
  go_enter Tryd.func15, Tryd.ntmps15
  go_wp2
  go_loopw [7] (fun i wr => ∃ k : Nat, k ≤ ss.length ∧ i = .int .i64 (k : Int) ∧ (∀ (j : Nat) s, j < k → ss[j]? = some s → (s.size : Int) ≤ bytes) ∧ Below w.heap.size w wr) (fun i _ => ss.length - (intOf i).toNat)
  case atStart => exact ⟨0, Nat.zero_le _, rfl, fun j s h => absurd h (by omega), Below.refl _ _⟩
  case round =>
    obtain ⟨k, hk, rfl, hall, hb⟩ := hrel
    have HA := hide hall
    clear hall
    by_cases hlt : k < ss.length
    · have hz : decide ((k : Int) < (ss.length : Int)) = true := by simp; omega
      obtain ⟨b, off, rfl, hcell⟩ := (HR.out.only (F := fun _ => False) (.of_below hb) fun _ _ f => f).cells (by omega)
      have hg : ss[k]? = some ss[k] := by simp
      generalize ss[k] = s at hg
      have ck : wr.cell? ⟨b, off + k, none⟩ = some (.string s) := hcell k _ (by simp [hg])
      have HG := hide hg
      clear hcell hg
      by_cases hsz : (s.size : Int) ≤ bytes
      · have hz2 : decide (bytes < (s.size : Int)) = false := by simp; omega
        have HS := hide hsz
        have HLT := hide hlt
        clear hsz
        go_wp2_with fail
        go_roundw
        case rel =>
          refine ⟨k + 1, HLT.out, by go_num, fun j t hj ht => ?_, hb⟩
          by_cases hjk : j = k
          · subst hjk
            obtain rfl := Option.some.inj (HG.out.symm.trans ht)
            exact HS.out
          · exact HA.out j t (by omega) ht
        case measure => simp [intOf]; omega
      · have hz2 : decide (bytes < (s.size : Int)) = true := by simp; omega
        have HS := hide (show bytes < (s.size : Int) by omega)
        clear hsz
        go_wp2_with fail
        go_ret
        exact ⟨by rw [light_no (List.mem_of_getElem? HG.out) HS.out]; rfl, hb⟩
    · have hz : decide ((k : Int) < (ss.length : Int)) = false := by simp; omega
      have HE := hide (light_end (most := most) (bytes := bytes) fun s hs => by
        obtain ⟨j, hj⟩ := List.getElem?_of_mem hs
        have := (List.getElem?_eq_some_iff.1 hj).1
        exact HA.out j s (by omega) hj)
      go_wp2_with fail
      go_ret
      exact ⟨by rw [HE.out]; rfl, hb⟩

end Go.Proofs.YtkhjdhoaephdkaaDoor
