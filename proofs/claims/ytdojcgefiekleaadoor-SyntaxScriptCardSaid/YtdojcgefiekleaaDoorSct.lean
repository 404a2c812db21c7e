/- Words over and over: plain laws. No condition but those written. -/
import Derived.Test.YtdojcgefiekleaaDoorScn
import Derived.OwnWalk
namespace Go.Proofs.YtdojcgefiekleaaDoor
open Go.RowKit

section
variable {T : Tb} {L : List Nat} {i : Nat}
theorem words_more1 {st m : Int} {x : Nat} {o : Bool} (h : st = 1 ∨ st = -1) (hm : 0 < m * st) (h1 : words T L st i = (x, o)) : words T L m i = if o then words T L (m - st) x else (x, false) := by
  rcases h with rfl | rfl
  · have h2 : wordsF T L 1 i = (x, o) := h1
    unfold words
    rw [if_neg (show ¬ m < 0 by omega), if_neg (show ¬ m - 1 < 0 by omega), show m.toNat = (m - 1).toNat + 1 by omega, wordsF_more, h2]
    cases o <;> rfl
  · have h2 : wordsB T L 1 i = (x, o) := h1
    have e : words T L m i = wordsB T L ((-(m + 1)).toNat + 1) i := by
      unfold words
      rw [if_pos (by omega), show (-m).toNat = (-(m + 1)).toNat + 1 by omega]
    rw [e, wordsB_more, h2]
    cases o
    · rfl
    · simp only [if_true]
      unfold words
      by_cases h3 : m - -1 < 0
      · rw [if_pos h3, show (-(m - -1)).toNat = (-(m + 1)).toNat by omega]
      · rw [if_neg h3, show (-(m + 1)).toNat = 0 by omega, show (m - -1).toNat = 0 by omega]
        rfl
theorem words_zero : words T L 0 i = (i, true) := rfl
/-- What a move over one word passes. -/
theorem word1_all {st : Int} {x : Nat} {o : Bool} (h : st = 1 ∨ st = -1) (hi : i ≤ L.length) (h1 : words T L st i = (x, o)) : x ≤ L.length ∧ (st = 1 → i ≤ x) ∧ (st = -1 → x ≤ i) ∧
    (o = false → (runs T L (max i x - min i x) (min i x) (0, false)).1 = 0 ∧ (x = 0 ∨ x = L.length)) ∧
    (o = true → (runs T L (max i x - min i x) (min i x) (0, false)).1 = 1 ∧ (st = 1 → 0 < x ∧ T.at_ L (x - 1) = 1 ∧ (x < L.length → T.at_ L x ≠ 1)) ∧ (st = -1 → x < L.length ∧ T.at_ L x = 1 ∧ (0 < x → T.at_ L (x - 1) ≠ 1))) := by
  rcases h with rfl | rfl
  · have h2 := word1_F (T := T) hi (show wordsF T L 1 i = (x, o) from h1)
    rw [Nat.max_eq_right h2.1, Nat.min_eq_left h2.1]
    exact ⟨h2.2.1, fun _ => h2.1, fun h => absurd h (by decide), fun h => ⟨(h2.2.2.1 h).1, .inr (h2.2.2.1 h).2⟩, fun h => ⟨(h2.2.2.2 h).1, fun _ => (h2.2.2.2 h).2, fun h => absurd h (by decide)⟩⟩
  · have h2 := word1_B (T := T) hi (show wordsB T L 1 i = (x, o) from h1)
    rw [Nat.max_eq_left h2.1, Nat.min_eq_right h2.1]
    exact ⟨by omega, fun h => absurd h (by decide), fun _ => h2.1, fun h => ⟨(h2.2.1 h).1, .inl (h2.2.1 h).2⟩, fun h => ⟨(h2.2.2 h).1, fun h => absurd h (by decide), fun _ => (h2.2.2 h).2⟩⟩
theorem runs_snoc {a q : Nat} {s : Nat × Bool} {c : Nat} {b : Bool} (h : runs T L q a s = (c, b)) : runs T L (q + 1) a s = (if T.at_ L (a + q) = 1 ∧ b = false then c + 1 else c, decide (T.at_ L (a + q) = 1)) := by
  rw [runs_add, h]
  rfl
end
/-- The table and the reference's list of the characters. -/
structure NSt (w0 w : World) (p : TL) (T : Tb) (v : Value) (L : List Nat) : Prop where
  bel : Below w0.heap.size w0 w
  scan : Scan w p T v L
theorem NSt.below {w0 w w' : World} {p : TL} {T : Tb} {v : Value} {L : List Nat} (h : NSt w0 w p T v L) (hb : Below w.heap.size w w') : NSt w0 w' p T v L := ⟨h.bel.trans (hb.mono h.bel.size), h.scan.below hb⟩
/-- What the reference's List answers, parted. -/
theorem rl_none {s : ByteArray} {w : World} (hs : s.size * 8 ≤ 140737488355328) (hc : charsL s.data.toList = none) : Calls Tryd.prog 12 #[.string s] w fun e w' => e = .returned (.tuple #[.slice none 0 0, .int .i64 5]) ∧ Below w.heap.size w w' := by
  refine (list_any s w hs).mono ?_
  rintro e w' ⟨hb, hm⟩
  rw [hc] at hm
  exact ⟨hm, hb⟩
theorem rl_some {s : ByteArray} {w : World} (hs : s.size * 8 ≤ 140737488355328) {L : List Nat} (hc : charsL s.data.toList = some L) : Calls Tryd.prog 12 #[.string s] w fun e w' => ∃ A c, e = .returned (.tuple #[.slice A L.length c, .int .i64 0]) ∧ Below w.heap.size w w' ∧ Rd w' (.slice A L.length c) 1 L.length (ints L) := by
  refine (list_any s w hs).mono ?_
  rintro e w' ⟨hb, hm⟩
  rw [hc] at hm
  obtain ⟨v, he, hs, _⟩ := hm
  obtain ⟨A, c, rfl, _⟩ := hs.form
  exact ⟨A, c, he, hb, hs.rd⟩
/-- The class of a character of the list, by its index. -/
theorem NSt.class_ {w0 w : World} {p : TL} {T : Tb} {v : Value} {L : List Nat} (h : NSt w0 w p T v L) (j : Nat) (c : Int) (hc : c = ((L.getD j 0 : Nat) : Int)) : Calls Tryd.prog 16 #[.pointer (some ⟨p.t, 0, none⟩), .int .i64 c] w fun e w' => e = .returned (.int .i64 (T.at_ L j)) ∧ Below w.heap.size w w' := by
  subst hc
  exact class_any h.scan.tab _
end Go.Proofs.YtdojcgefiekleaaDoor
namespace Go.Proofs.YtdojcgefiekleaaDoor
open Go.RowKit

theorem results_cell_tmp2 {P : Program} {fn : Func} {q p : Tmp} {ty : TypeId} (h : fn.results = #[.cell p ty, .tmp q]) (tmps : Array Value) (w : World) (g : Nat) (t : TypeId) (cs : Array Value) (fr : Nat × Nat) (d : TypeDesc)
    (hp : tmps.getD p undef = .pointer (some ⟨g, 0, none⟩)) (hg : w.heap[g]? = some (.cells cs t fr))
    (hu : P.underlying ty = some d) (hd : (match d with | .struct _ | .array _ _ => true | _ => false) = true) (hi : (P.info? ty).map (·.size) = some cs.size) :
    (results fn tmps).run P w = .ok (.tuple #[.agg cs, tmps.getD q undef]) w := by
  have hp' : tmps[p]?.getD undef = .pointer (some ⟨g, 0, none⟩) := by simpa using hp
  simp [results, h, hp', asAddr, run_loadVar_row w g t ty cs fr d hg hu hd hi]
section
variable (w : World) (s : ByteArray)
theorem chars_nil : Calls Tryd.prog 43 #[.pointer none, .string s] w fun e w' => e = .returned (.tuple #[.slice none 0 0, .int .i64 1]) ∧ w = w' := by
  go_enter Tryd.func43, Tryd.ntmps43
  go_wp2_with (go_at_call 61; refine (none_nil _).mono ?_; rintro e w' ⟨rfl, rfl⟩)
  go_ret2
  exact ⟨rfl, rfl⟩
theorem words_nil (a n : Int) : Calls Tryd.prog 14 #[.pointer none, .string s, .int .i64 a, .int .i64 n] w fun e w' => e = .returned (.tuple #[.int .i64 0, .bool false, .int .i64 1]) ∧ Below w.heap.size w w' := by
  have t0 := ((Blk.new w 28 #[.pointer none]).alloc (.cells #[.int .i64 a] 3)).cell 0
  go_enter Tryd.func14, Tryd.ntmps14
  go_wp2_with (go_at_call 43; refine (chars_nil _ _).mono ?_; rintro e w' ⟨rfl, rfl⟩)
  go_ret3
  exact ⟨rfl, (((Below.refl _ _).alloc (Nat.le_refl _) _).alloc (by simp) _).alloc (by simp; omega) _⟩
theorem symbol_nil (a : Int) : Calls Tryd.prog 20 #[.pointer none, .string s, .int .i64 a] w fun e w' => e = .returned (.tuple #[.int .i64 0, .int .i64 0, .bool false]) ∧ Below w.heap.size w w' := by
  have t0 := (Blk.new w 28 #[.pointer none]).cell 0
  go_enter Tryd.func20, Tryd.ntmps20
  go_wp2_with (go_at_call 43; refine (chars_nil _ _).mono ?_; rintro e w' ⟨rfl, rfl⟩)
  go_ret3
  exact ⟨rfl, (Below.refl _ _).alloc (Nat.le_refl _) _⟩
theorem sexps_nil (a n : Int) : Calls Tryd.prog 19 #[.pointer none, .string s, .int .i64 a, .int .i64 n] w fun e w' => e = .returned (.tuple #[.int .i64 0, .agg #[.int .i64 1, .int .i64 0]]) ∧ Below w.heap.size w w' := by
  go_enter Tryd.func19, Tryd.ntmps19
  go_wp2_with (go_at_call 43; refine (chars_nil _ _).mono ?_; rintro e w' ⟨rfl, rfl⟩)
  refine bodyPost_ret (results_tmp_cell rfl _ _ w.heap.size 40 _ (0, 0) _ rfl (Blk.new w 40 #[.int .i64 1, .int .i64 0]) Tryd.underlying40 rfl (by kernel_rfl)) rfl ?_
  exact ⟨rfl, (Below.refl _ _).alloc (Nat.le_refl _) _⟩
theorem set_nil (c k m : Int) : Calls Tryd.prog 28 #[.pointer none, .int .i64 c, .int .i64 k, .int .i64 m] w fun e w' => e = .returned (.int .i64 1) ∧ w = w' := by
  go_enter Tryd.func28, Tryd.ntmps28
  go_wp2_with (go_at_call 61; refine (none_nil _).mono ?_; rintro e w' ⟨rfl, rfl⟩)
  go_ret
  exact ⟨rfl, rfl⟩
set_option maxRecDepth 100000 in
theorem ent_nil (c : Int) : Calls Tryd.prog 46 #[.pointer none, .int .i64 c] w fun e w' => e = .returned (.agg #[.int .i64 0, .int .i64 0]) ∧ Below w.heap.size w w' := by
  go_enter Tryd.func46, Tryd.ntmps46
  go_wp2_with (go_at_call 61; refine (none_nil _).mono ?_; rintro e w' ⟨rfl, rfl⟩)
  refine bodyPost_ret (results_cell_row rfl _ _ w.heap.size 66 #[.int .i64 0, .int .i64 0] (0, 0) _ rfl (heap_alloc_new w _) Tryd.underlying66 rfl (by kernel_rfl)) rfl ?_
  exact ⟨rfl, (Below.refl _ _).alloc (Nat.le_refl _) _⟩
set_option maxRecDepth 100000 in
theorem class_nil (c : Int) : Calls Tryd.prog 16 #[.pointer none, .int .i64 c] w fun e w' => e = .returned (.int .i64 0) ∧ Below w.heap.size w w' := by
  have hf := field_ent0 0 0
  go_enter Tryd.func16, Tryd.ntmps16
  go_wp2_with (go_at_call 46; refine (ent_nil _ _).mono ?_; rintro e w' ⟨rfl, hb⟩)
  go_ret
  exact ⟨rfl, hb⟩
set_option maxRecDepth 100000 in
theorem mate_nil (c : Int) : Calls Tryd.prog 29 #[.pointer none, .int .i64 c] w fun e w' => e = .returned (.int .i64 0) ∧ Below w.heap.size w w' := by
  have hf := field_ent1 0 0
  go_enter Tryd.func29, Tryd.ntmps29
  go_wp2_with (go_at_call 46; refine (ent_nil _ _).mono ?_; rintro e w' ⟨rfl, hb⟩)
  go_ret
  exact ⟨rfl, hb⟩
theorem copy_nil : Calls Tryd.prog 37 #[.pointer none] w fun e w' => e = .returned (.pointer none) ∧ w = w' := by
  go_enter Tryd.func37, Tryd.ntmps37
  go_wp2_with (go_at_call 61; refine (none_nil _).mono ?_; rintro e w' ⟨rfl, rfl⟩)
  go_ret
  exact ⟨rfl, rfl⟩
/-- A state's zero value, as the program lays it. -/
def stZ : Array Value := #[.slice none 0 0, .int .i64 0, .int .i64 0, .bool false, .int .i64 0, .bool false]
set_option maxRecDepth 100000 in
set_option maxHeartbeats 4000000 in
theorem over_nil (a b : Int) : Calls Tryd.prog 25 #[.pointer none, .string s, .int .i64 a, .int .i64 b, .agg #[.slice none 0 0, .int .i64 0, .int .i64 0, .bool false, .int .i64 0, .bool false]] w fun e w' => e = .returned (.tuple #[.agg #[.slice none 0 0, .int .i64 0, .int .i64 0, .bool false, .int .i64 0, .bool false], .int .i64 1]) ∧ Below w.heap.size w w' := by
  go_enter Tryd.func25, Tryd.ntmps25
  go_wp2_with (go_at_call 43; refine (chars_nil _ _).mono ?_; rintro e w' ⟨rfl, rfl⟩)
  refine bodyPost_ret (results_cell_tmp2 rfl _ _ (w.heap.size + 1) 50 stZ (0, 0) _ rfl ?hb Tryd.underlying50 rfl (by kernel_rfl)) rfl ?_
  case hb =>
    have := (Blk.new (w.alloc (.cells stZ 50)) 50 stZ).alloc (.cells #[.slice none 0 0] 24)
    rw [World.size_alloc] at this
    exact this
  exact ⟨rfl, (((Below.refl _ _).alloc (Nat.le_refl _) _).alloc (by simp) _).alloc (by simp; omega) _⟩
end
end Go.Proofs.YtdojcgefiekleaaDoor
