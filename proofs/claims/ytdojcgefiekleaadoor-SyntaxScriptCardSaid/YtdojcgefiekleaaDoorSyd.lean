/- Is a number a word's character: the program's. No condition but those written. -/
import Derived.Test.YtdojcgefiekleaaDoorSya
import Derived.Deep.WholeRow
namespace Go.Proofs.YtdojcgefiekleaaDoor
open Go.RowKit

theorem info_spans : (Tryd.prog.info? 104).map (·.size) = some 36 := by kernel_rfl
set_option maxRecDepth 100000 in
set_option maxHeartbeats 4000000 in
theorem word_any (c : Int) (w : World) : Calls Tryd.prog 79 #[.int .i64 c] w fun e w' => e = .returned (.bool (isWord c)) ∧ Below w.heap.size w w' := by
  have HI : ∀ W : World, W.heap.size = w.heap.size + 1 → Below w.heap.size w W → (∀ (i : Nat) x (j : Nat) u, wordSpans[i]? = some x → (spanCells x)[j]? = some u → W.cell? ⟨w.heap.size, 0 + i * 2 + j, none⟩ = some u) →
      Calls Tryd.prog 89 #[.int .i64 c, .slice (some ⟨w.heap.size, 0, none⟩) 18 18] W fun e w' => e = .returned (.bool (isWord c)) ∧ Below w.heap.size w w' := by
    intro W hs hb hc
    refine (in_any w.heap.size 0 18 wordSpans c W wordSpans_rising (by decide) (by omega) hc).mono ?_
    rintro e w' ⟨rfl, h⟩
    exact ⟨rfl, hb.trans (h.mono (by omega))⟩
  go_enter Tryd.func79, Tryd.ntmps79
  iterate 72 (first | go_values | go_skip | go_guarded | go_step)
  refine wp_store_row 104 (.tmp 3) (.tmp 22) rfl w.heap.size (rows spanCells wordSpans).toArray rfl (by kernel_rfl) 104 _ (heap_alloc_new w _) info_spans rfl (by kernel_rfl) ?_
  rw [World.setRow_alloc_new]
  obtain ⟨W, hW⟩ : ∃ W, W = w.alloc (.cells (rows spanCells wordSpans).toArray 104) := ⟨_, rfl⟩
  rw [← hW]
  have HC := HI W (by rw [hW]; simp) (by rw [hW]; exact (Below.refl _ w).alloc (Nat.le_refl _) _) (by
    have h := rd_row w 104 2 (rows spanCells wordSpans).toArray 18 (rows spanCells wordSpans) rfl (by decide) (by decide)
    have h2 : Rd (w.alloc (.cells (rows spanCells wordSpans).toArray 104)) (.slice (some ⟨w.heap.size, 0, none⟩) 18 18) 2 wordSpans.length (rows spanCells wordSpans) := h
    obtain ⟨g, off, c2, he, hh⟩ := Rd.fld (enc := spanCells) (L := wordSpans) (fun _ => rfl) h2 (by decide)
    injection he with h3 h4 h5
    injection h3 with h3
    injection h3 with h3 h6 h7
    subst h3
    subst h6
    rw [hW]
    exact hh)
  have HC2 := hide HC
  clear HI HC hW
  go_wp2_with (go_at_call 89; refine (Calls.mono HC2.out) ?_; rintro e w' ⟨rfl, hb⟩)
  go_ret
  exact ⟨rfl, hb⟩
end Go.Proofs.YtdojcgefiekleaaDoor
namespace Go.Proofs.YtdojcgefiekleaaDoor
open Go.RowKit

set_option maxHeartbeats 400000 in
theorem ris_any (c : Int) (w : World) : Calls Tryd.prog 62 #[.int .i64 c] w fun e w' => e = .returned (.bool (isCh c)) ∧ w = w' := by
  go_enter Tryd.func62, Tryd.ntmps62
  go_wp2
  all_goals
    go_ret
    exact ⟨ret_bool (by simp [isCh]; omega), rfl⟩
set_option maxHeartbeats 400000 in
theorem mated_any (k : Int) (w : World) : Calls Tryd.prog 63 #[.int .i64 k] w fun e w' => e = .returned (.bool (mated k)) ∧ w = w' := by
  go_enter Tryd.func63, Tryd.ntmps63
  go_wp2
  all_goals
    go_ret
    exact ⟨ret_bool (by simp [mated]; try omega), rfl⟩
def entV (x : Int × Int) : Value := .agg #[.int .i64 x.1, .int .i64 x.2]
set_option maxRecDepth 100000 in
set_option maxHeartbeats 4000000 in
theorem plain_any (c : Int) (w : World) : Calls Tryd.prog 52 #[.int .i64 c] w fun e w' => e = .returned (entV (plainE c)) ∧ Below w.heap.size w w' := by
  have HW := hide (fun W => word_any c W)
  obtain ⟨b, hb⟩ : ∃ b, b = isWord c := ⟨_, rfl⟩
  have HE := hide (show plainE c = if c = 9 ∨ c = 10 ∨ c = 12 ∨ c = 13 ∨ c = 32 then (3, 0) else if b = true then (1, 0) else (0, 0) by rw [hb]; rfl)
  rw [← hb] at HW
  clear hb
  have B0 : ∀ o, Below w.heap.size w (w.alloc o) := fun o => (Below.refl _ w).alloc (Nat.le_refl _) o
  have HB := hide B0
  clear B0
  by_cases hs : c = 9 ∨ c = 10 ∨ c = 12 ∨ c = 13 ∨ c = 32
  · have HP := hide (HE.out.trans (if_pos hs))
    clear HE HW
    rcases hs with rfl | rfl | rfl | rfl | rfl
    all_goals go_enter Tryd.func52, Tryd.ntmps52
    all_goals go_wp2
    all_goals refine bodyPost_ret (results_cell_row rfl _ _ w.heap.size 66 #[.int .i64 3, .int .i64 0] (0, 0) _ rfl (heap_alloc_new w _) Tryd.underlying66 rfl (by kernel_rfl)) rfl ?_
    all_goals exact ⟨by rw [HP.out]; rfl, HB.out _⟩
  · have HP := hide (HE.out.trans (if_neg hs))
    clear HE
    have h1 : (c == 9) = false := by simp; omega
    have h2 : (c == 10) = false := by simp; omega
    have h3 : (c == 12) = false := by simp; omega
    have h4 : (c == 13) = false := by simp; omega
    have h5 : (c == 32) = false := by simp; omega
    clear hs
    cases b
    · go_enter Tryd.func52, Tryd.ntmps52
      go_wp2_with (go_at_call 79; refine (Calls.mono (HW.out _)) ?_; rintro e w' ⟨rfl, hb⟩; have hk := Blk.below (Blk.new w 66 #[.int .i64 0, .int .i64 0]) hb (by simp); have c0 := Blk.cell hk 0; have c1 := Blk.cell hk 1; have f0 := Blk.frozen hk 0; have f1 := Blk.frozen hk 1; have hB := hide (Below.trans (HB.out _) (Below.mono hb (by simp))); have HK := hide hk; clear hb hk)
      refine bodyPost_ret (results_cell_row rfl _ _ w.heap.size 66 #[.int .i64 0, .int .i64 0] (0, 0) _ rfl ((HK.out.set_ 0 _).set_ 1 _) Tryd.underlying66 rfl (by kernel_rfl)) rfl ?_
      exact ⟨by rw [HP.out]; rfl, (hB.out.setCell (Nat.le_refl _) _).setCell (Nat.le_refl _) _⟩
    · go_enter Tryd.func52, Tryd.ntmps52
      go_wp2_with (go_at_call 79; refine (Calls.mono (HW.out _)) ?_; rintro e w' ⟨rfl, hb⟩; have hk := Blk.below (Blk.new w 66 #[.int .i64 0, .int .i64 0]) hb (by simp); have c0 := Blk.cell hk 0; have c1 := Blk.cell hk 1; have f0 := Blk.frozen hk 0; have f1 := Blk.frozen hk 1; have hB := hide (Below.trans (HB.out _) (Below.mono hb (by simp))); have HK := hide hk; clear hb hk)
      refine bodyPost_ret (results_cell_row rfl _ _ w.heap.size 66 #[.int .i64 1, .int .i64 0] (0, 0) _ rfl ((HK.out.set_ 0 _).set_ 1 _) Tryd.underlying66 rfl (by kernel_rfl)) rfl ?_
      exact ⟨by rw [HP.out]; rfl, (hB.out.setCell (Nat.le_refl _) _).setCell (Nat.le_refl _) _⟩
end Go.Proofs.YtdojcgefiekleaaDoor
namespace Go.Proofs.YtdojcgefiekleaaDoor
open Go.RowKit

def entPairs (l : List (Int × Int × Int)) : List (Value × Value) := l.map fun x => (.int .i64 x.1, entV x.2)
theorem ent_get (c : Int) : ∀ l : List (Int × Int × Int), mget (entPairs l) (.int .i64 c) = (pick c l).map entV
  | [] => rfl
  | x :: l => by
      have ih := ent_get c l
      unfold mget pick entPairs at ih ⊢
      rw [List.map_cons, List.find?_cons, List.find?_cons]
      by_cases h : x.1 = c
      · subst h
        simp [keyEq_int]
      · have h2 : (c == x.1) = false := by simpa using fun e : c = x.1 => h e.symm
        rw [show keyEq (.int .i64 c) (Value.int .i64 x.1, entV x.2).1 = false from h2, decide_eq_false h]
        exact ih
theorem ent_keys (l : List (Int × Int × Int)) : KeysOf (.int .i64) (entPairs l) := fun x hx => by
  obtain ⟨y, _, rfl⟩ := List.mem_map.1 hx
  exact .int _ _
theorem zero_ent (w : World) : (zeroValue 66).run Tryd.prog w = .ok (.agg #[.int .i64 0, .int .i64 0]) w := by kernel_rfl
theorem symbols_range : ∀ n ∈ symbols, 32 < n ∧ n < 127 := by decide
set_option maxRecDepth 100000 in
theorem symbols_index : ∀ n, n < 127 → decide (0 ≤ Lib.indexByte [45, 43, 42, 47, 60, 62, 61, 33, 63, 36, 37, 38, 95, 126, 94, 58, 123, 125, 124, 46, 64, 35] n.toUInt8) = decide (n ∈ symbols) := by decide
set_option maxRecDepth 100000 in
set_option maxHeartbeats 4000000 in
theorem lisp_hit (c : Int) (gs b : Nat) (x : Int × Int) (w : World) (hx : pick c special = some x) (hc : w.cell? ⟨gs, 0, none⟩ = some (.map (some b))) (hm : MapIs w b (entPairs special)) : Calls Tryd.prog 50 #[.int .i64 c, .pointer (some ⟨gs, 0, none⟩)] w fun e w' => e = .returned (entV (lispE c)) ∧ Below w.heap.size w w' := by
  obtain ⟨x1, x2⟩ := x
  have HP := hide (show lispE c = (x1, x2) by unfold lispE; rw [hx]; rfl)
  have HG := hide (show mget (entPairs special) (.int .i64 c) = some (.agg #[.int .i64 x1, .int .i64 x2]) by rw [ent_get, hx]; rfl)
  have HKeys := hide (ent_keys special)
  have hm1 := hm.alloc (.cells #[.int .i64 0, .int .i64 0] 66)
  have hb0 := Blk.new w 66 #[.int .i64 0, .int .i64 0]
  have hc1 : (w.alloc (.cells #[.int .i64 0, .int .i64 0] 66)).cell? ⟨gs, 0, none⟩ = some (.map (some b)) := cell_alloc_sl _ hc
  have HB := hide ((Below.refl w.heap.size w).alloc (Nat.le_refl _) (.cells #[.int .i64 0, .int .i64 0] 66))
  have HB0 := hide hb0
  clear hx hm hc hb0
  go_enter Tryd.func50, Tryd.ntmps50
  go_wp2_with (at_lookup; go_loud (refine wpList_lookup_is rfl _ _ true rfl Tryd.underlying73 Tryd.underlying3 _ (zero_ent _) rfl hm1 HKeys.out (.int .i64 c) rfl (.int _ _) _ HG.out ?_))
  refine bodyPost_ret (results_cell_row rfl _ _ w.heap.size 66 #[.int .i64 x1, .int .i64 x2] (0, 0) _ rfl ((Blk.new w _ _).alloc _) Tryd.underlying66 rfl (by kernel_rfl)) rfl ?_
  exact ⟨by rw [HP.out]; rfl, ((Below.refl _ _).alloc (Nat.le_refl _) _).alloc (by simp) _⟩
set_option maxRecDepth 100000 in
set_option maxHeartbeats 4000000 in
theorem lisp_far (c : Int) (gs b : Nat) (w : World) (hx : pick c special = none) (hr : c ≤ 32 ∨ 127 ≤ c) (hc : w.cell? ⟨gs, 0, none⟩ = some (.map (some b))) (hm : MapIs w b (entPairs special)) : Calls Tryd.prog 50 #[.int .i64 c, .pointer (some ⟨gs, 0, none⟩)] w fun e w' => e = .returned (entV (lispE c)) ∧ Below w.heap.size w w' := by
  have hs : ¬ (c.toNat ∈ symbols ∧ 0 ≤ c) := by
    rintro ⟨h1, h2⟩
    have := symbols_range _ h1
    omega
  obtain ⟨⟨x1, x2⟩, hpx⟩ : ∃ x, plainE c = x := ⟨_, rfl⟩
  have HP := hide (show lispE c = (x1, x2) by unfold lispE; rw [hx, if_neg hs, ← hpx]; rfl)
  have HC := hide (show ∀ W, Calls Tryd.prog 52 #[.int .i64 c] W fun e w' => e = .returned (.agg #[.int .i64 x1, .int .i64 x2]) ∧ Below W.heap.size W w' from fun W => by
    have := plain_any c W
    rw [hpx] at this
    exact this)
  have HG := hide (show mget (entPairs special) (.int .i64 c) = none by rw [ent_get, hx]; rfl)
  have HKeys := hide (ent_keys special)
  have hm1 := hm.alloc (.cells #[.int .i64 0, .int .i64 0] 66)
  have hc1 : (w.alloc (.cells #[.int .i64 0, .int .i64 0] 66)).cell? ⟨gs, 0, none⟩ = some (.map (some b)) := cell_alloc_sl _ hc
  have hz : (decide (32 < c) && decide (c < 127)) = false := by
    rcases hr with h | h
    · simp; omega
    · simp; omega
  have HZ := hide hz
  clear hx hm hc hs hpx hz
  obtain ⟨W2, hW2⟩ : ∃ W2, W2 = (w.alloc (.cells #[.int .i64 0, .int .i64 0] 66)).alloc (.cells #[.int .i64 0, .int .i64 0] 66) := ⟨_, rfl⟩
  have HW := hide (show Blk W2 w.heap.size 66 #[.int .i64 0, .int .i64 0] ∧ Below w.heap.size w W2 ∧ w.heap.size ≤ W2.heap.size from by
    rw [hW2]
    exact ⟨(Blk.new w _ _).alloc _, ((Below.refl _ _).alloc (Nat.le_refl _) _).alloc (by simp) _, by rw [World.size_alloc, World.size_alloc]; omega⟩)
  have HE := hide hW2
  clear hW2
  go_enter Tryd.func50, Tryd.ntmps50
  rcases hr with h | h
  · have h1 : decide (32 < c) = false := by simp; omega
    clear h
    go_wp2_with (first | (at_lookup; go_loud (refine wpList_lookup_is rfl _ _ true rfl Tryd.underlying73 Tryd.underlying3 _ (zero_ent _) rfl hm1 HKeys.out (.int .i64 c) rfl (.int _ _) _ HG.out ?_)) | (go_at_call 52; rw [← HE.out]; refine (Calls.mono (HC.out _)) ?_; rintro e w' ⟨rfl, hb⟩; have hk := HW.out.1.below hb HW.out.1.lt; have c0 := Blk.cell hk 0; have c1 := Blk.cell hk 1; have f0 := Blk.frozen hk 0; have f1 := Blk.frozen hk 1; have hB := hide (HW.out.2.1.trans (Below.mono hb HW.out.2.2)); have HK := hide hk; clear hb hk))
    refine bodyPost_ret (results_cell_row rfl _ _ w.heap.size 66 #[.int .i64 x1, .int .i64 x2] (0, 0) _ rfl ((HK.out.set_ 0 _).set_ 1 _) Tryd.underlying66 rfl (by kernel_rfl)) rfl ?_
    exact ⟨by rw [HP.out]; rfl, (hB.out.setCell (Nat.le_refl _) _).setCell (Nat.le_refl _) _⟩
  · have h1 : decide (32 < c) = true := by simp; omega
    have h2 : decide (c < 127) = false := by simp; omega
    clear h
    go_wp2_with (first | (at_lookup; go_loud (refine wpList_lookup_is rfl _ _ true rfl Tryd.underlying73 Tryd.underlying3 _ (zero_ent _) rfl hm1 HKeys.out (.int .i64 c) rfl (.int _ _) _ HG.out ?_)) | (go_at_call 52; rw [← HE.out]; refine (Calls.mono (HC.out _)) ?_; rintro e w' ⟨rfl, hb⟩; have hk := HW.out.1.below hb HW.out.1.lt; have c0 := Blk.cell hk 0; have c1 := Blk.cell hk 1; have f0 := Blk.frozen hk 0; have f1 := Blk.frozen hk 1; have hB := hide (HW.out.2.1.trans (Below.mono hb HW.out.2.2)); have HK := hide hk; clear hb hk))
    refine bodyPost_ret (results_cell_row rfl _ _ w.heap.size 66 #[.int .i64 x1, .int .i64 x2] (0, 0) _ rfl ((HK.out.set_ 0 _).set_ 1 _) Tryd.underlying66 rfl (by kernel_rfl)) rfl ?_
    exact ⟨by rw [HP.out]; rfl, (hB.out.setCell (Nat.le_refl _) _).setCell (Nat.le_refl _) _⟩
set_option maxRecDepth 100000 in
set_option maxHeartbeats 4000000 in
theorem lisp_near (n : Nat) (gs b : Nat) (w : World) (hx : pick (n : Int) special = none) (hl : 32 < n) (hu : n < 127) (hc : w.cell? ⟨gs, 0, none⟩ = some (.map (some b))) (hm : MapIs w b (entPairs special)) : Calls Tryd.prog 50 #[.int .i64 (n : Int), .pointer (some ⟨gs, 0, none⟩)] w fun e w' => e = .returned (entV (lispE (n : Int))) ∧ Below w.heap.size w w' := by
  obtain ⟨⟨x1, x2⟩, hpx⟩ : ∃ x, plainE (n : Int) = x := ⟨_, rfl⟩
  obtain ⟨s, hs⟩ : ∃ s, s = decide (n ∈ symbols) := ⟨_, rfl⟩
  have HP := hide (show lispE (n : Int) = if s = true then (2, 0) else (x1, x2) by
    unfold lispE
    rw [hx, ← hpx, hs]
    simp)
  have HC := hide (show ∀ W, Calls Tryd.prog 52 #[.int .i64 (n : Int)] W fun e w' => e = .returned (.agg #[.int .i64 x1, .int .i64 x2]) ∧ Below W.heap.size W w' from fun W => by
    have := plain_any (n : Int) W
    rw [hpx] at this
    exact this)
  have HI := hide (symbols_index n hu)
  rw [← hs] at HI
  have HX := hide (show ∀ W, Calls Tryd.prog 51 #[.string ⟨#[45, 43, 42, 47, 60, 62, 61, 33, 63, 36, 37, 38, 95, 126, 94, 58, 123, 125, 124, 46, 64, 35]⟩, .int .u8 (n : Int)] W fun e w' => ∃ k : Int, e = .returned (.int .i64 k) ∧ decide (0 ≤ k) = s ∧ w' = W from fun W => by
    refine (Tryd.strings_IndexByte _ _ W).mono ?_
    rintro e w' ⟨rfl, rfl⟩
    exact ⟨_, rfl, HI.out, rfl⟩)
  have HG := hide (show mget (entPairs special) (.int .i64 (n : Int)) = none by rw [ent_get, hx]; rfl)
  have HKeys := hide (ent_keys special)
  have hm1 := hm.alloc (.cells #[.int .i64 0, .int .i64 0] 66)
  have hc1 : (w.alloc (.cells #[.int .i64 0, .int .i64 0] 66)).cell? ⟨gs, 0, none⟩ = some (.map (some b)) := cell_alloc_sl _ hc
  obtain ⟨c, hcc⟩ : ∃ c : Int, c = (n : Int) := ⟨_, rfl⟩
  have h1 : decide (32 < c) = true := by simp; omega
  have h2 : decide (c < 127) = true := by simp; omega
  have HU := hide (show c % 256 = c from by omega)
  rw [← hcc] at HP HC HX HG ⊢
  clear hx hm hc hs hpx HI hl hu
  obtain ⟨W2, hW2⟩ : ∃ W2, W2 = (w.alloc (.cells #[.int .i64 0, .int .i64 0] 66)).alloc (.cells #[.int .i64 0, .int .i64 0] 66) := ⟨_, rfl⟩
  have HW := hide (show Blk W2 w.heap.size 66 #[.int .i64 0, .int .i64 0] ∧ Below w.heap.size w W2 ∧ w.heap.size ≤ W2.heap.size from by
    rw [hW2]
    exact ⟨(Blk.new w _ _).alloc _, ((Below.refl _ _).alloc (Nat.le_refl _) _).alloc (by simp) _, by rw [World.size_alloc, World.size_alloc]; omega⟩)
  have HE := hide hW2
  clear hW2 hcc
  cases s
  · go_enter Tryd.func50, Tryd.ntmps50
    go_wp2_with (first | (at_lookup; go_loud (refine wpList_lookup_is rfl _ _ true rfl Tryd.underlying73 Tryd.underlying3 _ (zero_ent _) rfl hm1 HKeys.out (.int .i64 c) rfl (.int _ _) _ HG.out ?_)) | (go_at_call 51; rw [HU.out]; refine (Calls.mono (HX.out _)) ?_; rintro e w' ⟨k, rfl, hk0, rfl⟩) | (go_at_call 52; rw [← HE.out]; refine (Calls.mono (HC.out _)) ?_; rintro e w' ⟨rfl, hb⟩; have hk := HW.out.1.below hb HW.out.1.lt; have c0 := Blk.cell hk 0; have c1 := Blk.cell hk 1; have f0 := Blk.frozen hk 0; have f1 := Blk.frozen hk 1; have hB := hide (HW.out.2.1.trans (Below.mono hb HW.out.2.2)); have HK := hide hk; clear hb hk))
    refine bodyPost_ret (results_cell_row rfl _ _ w.heap.size 66 #[.int .i64 x1, .int .i64 x2] (0, 0) _ rfl ((HK.out.set_ 0 _).set_ 1 _) Tryd.underlying66 rfl (by kernel_rfl)) rfl ?_
    exact ⟨by rw [HP.out]; rfl, (hB.out.setCell (Nat.le_refl _) _).setCell (Nat.le_refl _) _⟩
  · go_enter Tryd.func50, Tryd.ntmps50
    go_wp2_with (first | (at_lookup; go_loud (refine wpList_lookup_is rfl _ _ true rfl Tryd.underlying73 Tryd.underlying3 _ (zero_ent _) rfl hm1 HKeys.out (.int .i64 c) rfl (.int _ _) _ HG.out ?_)) | (go_at_call 51; rw [HU.out]; refine (Calls.mono (HX.out _)) ?_; rintro e w' ⟨k, rfl, hk0, rfl⟩) | (go_at_call 52; rw [← HE.out]; refine (Calls.mono (HC.out _)) ?_; rintro e w' ⟨rfl, hb⟩; have hk := HW.out.1.below hb HW.out.1.lt; have c0 := Blk.cell hk 0; have c1 := Blk.cell hk 1; have f0 := Blk.frozen hk 0; have f1 := Blk.frozen hk 1; have hB := hide (HW.out.2.1.trans (Below.mono hb HW.out.2.2)); have HK := hide hk; clear hb hk))
    refine bodyPost_ret (results_cell_row rfl _ _ w.heap.size 66 #[.int .i64 2, .int .i64 0] (0, 0) _ rfl ((Blk.new w _ _).alloc _) Tryd.underlying66 rfl (by kernel_rfl)) rfl ?_
    exact ⟨by rw [HP.out]; rfl, ((Below.refl _ _).alloc (Nat.le_refl _) _).alloc (by simp) _⟩
theorem lisp1_any (c : Int) (gs b : Nat) (w : World) (hc : w.cell? ⟨gs, 0, none⟩ = some (.map (some b))) (hm : MapIs w b (entPairs special)) : Calls Tryd.prog 50 #[.int .i64 c, .pointer (some ⟨gs, 0, none⟩)] w fun e w' => e = .returned (entV (lispE c)) ∧ Below w.heap.size w w' := by
  cases hx : pick c special with
  | some x => exact lisp_hit c gs b x w hx hc hm
  | none =>
      by_cases hr : c ≤ 32 ∨ 127 ≤ c
      · exact lisp_far c gs b w hx hr hc hm
      · obtain ⟨n, rfl⟩ : ∃ n : Nat, c = n := ⟨c.toNat, by omega⟩
        exact lisp_near n gs b w hx (by omega) (by omega) hc hm
end Go.Proofs.YtdojcgefiekleaaDoor
