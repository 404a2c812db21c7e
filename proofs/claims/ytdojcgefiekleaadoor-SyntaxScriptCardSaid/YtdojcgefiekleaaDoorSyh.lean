/- Class and Mate of a table; New: the program's. No condition but those written. -/
import Derived.Test.YtdojcgefiekleaaDoorSye
namespace Go.Proofs.YtdojcgefiekleaaDoor
open Go.RowKit

theorem field_ent0 (x y : Int) (w : World) : (Instr.field 66 (.agg #[.int .i64 x, .int .i64 y]) 0).run Tryd.prog w = .ok (.int .i64 x) w := by kernel_rfl
theorem field_ent1 (x y : Int) (w : World) : (Instr.field 66 (.agg #[.int .i64 x, .int .i64 y]) 1).run Tryd.prog w = .ok (.int .i64 y) w := by kernel_rfl
theorem make_ents (w : World) : (Instr.makeMap 73 none).run Tryd.prog w = .ok (.map (some w.heap.size)) (w.alloc (.map #[] 0)) := by kernel_rfl
section
variable {w : World} {p : TL} {T : Tb}
set_option maxRecDepth 100000 in
theorem class_any (h : TabAt w p T) (c : Int) : Calls Tryd.prog 16 #[.pointer (some ⟨p.t, 0, none⟩), .int .i64 c] w fun e w' => e = .returned (.int .i64 (T.cl c)) ∧ Below w.heap.size w w' := by
  have HE := hide (ent_any h c)
  clear h
  unfold Tb.cl
  obtain ⟨⟨x1, x2⟩, hx⟩ : ∃ x, T.ent c = x := ⟨_, rfl⟩
  rw [hx] at HE ⊢
  simp only [entV] at HE
  clear hx
  have hf := field_ent0 x1 x2
  go_enter Tryd.func16, Tryd.ntmps16
  go_wp2_with (go_at_call 46; refine (Calls.mono HE.out) ?_; rintro e w' ⟨rfl, hb⟩)
  go_ret
  exact ⟨rfl, hb⟩
set_option maxRecDepth 100000 in
theorem mate_any (h : TabAt w p T) (c : Int) : Calls Tryd.prog 29 #[.pointer (some ⟨p.t, 0, none⟩), .int .i64 c] w fun e w' => e = .returned (.int .i64 (T.mate c)) ∧ Below w.heap.size w w' := by
  have HE := hide (ent_any h c)
  clear h
  unfold Tb.mate
  obtain ⟨⟨x1, x2⟩, hx⟩ : ∃ x, T.ent c = x := ⟨_, rfl⟩
  rw [hx] at HE ⊢
  simp only [entV] at HE
  clear hx
  have hf := field_ent1 x1 x2
  go_enter Tryd.func29, Tryd.ntmps29
  go_wp2_with (go_at_call 46; refine (Calls.mono HE.out) ?_; rintro e w' ⟨rfl, hb⟩)
  go_ret
  exact ⟨rfl, hb⟩
set_option maxRecDepth 100000 in
set_option maxHeartbeats 4000000 in
theorem tnew_any (w : World) : Calls Tryd.prog 39 #[] w fun e w' => e = .returned (.pointer (some ⟨w.heap.size + 1, 0, none⟩)) ∧ Below w.heap.size w w' ∧ w'.heap.size = w.heap.size + 2 ∧
    Blk w' (w.heap.size + 1) 77 #[ruleV false 0, .map (some w.heap.size)] ∧ MapIs w' w.heap.size [] := by
  have hf := make_ents w
  go_enter Tryd.func39, Tryd.ntmps39
  go_wp2
  go_ret
  refine ⟨by first | rfl | simp, ((Below.refl _ _).alloc (Nat.le_refl _) _).alloc (by simp) _, by simp, ?_, (MapIs.new w).alloc _⟩
  have := Blk.new (w.alloc (.map #[] 0)) 77 #[ruleV false 0, .map (some w.heap.size)]
  rw [World.size_alloc] at this
  exact this
end
end Go.Proofs.YtdojcgefiekleaaDoor
namespace Go.Proofs.YtdojcgefiekleaaDoor
open Go.RowKit

section
variable {w : World} {p : TL} {T : Tb}
set_option maxRecDepth 100000 in
set_option maxHeartbeats 4000000 in
theorem tset_bad (h : TabAt w p T) (c k m : Int) (hs : setOk c k m = false) : Calls Tryd.prog 28 #[.pointer (some ⟨p.t, 0, none⟩), .int .i64 c, .int .i64 k, .int .i64 m] w fun e w' => e = .returned (.int .i64 2) ∧ w = w' := by
  have HN := hide (none_some h)
  obtain ⟨a, ha⟩ : ∃ a, a = isCh c := ⟨_, rfl⟩
  obtain ⟨b, hb⟩ : ∃ b, b = mated k := ⟨_, rfl⟩
  obtain ⟨d, hd⟩ : ∃ d, d = isCh m := ⟨_, rfl⟩
  unfold setOk at hs
  rw [← ha, ← hb, ← hd] at hs
  have HA := hide ha.symm
  have HB := hide hb.symm
  have HD := hide hd.symm
  clear ha hb hd h
  cases a
  · clear hs
    go_enter Tryd.func28, Tryd.ntmps28
    go_wp2_with (first | (go_at_call 61; refine (Calls.mono HN.out) ?_; rintro e w' ⟨rfl, rfl⟩) | (go_at_call 62; refine (ris_any _ _).mono ?_; rintro e w' ⟨rfl, rfl⟩; first | rw [HA.out] | rw [HD.out]) | (go_at_call 63; refine (mated_any _ _).mono ?_; rintro e w' ⟨rfl, rfl⟩; rw [HB.out]))
    all_goals go_ret
    all_goals exact ⟨rfl, rfl⟩
  · by_cases h1 : k < 0
    · clear hs
      go_enter Tryd.func28, Tryd.ntmps28
      go_wp2_with (first | (go_at_call 61; refine (Calls.mono HN.out) ?_; rintro e w' ⟨rfl, rfl⟩) | (go_at_call 62; refine (ris_any _ _).mono ?_; rintro e w' ⟨rfl, rfl⟩; first | rw [HA.out] | rw [HD.out]) | (go_at_call 63; refine (mated_any _ _).mono ?_; rintro e w' ⟨rfl, rfl⟩; rw [HB.out]))
      all_goals go_ret
      all_goals exact ⟨rfl, rfl⟩
    · by_cases h2 : 10 < k
      · clear hs
        go_enter Tryd.func28, Tryd.ntmps28
        go_wp2_with (first | (go_at_call 61; refine (Calls.mono HN.out) ?_; rintro e w' ⟨rfl, rfl⟩) | (go_at_call 62; refine (ris_any _ _).mono ?_; rintro e w' ⟨rfl, rfl⟩; first | rw [HA.out] | rw [HD.out]) | (go_at_call 63; refine (mated_any _ _).mono ?_; rintro e w' ⟨rfl, rfl⟩; rw [HB.out]))
        all_goals go_ret
        all_goals exact ⟨rfl, rfl⟩
      · have h3 : 0 ≤ k ∧ k ≤ 10 := by omega
        have hbd : b = true ∧ d = false := by
          cases b <;> cases d <;> simp_all
        obtain ⟨rfl, rfl⟩ := hbd
        clear hs h3
        go_enter Tryd.func28, Tryd.ntmps28
        go_wp2_with (first | (go_at_call 61; refine (Calls.mono HN.out) ?_; rintro e w' ⟨rfl, rfl⟩) | (go_at_call 62; refine (ris_any _ _).mono ?_; rintro e w' ⟨rfl, rfl⟩; first | rw [HA.out] | rw [HD.out]) | (go_at_call 63; refine (mated_any _ _).mono ?_; rintro e w' ⟨rfl, rfl⟩; rw [HB.out]))
        all_goals go_ret
        all_goals exact ⟨rfl, rfl⟩
end
end Go.Proofs.YtdojcgefiekleaaDoor
namespace Go.Proofs.YtdojcgefiekleaaDoor
open Go.RowKit

def eput : List (Int × Int × Int) → Int → Int × Int → List (Int × Int × Int)
  | [], c, x => [(c, x)]
  | y :: l, c, x => if y.1 = c then (y.1, x) :: l else y :: eput l c x
theorem eput_map (c : Int) (x : Int × Int) : ∀ l : List (Int × Int × Int), mput (entPairs l) (.int .i64 c) (entV x) = entPairs (eput l c x)
  | [] => rfl
  | y :: l => by
      have ih := eput_map c x l
      unfold entPairs at ih ⊢
      simp only [List.map_cons, mput, eput]
      by_cases h : y.1 = c
      · subst h
        simp [keyEq_int]
      · have h2 : (c == y.1) = false := by simpa using fun e : c = y.1 => h e.symm
        rw [if_neg h, if_neg (show ¬ keyEq (.int .i64 c) (Value.int .i64 y.1, entV y.2).1 = true from fun e => by
          have e2 : (c == y.1) = true := e
          rw [h2] at e2
          cases e2), List.map_cons, ih]
theorem eput_pick (c : Int) (x : Int × Int) (d : Int) : ∀ l : List (Int × Int × Int), pick d (eput l c x) = if c = d then some x else pick d l
  | [] => by
      by_cases h : c = d
      · simp [eput, pick, h]
      · simp [eput, pick, h]
  | y :: l => by
      have ih := eput_pick c x d l
      unfold pick at ih ⊢
      simp only [eput]
      by_cases h : y.1 = c
      · rw [if_pos h]
        by_cases h2 : c = d
        · simp [h, h2]
        · simp [h, h2]
      · rw [if_neg h]
        by_cases h2 : y.1 = d
        · have : ¬ c = d := fun e => h (h2.trans e.symm)
          simp [h2, this]
        · simp only [List.find?_cons, h2, decide_false]
          exact ih
theorem eput_mem (c : Int) (x : Int × Int) : ∀ (l : List (Int × Int × Int)) (d : Int), d ∈ (eput l c x).map (·.1) → d = c ∨ d ∈ l.map (·.1)
  | [], d, h => by simpa [eput] using h
  | y :: l, d, h => by
      simp only [eput] at h
      split at h
      · exact .inr h
      · simp only [List.map_cons, List.mem_cons] at h ⊢
        rcases h with rfl | h
        · exact .inr (.inl rfl)
        · rcases eput_mem c x l d h with h | h
          · exact .inl h
          · exact .inr (.inr h)
theorem eput_nodup (c : Int) (x : Int × Int) : ∀ (l : List (Int × Int × Int)), (l.map (·.1)).Nodup → ((eput l c x).map (·.1)).Nodup
  | [], _ => by simp [eput]
  | y :: l, h => by
      simp only [List.map_cons, List.nodup_cons] at h
      simp only [eput]
      split
      · simp only [List.map_cons, List.nodup_cons]
        exact h
      · rename_i hc
        simp only [List.map_cons, List.nodup_cons]
        refine ⟨fun hm => ?_, eput_nodup c x l h.2⟩
        rcases eput_mem c x l _ hm with e | e
        · exact hc e
        · exact h.1 e
section
variable {w : World} {p : TL} {T : Tb}
theorem TabAt.put (h : TabAt w p T) {M : List (Int × Int × Int)} (hM : (∀ d, pick d M = pick d T.own) ∧ (M.map (·.1)).Nodup) {c k m v : Int} (hs : setOk c k m = true) (hv : v = if mated k then m else 0) {w' : World} (hm : MapIs w' p.ow (mput (entPairs M) (.int .i64 c) (entV (k, v)))) (ho : Only (· = p.ow) w w') : TabAt w' p (T.set c k m) := by
  obtain ⟨M0, h0, _⟩ := h.own
  have e : T.set c k m = { T with own := (c, k, v) :: T.own } := by unfold Tb.set; rw [if_pos hs, hv]
  have hok := h.ok.set c k m
  rw [e] at hok ⊢
  refine ⟨h.blk.only ho fun e => h0.ne_blk h.blk e.symm, ⟨eput M c (k, v), by rw [← eput_map]; exact hm, fun d => ?_, eput_nodup c (k, v) M hM.2⟩, fun hl => ?_, hok, h.ne⟩
  · rw [eput_pick, hM.1]
    unfold pick
    by_cases hd : c = d
    · simp [hd]
    · simp [hd]
  · obtain ⟨h1, h2⟩ := h.rule hl
    exact ⟨h1.only ho fun e => h0.ne_blk h1 e.symm, h2.only ho (h.ne hl)⟩
end
end Go.Proofs.YtdojcgefiekleaaDoor
