/- The chapter's examples. No condition but those written. -/
import Derived.Test.YtgiogmbopiblmaaPqe
import Derived.RegionCalls
namespace Go.Proofs.Ytgiogmbopiblmaa
open Go.RowKit

theorem change_to {P Q : List Pc} {a d : Nat} {f : List Pr → List Pr} (hP : Nf 0 [] P) (had : a ≤ d) (hQ : Nf 0 [] Q) (hd : ∀ x, den Q x = tgt a d f (den P) x) : changeP a d f P = Q := by
  obtain ⟨h1, h2⟩ := change_law f hP had
  exact Nf.same h1 hQ fun x _ => by rw [h2, hd]
theorem ins_to {P Q : List Pc} {a n : Nat} (hP : Nf 0 [] P) (hQ : Nf 0 [] Q) (hd : ∀ y, den Q y = if y < a then den P y else if y < a + n then [] else den P (y - n)) : insP a n P = Q := by
  obtain ⟨h1, _, h2⟩ := ins_inv a n P hP
  exact Nf.same h1 hQ fun x _ => by rw [h2, hd]
/-- The words of the examples. -/
abbrev x7 : Pr := (7, 0, 1)
abbrev x8 : Pr := (8, 1, 1)
abbrev exA : List Pc := [⟨2, 5, [x7]⟩]
abbrev exB : List Pc := [⟨2, 3, [x7]⟩, ⟨3, 4, [x7, x8]⟩, ⟨4, 5, [x7]⟩]
abbrev exC : List Pc := [⟨2, 3, [x7]⟩, ⟨5, 6, [x7, x8]⟩, ⟨6, 7, [x7]⟩]
theorem nfA : Nf 0 [] exA := by simp [Nf]
theorem nfB : Nf 0 [] exB := by simp [Nf]
theorem nfC : Nf 0 [] exC := by simp [Nf]
theorem chA : changeP 2 5 (fun q => withP q x7) [] = exA := by
  refine change_to trivial (by omega) nfA fun x => ?_
  unfold tgt
  simp only [den]
  split <;> rfl
theorem chB : changeP 3 4 (fun q => withP q x8) exA = exB := by
  refine change_to nfA (by omega) nfB fun x => ?_
  unfold tgt
  simp only [den]
  repeat' split
  all_goals first | rfl | (exfalso; omega)
theorem insC : insP 3 2 exB = exC := by
  refine ins_to nfB nfC fun x => ?_
  simp only [den]
  repeat' split
  all_goals first | rfl | (exfalso; omega)
theorem good_list {P : List Pc} {N : Nat} (hn : Nf 0 [] P) (h : ∀ p ∈ P, 1 ≤ p.fr ∧ p.to ≤ 65537 ∧ Asc17 p.pr ∧ (∀ y ∈ p.pr, (0 : Int) ≤ y.1) ∧ p.pr.length ≤ N) : Good P N := by
  have key : ∀ x, den P x = [] ∨ ∃ p ∈ P, p.fr ≤ x ∧ x < p.to ∧ den P x = p.pr := fun x => by
    by_cases hx : den P x = []
    · exact .inl hx
    · exact .inr (den_from hx)
  refine ⟨hn, fun x hx => ?_, fun x => ?_, fun x => ?_, fun x => ?_⟩
  · rcases key x with e | ⟨p, hp, h1, h2, e⟩
    · exact e
    · have := h p hp
      omega
  · rcases key x with e | ⟨p, hp, h1, h2, e⟩
    · rw [e]; exact List.Pairwise.nil
    · rw [e]; exact (h p hp).2.2.1
  · rcases key x with e | ⟨p, hp, h1, h2, e⟩
    · rw [e]; intro y hy; cases hy
    · rw [e]; exact (h p hp).2.2.2.1
  · rcases key x with e | ⟨p, hp, h1, h2, e⟩
    · rw [e]; exact Nat.zero_le _
    · rw [e]; exact (h p hp).2.2.2.2
theorem gdA : Good exA 64 := good_list nfA (by simp [Asc17] <;> (try refine ⟨?_, ?_, ?_⟩) <;> intros <;> omega)
theorem gdB : Good exB 64 := good_list nfB (by simp [Asc17] <;> (try refine ⟨?_, ?_, ?_⟩) <;> intros <;> omega)
theorem gdC : Good exC 64 := good_list nfC (by simp [Asc17] <;> (try refine ⟨?_, ?_, ?_⟩) <;> intros <;> omega)
theorem putA : putE [] 2 5 x7 = 0 ∧ putP [] 2 5 x7 = exA := by
  have e : chkE 2 5 (x7).1 = 0 := rfl
  have e2 : changeP (2 : Int).toNat (5 : Int).toNat (fun q => withP q x7) [] = exA := chA
  unfold putE putP
  rw [e2, e]
  exact ⟨rfl, rfl⟩
theorem putB : putE exA 3 4 x8 = 0 ∧ putP exA 3 4 x8 = exB := by
  have e : chkE 3 4 (x8).1 = 0 := rfl
  have e2 : changeP (3 : Int).toNat (4 : Int).toNat (fun q => withP q x8) exA = exB := chB
  unfold putE putP
  rw [e2, e]
  exact ⟨rfl, rfl⟩
theorem insCQ : insE exB 3 2 = 0 ∧ insQ exB 3 2 = exC := by
  have e : insE exB 3 2 = 0 := rfl
  refine ⟨e, ?_⟩
  unfold insQ
  rw [e]
  exact insC
theorem spB : spP exB 1 9 0 = [⟨2, 3, [x7]⟩, ⟨3, 4, [x7, x8]⟩, ⟨4, 5, [x7]⟩] := rfl
theorem nx1 : nextP sameL exC 1 9 = 2 := rfl
theorem nx2 : nextP (sameV 7) exC 2 9 = 3 := rfl
theorem results_cell1 {P : Program} {fn : Func} {p : Tmp} {ty : TypeId} (h : fn.results = #[.cell p ty]) (tmps : Array Value) (w : World) (g : Nat) (t : TypeId) (cs : Array Value) (fr : Nat × Nat) (d : TypeDesc)
    (hp : tmps.getD p undef = .pointer (some ⟨g, 0, none⟩)) (hg : w.heap[g]? = some (.cells cs t fr))
    (hu : P.underlying ty = some d) (hd : (match d with | .struct _ | .array _ _ => true | _ => false) = true) (hi : (P.info? ty).map (·.size) = some cs.size) :
    (results fn tmps).run P w = .ok (.agg cs) w := by
  have hp' : tmps[p]?.getD undef = .pointer (some ⟨g, 0, none⟩) := by simpa using hp
  simp [results, h, hp', asAddr, run_loadVar_row w g t ty cs fr d hg hu hd hi]
set_option maxRecDepth 100000 in
set_option maxHeartbeats 2000000 in
theorem int_any (n : Int) (w : World) : Calls Try.prog 14 #[.int .i64 n] w fun e w' => e = .returned (.agg #[.int .i64 0, .int .i64 n]) ∧ Below w.heap.size w w' := by
  go_enter Try.func14, Try.ntmps14
  go_wp2
  refine bodyPost_ret (results_cell1 rfl _ _ w.heap.size 29 _ (0, 0) _ rfl (Blk.new w 29 #[.int .i64 0, .int .i64 n]) Try.underlying29 rfl (by kernel_rfl)) rfl ?_
  exact ⟨rfl, below_box w _⟩
set_option maxRecDepth 100000 in
set_option maxHeartbeats 2000000 in
theorem sym_any (n : Int) (w : World) : Calls Try.prog 49 #[.int .i64 n] w fun e w' => e = .returned (.agg #[.int .i64 1, .int .i64 n]) ∧ Below w.heap.size w w' := by
  go_enter Try.func49, Try.ntmps49
  go_wp2
  refine bodyPost_ret (results_cell1 rfl _ _ w.heap.size 29 _ (0, 0) _ rfl (Blk.new w 29 #[.int .i64 1, .int .i64 n]) Try.underlying29 rfl (by kernel_rfl)) rfl ?_
  exact ⟨rfl, below_box w _⟩
set_option maxRecDepth 100000 in
set_option maxHeartbeats 2000000 in
theorem t_any (w : World) : Calls Try.prog 15 #[] w fun e w' => e = .returned (.agg #[.int .i64 1, .int .i64 1]) ∧ Below w.heap.size w w' := by
  have HF0 := hide (Blk.new w 29 #[.int .i64 0, .int .i64 0])
  have HB := hide (below_box w (.cells #[.int .i64 0, .int .i64 0] 29))
  have HS := hide (fun w => sym_any 1 w)
  go_enter Try.func15, Try.ntmps15
  go_wp2_with (go_at_call 49; (with_reducible refine Calls.mono (HS.out _) ?_); rintro r w2 ⟨rfl, b2⟩; have hF := HF0.out.below b2 HF0.out.lt; have c0 := hF.cell 0; have c1 := hF.cell 1; have f0 := hF.frozen 0; have f1 := hF.frozen 1; have HF := hide hF; have HB2 := hide (HB.out.trans (b2.mono HB.out.size)); clear hF b2)
  refine bodyPost_ret (results_cell1 rfl _ _ w.heap.size 29 _ (0, 0) _ rfl ((HF.out.set_ 0 _).set_ 1 _) Try.underlying29 rfl (by kernel_rfl)) rfl ?_
  exact ⟨rfl, (HB2.out.setCell (p := ⟨w.heap.size, 0, none⟩) (Nat.le_refl _) _).setCell (p := ⟨w.heap.size, 1, none⟩) (Nat.le_refl _) _⟩
end Go.Proofs.Ytgiogmbopiblmaa
