/- PropsFull: many spans, plain laws. No condition but those written. -/
import Derived.Test.YtgiogmbopiblmaaPqi
namespace Go.Proofs.Ytgiogmbopiblmaa

/-- Pieces of one character, every second place, from number s on. -/
def PQ (a : Int) : Nat → Nat → List Pc
  | _, 0 => []
  | s, n + 1 => ⟨2 * s + 1, 2 * s + 2, [(a, 0, (s : Int))]⟩ :: PQ a (s + 1) n
theorem PQ_len (a : Int) : ∀ s n, (PQ a s n).length = n
  | _, 0 => rfl
  | s, n + 1 => by simp [PQ, PQ_len a (s + 1) n]
theorem PQ_nf (a : Int) : ∀ (n s b : Nat) (q : List Pr), b < 2 * s + 1 → Nf b q (PQ a s n)
  | 0, _, _, _, _ => trivial
  | n + 1, s, b, q, h => ⟨by simp only []; omega, by simp, by simp, fun e => by simp only [] at e; omega, PQ_nf a n (s + 1) _ _ (by simp only []; omega)⟩
theorem PQ_den (a : Int) : ∀ (n s x : Nat), den (PQ a s n) x = if 2 * s + 1 ≤ x ∧ x < 2 * (s + n) + 1 ∧ x % 2 = 1 then [(a, 0, ((x / 2 : Nat) : Int))] else []
  | 0, s, x => by
      rw [if_neg (by omega)]
      rfl
  | n + 1, s, x => by
      have ih := PQ_den a n (s + 1) x
      show (if 2 * s + 1 ≤ x ∧ x < 2 * s + 2 then [(a, 0, (s : Int))] else den (PQ a (s + 1) n) x) = _
      by_cases h : 2 * s + 1 ≤ x ∧ x < 2 * s + 2
      · rw [if_pos h, if_pos (by omega), show x / 2 = s by omega]
      · rw [if_neg h, ih]
        by_cases h2 : 2 * (s + 1) + 1 ≤ x ∧ x < 2 * (s + 1 + n) + 1 ∧ x % 2 = 1
        · rw [if_pos h2, if_pos (by omega)]
        · rw [if_neg h2, if_neg (by omega)]
theorem PQ_mem (a : Int) : ∀ (n s : Nat), ∀ p ∈ PQ a s n, 2 * s + 1 ≤ p.fr ∧ p.to ≤ 2 * (s + n) ∧ ∃ k : Int, p.pr = [(a, 0, k)]
  | 0, _, p, h => by cases h
  | n + 1, s, p, h => by
      rcases List.mem_cons.1 h with rfl | h
      · exact ⟨Nat.le_refl _, by simp only []; omega, _, rfl⟩
      · obtain ⟨h1, h2, h3⟩ := PQ_mem a n (s + 1) p h
        exact ⟨by omega, by omega, h3⟩
theorem PQ_any (a : Int) (n s : Nat) : (PQ a s n).any fatP = false := by
  rw [List.any_eq_false]
  intro p hp
  obtain ⟨_, _, k, e⟩ := PQ_mem a n s p hp
  unfold fatP
  rw [e]
  simp
theorem PQ_good {a : Int} (ha : 0 ≤ a) (n s : Nat) (hs : 2 * (s + n) ≤ 65537) : Good (PQ a s n) 64 := by
  refine good_list (PQ_nf a n s 0 [] (by omega)) fun p hp => ?_
  obtain ⟨h1, h2, k, e⟩ := PQ_mem a n s p hp
  rw [e]
  refine ⟨by omega, by omega, by simp [Asc17], fun y hy => ?_, by simp⟩
  have : y = (a, 0, k) := by simpa using hy
  subst this
  exact ha
section
variable {a : Int}
theorem PQ_put (n : Nat) : changeP (2 * n + 1) (2 * n + 2) (fun q => withP q (a, 0, (n : Int))) (PQ a 0 n) = PQ a 0 (n + 1) := by
  refine change_to (PQ_nf a n 0 0 [] (by omega)) (by omega) (PQ_nf a (n + 1) 0 0 [] (by omega)) fun x => ?_
  unfold tgt
  rw [PQ_den, PQ_den]
  by_cases h : 2 * n + 1 ≤ x ∧ x < 2 * n + 2
  · rw [if_pos h, if_pos (by omega), if_neg (by omega), show x / 2 = n by omega]
    rfl
  · rw [if_neg h]
    by_cases h2 : 2 * 0 + 1 ≤ x ∧ x < 2 * (0 + n) + 1 ∧ x % 2 = 1
    · rw [if_pos h2, if_pos (by omega)]
    · rw [if_neg h2, if_neg (by omega)]
/-- The spans that are pasted. -/
def sq (a : Int) (n : Nat) : Sn := ⟨2 * (n : Int) + 1, 2 * (n : Int) + 2, [(a, 0, (n : Int))]⟩
theorem paste_sq (ha : 0 ≤ a) : ∀ (n : Nat), n ≤ 1024 → pasteS 1 ((List.range n).map (sq a)) [] = .inr (PQ a 0 n) := by
  have key : ∀ (m : Nat) (l : List Sn), m + l.length ≤ 1024 → l = (List.range' m l.length).map (sq a) → pasteS 1 l (PQ a 0 m) = .inr (PQ a 0 (m + l.length)) := by
    intro m l
    induction l generalizing m with
    | nil => intro _ _; rfl
    | cons s l ih =>
      intro hm hl
      rw [List.length_cons, List.range'_succ, List.map_cons] at hl
      injection hl with h1 h2
      subst h1
      have hn : m < 1024 := by simp at hm; omega
      have hm1 : mayP (sq a m).lo (sq a m).hi ∧ mayP (1 + (sq a m).lo - 1) (1 + (sq a m).hi - 1) := by
        unfold sq mayP
        simp only []
        omega
      have e1 : (1 + (sq a m).lo - 1).toNat = 2 * m + 1 := by unfold sq; simp only []; omega
      have e2 : (1 + (sq a m).hi - 1).toNat = 2 * m + 2 := by unfold sq; simp only []; omega
      unfold pasteS
      rw [if_pos hm1, e1, e2]
      have e3 : pasteX (2 * m + 1) (2 * m + 2) (sq a m).pr (PQ a 0 m) = .inr (PQ a 0 (m + 1)) := by
        show (if a < 0 then _ else _) = _
        rw [if_neg (by omega)]
        show Sum.inr _ = _
        rw [PQ_put]
      rw [e3]
      have := ih (m + 1) (by simp at hm; omega) h2
      show pasteS 1 l (PQ a 0 (m + 1)) = _
      rw [this, List.length_cons, show m + (l.length + 1) = m + 1 + l.length by omega]
  intro n hn
  have := key 0 ((List.range n).map (sq a)) (by simp; omega) (by rw [List.length_map, List.length_range, List.range_eq_range'])
  simpa [PQ] using this
theorem full_paste (ha : 0 ≤ a) : pasteE [] 1 ((List.range 1024).map (sq a)) = 0 ∧ pasteQ [] 1 ((List.range 1024).map (sq a)) = PQ a 0 1024 := by
  refine pasteR_ok (by omega) (paste_sq ha 1024 (Nat.le_refl _)) ?_
  unfold fullP
  rw [PQ_len, PQ_any]
  rfl
theorem cov_sq (a : Int) : ∀ (l : List Sn), (∀ s ∈ l, s.pr.length ≤ 1) → ∀ x, cov 1 l x ≤ l.length
  | [], _, _ => Nat.le_refl _
  | s :: l, h, x => by
      have h1 := cov_sq a l (fun z hz => h z (List.mem_cons_of_mem _ hz)) x
      have h2 := h s (List.mem_cons_self ..)
      unfold cov
      rw [List.length_cons]
      split <;> omega
/-- One more, far behind. -/
def farP (P : List Pc) (a : Int) : List Pc := P ++ [⟨20000, 20001, [(a, 1, 1)]⟩]
theorem far_nf {P : List Pc} (h : Nf 0 [] P) (he : endP P < 20000) : Nf 0 [] (farP P a) := Nf.snoc.2 ⟨h, by simp only []; omega, by simp, by simp, fun e => by simp only [] at e; omega⟩
theorem far_put {P : List Pc} (h : Nf 0 [] P) (he : endP P < 20000) : changeP 20000 20001 (fun q => withP q (a, 1, 1)) P = farP P a := by
  refine change_to h (by omega) (far_nf h he) fun x => ?_
  unfold tgt farP
  rw [den_snoc2 (far_nf h he)]
  by_cases hx : 20000 ≤ x ∧ x < 20001
  · rw [if_pos hx, if_pos hx, den_high h (Nat.le_trans (Nat.le_of_lt he) hx.1)]
    rfl
  · rw [if_neg hx, if_neg hx]
theorem PQ_endb (a : Int) : ∀ (n s b : Nat) (q : List Pr), b ≤ 2 * (s + n) → (lastE b q (PQ a s n)).1 ≤ 2 * (s + n)
  | 0, _, _, _, h => h
  | n + 1, s, b, q, h => by
      have := PQ_endb a n (s + 1) (2 * s + 2) [(a, 0, (s : Int))] (by omega)
      show (lastE (2 * s + 2) [(a, 0, (s : Int))] (PQ a (s + 1) n)).1 ≤ _
      omega
theorem PQ_end (a : Int) (n s : Nat) : (lastE 0 [] (PQ a s n)).1 ≤ 2 * (s + n) := PQ_endb a n s 0 [] (Nat.zero_le _)
theorem endP_cons (p : Pc) (l : List Pc) : endP (p :: l) = (lastE p.to p.pr l).1 := rfl
theorem full_far (ha : 0 ≤ a) : putE (PQ a 0 1024) 20000 20001 (a, 1, 1) = 7 ∧ putP (PQ a 0 1024) 20000 20001 (a, 1, 1) = PQ a 0 1024 := by
  have hc : chkE 20000 20001 a = 0 := by unfold chkE; rw [if_pos (by omega), if_neg (by omega)]
  have hn := PQ_nf a 1024 0 0 [] (by omega)
  have he : endP (PQ a 0 1024) < 20000 := by have := PQ_end a 1024 0; unfold endP; omega
  have hf : fullP (changeP (20000 : Int).toNat (20001 : Int).toNat (fun q => withP q (a, 1, 1)) (PQ a 0 1024)) = true := by
    show fullP (changeP 20000 20001 _ _) = true
    rw [far_put hn he]
    unfold fullP farP
    rw [List.length_append, PQ_len]
    rfl
  unfold putE putP
  rw [hc, hf]
  exact ⟨rfl, rfl⟩
/-- What lies between is what there is. -/
theorem cut_all {P : List Pc} (h : Nf 0 [] P) {fr en : Nat} (hp : ∀ x, ¬ (fr ≤ x ∧ x < en) → den P x = []) : cutP fr en P = P := by
  obtain ⟨h1, _, _, _, h2⟩ := cut_inv fr en P h
  refine Nf.same h1 h fun x _ => ?_
  rw [h2]
  split
  · rfl
  · rename_i hx
    exact (hp x hx).symm
theorem spans_PQ (a : Int) : (spP (PQ a 0 1024) 1 30000 0).length = 1024 := by
  have e : cutP 1 30000 (PQ a 0 1024) = PQ a 0 1024 := cut_all (PQ_nf a 1024 0 0 [] (by omega)) fun x hx => by rw [PQ_den, if_neg (by omega)]
  unfold spP
  rw [if_pos (by omega)]
  show ((cutP 1 30000 (PQ a 0 1024)).map _).length = _
  rw [List.length_map, e, PQ_len]
/-- The first two made one. -/
def fewP (a : Int) : List Pc := ⟨1, 4, [(a, 0, 0)]⟩ :: PQ a 2 1022
theorem few_nf (a : Int) : Nf 0 [] (fewP a) := ⟨by simp, by simp, by simp, fun _ => by simp, PQ_nf a 1022 2 _ _ (by simp)⟩
theorem few_den (a : Int) (x : Nat) : den (fewP a) x = if 1 ≤ x ∧ x < 4 then [(a, 0, 0)] else den (PQ a 2 1022) x := rfl
theorem few_put (ha : 0 ≤ a) : putE (PQ a 0 1024) 2 4 (a, 0, 0) = 0 ∧ putP (PQ a 0 1024) 2 4 (a, 0, 0) = fewP a := by
  have hc : chkE 2 4 a = 0 := by unfold chkE; rw [if_pos (by omega), if_neg (by omega)]
  refine put_ok hc ?_ ?_
  · show changeP 2 4 _ _ = _
    refine change_to (PQ_nf a 1024 0 0 [] (by omega)) (by omega) (few_nf a) fun x => ?_
    unfold tgt
    rw [few_den, PQ_den, PQ_den]
    by_cases h1 : x = 1
    · subst h1
      rfl
    · by_cases h2 : 2 ≤ x ∧ x < 4
      · rw [if_pos (by omega), if_pos h2]
        by_cases h3 : x = 2
        · subst h3
          rfl
        · obtain rfl : x = 3 := by omega
          rw [if_pos (by omega)]
          show _ = withP [(a, 0, 1)] (a, 0, 0)
          unfold withP
          rw [if_neg (by simp), if_pos rfl]
      · rw [if_neg (by omega), if_neg h2]
        by_cases h4 : 2 * 2 + 1 ≤ x ∧ x < 2 * (2 + 1022) + 1 ∧ x % 2 = 1
        · rw [if_pos h4, if_pos (by omega)]
        · rw [if_neg h4, if_neg (by omega)]
  · unfold fullP fewP
    rw [List.length_cons, PQ_len, List.any_cons, PQ_any]
    rfl
theorem few_good (ha : 0 ≤ a) : Good (fewP a) 64 := by
  refine good_list (few_nf a) fun p hp => ?_
  rcases List.mem_cons.1 hp with rfl | hp
  · refine ⟨by simp, by simp, by simp [Asc17], fun y hy => ?_, by simp⟩
    have : y = (a, 0, 0) := by simpa using hy
    subst this
    exact ha
  · obtain ⟨h1, h2, k, e⟩ := PQ_mem a 1022 2 p hp
    rw [e]
    refine ⟨by omega, by omega, by simp [Asc17], fun y hy => ?_, by simp⟩
    have : y = (a, 0, k) := by simpa using hy
    subst this
    exact ha
theorem few_spans (a : Int) : (spP (fewP a) 1 30000 0).length = 1023 := by
  have e : cutP 1 30000 (fewP a) = fewP a := cut_all (few_nf a) fun x hx => by rw [few_den, PQ_den, if_neg (by omega), if_neg (by omega)]
  unfold spP
  rw [if_pos (by omega)]
  show ((cutP 1 30000 (fewP a)).map _).length = _
  rw [List.length_map, e]
  unfold fewP
  rw [List.length_cons, PQ_len]
theorem few_far (ha : 0 ≤ a) : putE (fewP a) 20000 20001 (a, 1, 1) = 0 ∧ putP (fewP a) 20000 20001 (a, 1, 1) = farP (fewP a) a := by
  have hc : chkE 20000 20001 a = 0 := by unfold chkE; rw [if_pos (by omega), if_neg (by omega)]
  have he : endP (fewP a) < 20000 := by
    have := PQ_endb a 1022 2 4 [(a, 0, 0)] (by omega)
    unfold fewP
    rw [endP_cons]
    simp only []
    omega
  refine put_ok hc ?_ ?_
  · exact far_put (few_nf a) he
  · unfold fullP farP fewP
    rw [List.length_append, List.length_cons, PQ_len, List.any_append, List.any_cons, PQ_any]
    rfl
end
end Go.Proofs.Ytgiogmbopiblmaa
