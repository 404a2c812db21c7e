/- slices.Replace at pieces, all of it; change. No condition but those written. -/
import Derived.Test.YtgiogmbopiblmaaPpq
namespace Go.Proofs.Ytgiogmbopiblmaa
open Go.RowKit

section
variable {w w' : World} {sv vv v' : Value} {L X : List (Pc × Value)} {i j : Nat}
theorem rep_mid (h : PcsAt w sv L) (hx : PcsAt w vv X) (hne : ∀ g, sv.ownBlock = some g → ¬ vv.ownBlock = some g) (hij : i < j) (hj : j < L.length) (hL : L.length ≤ 1000000) (hX : X.length ≤ 1000000) : Calls Try.prog 73 #[sv, .int .i64 (i : Int), .int .i64 (j : Int), vv] w (PcsRes w sv ((pcs L).take i ++ pcs X ++ (pcs L).drop j)) := by
  obtain ⟨B, c, rfl, hnc, hcm⟩ := h.row.form
  obtain ⟨V, d, rfl, _, _⟩ := hx.row.form
  unfold maxLen at hcm
  obtain ⟨g, off, rfl⟩ : ∃ g off, B = some ⟨g, off, none⟩ := by
    obtain ⟨g, off, _, e1, _⟩ := h.row.at_ (by omega)
    injection e1 with e1 _ _
    exact ⟨g, off, e1⟩
  have hr : RepIn w g off L.length c i j X.length d V L X := ⟨h.row, hx.row, fun b o e e2 => by subst e; subst e2; exact hne _ rfl rfl, rfl, rfl, hij, hj, hnc, by omega, hL, hX, hx.one, h.one⟩
  have fin : ∀ (e : Ending) (w' : World), RepRes w g off L.length c i j X.length L X e w' → PcsRes w (.slice (some ⟨g, off, none⟩) L.length c) ((pcs L).take i ++ pcs X ++ (pcs L).drop j) e w' := by
    rintro e w' ⟨v', rfl, hs, ho, hv⟩
    exact ⟨v', _, rfl, h.replaced hx (Nat.le_of_lt hij) (Nat.le_of_lt hj) rfl hs ho, pcs_replaced .., ho, hv.imp id fun e => ⟨_, e, Nat.le_refl _⟩⟩
  by_cases hu : i + X.length ≤ j
  · exact (rep_fit hr hu).mono fun {e w'} => fin e w'
  · by_cases hroom : i + X.length + (L.length - j) ≤ c
    · exact (rep_wide hr (by omega) hroom).mono fun {e w'} => fin e w'
    · exact (rep_new hr (by omega)).mono fun {e w'} => fin e w'
theorem replace_any (h : PcsAt w sv L) (hx : PcsAt w vv X) (hne : ∀ g, sv.ownBlock = some g → ¬ vv.ownBlock = some g) (hij : i ≤ j) (hj : j ≤ L.length) (h0 : i = j → L.length = 0) (hL : L.length ≤ 1000000) (hX : X.length ≤ 1000000) : Calls Try.prog 73 #[sv, .int .i64 (i : Int), .int .i64 (j : Int), vv] w (PcsRes w sv ((pcs L).take i ++ pcs X ++ (pcs L).drop j)) := by
  by_cases e : i = j
  · have hl := h0 e
    obtain rfl : L = [] := List.eq_nil_of_length_eq_zero hl
    obtain rfl : j = 0 := by simpa using hj
    subst e
    have := rep_ins h hx hX
    simpa [pcs] using this
  · by_cases hjn : j = L.length
    · subst hjn
      have := rep_end h hx hne i (by omega) hL hX
      rw [List.drop_eq_nil_of_le (by rw [pcs_len]; exact Nat.le_refl _), List.append_nil]
      exact this
    · exact rep_mid h hx hne (by omega) (by omega) hL hX
theorem PcsRd.sub {w : World} {g off n c : Nat} {L : List (Pc × Value)} (h : PcsRd w (.slice (some ⟨g, off, none⟩) n c) L) (hn : n = L.length) {i k : Nat} (hik : i ≤ k) (hk : k ≤ n) (d : Nat) : PcsRd w (.slice (some ⟨g, off + i * 3, none⟩) (k - i) d) ((L.drop i).take (k - i)) := by
  refine ⟨?_, fun p hp => h.inn p (List.mem_of_mem_drop (List.mem_of_mem_take hp))⟩
  have h1 := h.row
  rw [← hn] at h1
  have h2 := (h1.cutF (j := i) (by omega) d).front (j := k - i) (by omega) d
  rw [rows_drop pcC_len, rows_take pcC_len] at h2
  have e : ((L.drop i).take (k - i)).length = k - i := by rw [List.length_take, List.length_drop]; omega
  rw [e]
  exact h2
theorem pcs_sub (i k : Nat) (L : List (Pc × Value)) : pcs ((L.drop i).take (k - i)) = ((pcs L).drop i).take (k - i) := by simp [pcs]
variable {fid : Nat} {caps : Array Value} {M N : Nat} {f : List Pr → List Pr}
set_option maxRecDepth 100000 in
set_option maxHeartbeats 8000000 in
theorem change_any (hf : FnOk w fid caps f N M) (h : PcsAt w sv L) (hn : Nf 0 [] (pcs L)) (fr en : Nat) (hft : fr ≤ en) (hl : L.length ≤ 100000) (hM : M ≤ 1000000) (hN : ∀ p ∈ pcs L, p.pr.length ≤ N) (hNM : N ≤ M) (_hfr : fr ≤ 100000) (_hen : en ≤ 100000) :
    Calls Try.prog 44 #[sv, .int .i64 (fr : Int), .int .i64 (en : Int), .func (.func fid) #[] caps] w (PcsRes w sv (changeP fr en f (pcs L))) := by
  have H1 := hide (first_any h hn (fr : Int) (by omega))
  have H2 := hide (fun w' (hb : Below w.heap.size w w') => first_any (h.below hb) hn (en : Int) (by omega))
  rw [Int.toNat_natCast] at H1
  simp only [Int.toNat_natCast] at H2
  have g1 := firstP_le (pcs L) fr
  have g2 := firstP_le (pcs L) en
  have g3 := firstP_mono (pcs L) hft
  rw [pcs_len] at g1 g2
  have hCH : changeP fr en f (pcs L) = (pcs L).take (firstP (pcs L) fr - 1) ++ changedP fr en f (((pcs L).drop (firstP (pcs L) fr - 1)).take (min L.length (firstP (pcs L) en + 1) - (firstP (pcs L) fr - 1))) ++ (pcs L).drop (min L.length (firstP (pcs L) en + 1)) := by
    unfold changeP
    rw [pcs_len]
  obtain ⟨F1, hF1⟩ : ∃ F, F = firstP (pcs L) fr := ⟨_, rfl⟩
  obtain ⟨F2, hF2⟩ : ∃ F, F = firstP (pcs L) en := ⟨_, rfl⟩
  rw [← hF1] at H1 g1 g3 hCH
  simp only [← hF2] at H2
  rw [← hF2] at g2 g3 hCH
  obtain ⟨i, hi⟩ : ∃ i, i = F1 - 1 := ⟨_, rfl⟩
  obtain ⟨k, hk⟩ : ∃ k, k = min L.length (F2 + 1) := ⟨_, rfl⟩
  rw [← hi, ← hk] at hCH
  rw [hCH]
  obtain ⟨B, c, rfl, hnc, hcm⟩ := h.row.form
  unfold maxLen at hcm
  have hik : i ≤ k := by omega
  have hkn : k ≤ L.length := by omega
  have h0 : i = k → L.length = 0 := fun e => by omega
  have HF := hide hf
  have H := hide h
  have HN := hide hN
  have HCH := hide (fun (w2 : World) (sv0 : Value) (hb : Below w.heap.size w w2) (hr : PcsRd w2 sv0 ((L.drop i).take (k - i))) => changed_any sv0 ((L.drop i).take (k - i)) (hf.below hb) hr fr en (by rw [List.length_take, List.length_drop]; omega) hM (by rw [pcs_sub]; exact fun p hp => hN p (List.mem_of_mem_drop (List.mem_of_mem_take hp))) hNM)
  have HRE := hide (fun (w3 : World) (v3 : Value) (L3 : List (Pc × Value)) (h1 : PcsAt w3 (.slice B L.length c) L) (h3 : PcsAt w3 v3 L3) (hne : ∀ g, (Value.slice B L.length c).ownBlock = some g → ¬ v3.ownBlock = some g) (hl3 : L3.length ≤ 600000) => replace_any h1 h3 hne hik hkn h0 (by omega) (by omega))
  have hlt : ∀ g, (Value.slice B L.length c).ownBlock = some g → g < w.heap.size := fun g hg => by
    rcases h.row.2 with ⟨e, _⟩ | ⟨g1, o1, c1, cs1, e, hh, _⟩
    · rw [e] at hg
      cases hg
    · rw [e] at hg
      cases hg
      exact lt_of_heap hh
  have HLT := hide hlt
  have y1 : ∀ (w : World), (Builtin.max_ #[3, 3] 3 #[.int .i64 0, .int .i64 ((F1 : Int) - 1)]).run Try.prog w = .ok (.int .i64 (i : Int)) w := fun w => by rw [run_max_int2, hi]; congr 3; split <;> omega
  have y2 : IntKind.i64.wrap ((F1 : Int) - 1) = (F1 : Int) - 1 := IntWalk.i64_in _ (by omega)
  have y3 : IntKind.i64.wrap ((F2 : Int) + 1) = (F2 : Int) + 1 := IntWalk.i64_in _ (by omega)
  have hlc := hl
  obtain ⟨n, hnn⟩ : ∃ n, n = L.length := ⟨_, rfl⟩
  rw [← hnn] at HRE H1 H2 H HLT hnc hkn hk h0 hl ⊢
  have y4 : ∀ (w : World), (Builtin.min_ #[3, 3] 3 #[.int .i64 (n : Int), .int .i64 ((F2 : Int) + 1)]).run Try.prog w = .ok (.int .i64 (k : Int)) w := fun w => by rw [run_min_int2, hk]; congr 3; split <;> omega
  have z1 : (i : Int) ≤ (k : Int) := by omega
  have z2 : (k : Int) ≤ (n : Int) := by omega
  have z3 : (k : Int) ≤ (c : Int) := by omega
  have HNN := hide hnn
  have HFIN := hide (fun (w3 w4 : World) (v3 : Value) (hb : Below w.heap.size w w3) (l : List Pc) (e : Ending) (hr : PcsRes w3 (.slice B n c) l e w4) => show PcsRes w (.slice B n c) l e w4 from by
    obtain ⟨v', L', rfl, p1, p2, p3, p4⟩ := hr
    exact ⟨v', L', rfl, p1, p2, (Only.of_below hb).trans p3, p4.imp id fun ⟨g, e, hg⟩ => ⟨g, e, Nat.le_trans hb.size hg⟩⟩)
  clear hnn hl hlc hM hN hNM hCH hF1 hF2 hi hk g1 g2 g3 hf hft
  by_cases h0n : n = 0
  · subst h0n
    obtain rfl : L = [] := List.eq_nil_of_length_eq_zero HNN.out.symm
    obtain rfl : k = 0 := by omega
    obtain rfl : i = 0 := by omega
    have HR0 := hide (fun (w2 : World) (d : Nat) => (show PcsRd w2 (.slice B 0 d) (([] : List (Pc × Value)).drop 0 |>.take (0 - 0)) from ⟨⟨B, d, rfl, rfl, fun h => by cases h⟩, fun p hp => by simp at hp⟩))
    clear h hn hlt
    go_enter Try.func44, Try.ntmps44
    go_upto_region 2 with (first | (go_at_call 72; (with_reducible refine Calls.mono H1.out ?_); rintro r w2 ⟨rfl, hb2⟩; have HB2 := hide hb2; clear hb2) | (go_at_call 72; (with_reducible refine Calls.mono (H2.out _ HB2.out) ?_); rintro r w3 ⟨rfl, hb3⟩; have HB3 := hide (HB2.out.trans (hb3.mono HB2.out.size)); clear hb3))
    go_wp2_with (first | (go_at_call 74; (with_reducible refine Calls.mono (HCH.out _ _ HB3.out (HR0.out _ _)) ?_); rintro r w4 ⟨v4, L4, rfl, h4, e4, b4, o4, l4⟩; have HB4 := hide (HB3.out.trans (b4.mono HB3.out.size)); have HR := hide (rep_ins (H.out.below HB4.out) h4 (by omega)); obtain ⟨A4, c4, rfl, _⟩ := h4.row.form; have E4 := hide e4; clear h4 e4 b4 o4 l4) | (go_at_call 73; (with_reducible refine Calls.mono HR.out ?_); rintro r w5 ⟨v5, L5, rfl, hr⟩; obtain ⟨A5, c5, rfl, _⟩ := hr.1.row.form; have HR5 := hide hr; clear hr))
    go_ret
    refine HFIN.out _ _ (.slice B 0 c) HB4.out _ _ ⟨_, L5, rfl, HR5.out.1, ?_, HR5.out.2.2.1, HR5.out.2.2.2⟩
    rw [HR5.out.2.1, E4.out]
    simp [pcs]
  · obtain ⟨g, off, rfl⟩ : ∃ g off, B = some ⟨g, off, none⟩ := by
      obtain ⟨g, off, _, e1, _⟩ := h.row.at_ (by rw [← HNN.out]; omega)
      injection e1 with e1 _ _
      exact ⟨g, off, e1⟩
    have z4 : ¬ c = i := by omega
    have z5 : ¬ i = c := by omega
    have HSUB := hide (fun (w3 : World) (hb : Below w.heap.size w w3) => PcsRd.sub (H.out.below hb).rd HNN.out hik hkn (c - i))
    clear h hn hlt
    go_enter Try.func44, Try.ntmps44
    go_upto_region 2 with (first | (go_at_call 72; (with_reducible refine Calls.mono H1.out ?_); rintro r w2 ⟨rfl, hb2⟩; have HB2 := hide hb2; clear hb2) | (go_at_call 72; (with_reducible refine Calls.mono (H2.out _ HB2.out) ?_); rintro r w3 ⟨rfl, hb3⟩; have HB3 := hide (HB2.out.trans (hb3.mono HB2.out.size)); clear hb3))
    go_wp2_with (first | (go_at_call 74; (with_reducible refine Calls.mono (HCH.out _ _ HB3.out (HSUB.out _ HB3.out)) ?_); rintro r w4 ⟨v4, L4, rfl, h4, e4, b4, o4, l4⟩; have HB4 := hide (HB3.out.trans (b4.mono HB3.out.size)); have HR := hide (HRE.out _ _ _ (H.out.below HB4.out) h4 (fun g hg e => by have := HLT.out g hg; have := o4 g e; have := HB3.out.size; omega) l4); obtain ⟨A4, c4, rfl, _⟩ := h4.row.form; have E4 := hide e4; clear h4 e4 b4 o4 l4) | (go_at_call 73; (with_reducible refine Calls.mono HR.out ?_); rintro r w5 ⟨v5, L5, rfl, hr⟩; obtain ⟨A5, c5, rfl, _⟩ := hr.1.row.form; have HR5 := hide hr; clear hr))
    go_ret
    refine HFIN.out _ _ (.slice (some ⟨g, off, none⟩) n c) HB4.out _ _ ⟨_, L5, rfl, HR5.out.1, ?_, HR5.out.2.2.1, HR5.out.2.2.2⟩
    rw [HR5.out.2.1, E4.out, pcs_sub]
end
end Go.Proofs.Ytgiogmbopiblmaa
