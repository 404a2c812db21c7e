/- Acts: are they light; spans copied. No condition but those written. -/
import Derived.Test.YtgiogmbopiblmaaPqg
namespace Go.Proofs.Ytgiogmbopiblmaa
open Go.RowKit

/-- An act. -/
structure Ac where
  kd : Int
  fr : Int
  en : Int
  nm : Int
  n : Int
  k : Int
  v : Int
  S : List (Sn × Value)
  sv : Value
def Ac.cells (a : Ac) : List Value := [.int .i64 a.kd, .int .i64 a.fr, .int .i64 a.en, .int .i64 a.nm, .int .i64 a.n, .int .i64 a.k, .int .i64 a.v, a.sv]
theorem ac_len (a : Ac) : a.cells.length = 8 := rfl
/-- Acts that came in. -/
structure ActsRd (W : World) (v : Value) (l : List Ac) : Prop where
  row : Rd W v 8 l.length (rows Ac.cells l)
  inn : ∀ a ∈ l, SnRd W a.sv a.S
theorem ActsRd.below {w w' : World} {v : Value} {l : List Ac} {B : Nat} (h : ActsRd w v l) (hb : Below w.heap.size w w') (_hB : B = B) : ActsRd w' v l := ⟨h.row.belowN hb, fun a ha => (h.inn a ha).below hb⟩
theorem ActsRd.at_ {w : World} {A : Option Addr} {n c i : Nat} {a : Ac} {l : List Ac} (h : ActsRd w (.slice A n c) l) (hn : n = l.length) (hi : l[i]? = some a) :
    ∃ g off, A = some ⟨g, off, none⟩ ∧ w.cell? ⟨g, off + i * 8, none⟩ = some (.int .i64 a.kd) ∧ w.cell? ⟨g, off + i * 8 + 1, none⟩ = some (.int .i64 a.fr) ∧ w.cell? ⟨g, off + i * 8 + 2, none⟩ = some (.int .i64 a.en) ∧ w.cell? ⟨g, off + i * 8 + 3, none⟩ = some (.int .i64 a.nm) ∧ w.cell? ⟨g, off + i * 8 + 4, none⟩ = some (.int .i64 a.n) ∧ w.cell? ⟨g, off + i * 8 + 5, none⟩ = some (.int .i64 a.k) ∧ w.cell? ⟨g, off + i * 8 + 6, none⟩ = some (.int .i64 a.v) ∧ w.cell? ⟨g, off + i * 8 + 7, none⟩ = some a.sv := by
  have hlt := (List.getElem?_eq_some_iff.1 hi).1
  obtain ⟨g, off, c', hv1, hc1⟩ := Rd.fld ac_len h.row (by omega)
  obtain ⟨rfl, rfl⟩ : A = some ⟨g, off, none⟩ ∧ c = c' := by
    injection hv1 with e1 _ e2
    exact ⟨e1, e2⟩
  exact ⟨g, off, rfl, hc1 i _ 0 _ hi rfl, hc1 i _ 1 _ hi rfl, hc1 i _ 2 _ hi rfl, hc1 i _ 3 _ hi rfl, hc1 i _ 4 _ hi rfl, hc1 i _ 5 _ hi rfl, hc1 i _ 6 _ hi rfl, hc1 i _ 7 _ hi rfl⟩
/-- copyistlaw17.near. -/
def nearB (n : Int) : Bool := decide (n < 600) || decide (65636 < n)
theorem near_any (n : Int) (w : World) : Calls Try.prog 31 #[.int .i64 n] w fun e w' => e = .returned (.bool (nearB n)) ∧ w = w' := by
  unfold nearB
  by_cases h1 : n < 600
  · rw [decide_eq_true h1]
    have z1 : decide (n < 600) = true := by simpa using h1
    clear h1
    go_enter Try.func31, Try.ntmps31
    go_wp2
    go_ret
    exact ⟨rfl, rfl⟩
  · rw [decide_eq_false h1]
    have z1 : decide (n < 600) = false := by simpa using h1
    by_cases h2 : 65636 < n
    · rw [decide_eq_true h2]
      have z2 : decide (65636 < n) = true := by simpa using h2
      clear h1 h2
      go_enter Try.func31, Try.ntmps31
      go_wp2
      go_ret
      exact ⟨rfl, rfl⟩
    · rw [decide_eq_false h2]
      have z2 : decide (65636 < n) = false := by simpa using h2
      clear h1 h2
      go_enter Try.func31, Try.ntmps31
      go_wp2
      go_ret
      exact ⟨rfl, rfl⟩
/-- Is a span light? -/
def lightS (s : Sn × Value) : Bool := nearB s.1.hi && decide (s.1.pr.length ≤ 70)
def lightH (a : Ac) : Bool := nearB a.fr && nearB a.en && nearB a.n && decide (a.S.length ≤ 10)
def lightA (a : Ac) : Bool := lightH a && a.S.all lightS
def lightL (l : List Ac) : Bool := l.all lightA && decide (l.length ≤ 30)
theorem all_take {α : Type} {p : α → Bool} {l : List α} {k : Nat} {x : α} (h : (l.take k).all p = true) (hx : l[k]? = some x) (hp : p x = true) : (l.take (k + 1)).all p = true := by
  rw [List.take_add_one, hx, List.all_append, h]
  simp [hp]
theorem all_not {α : Type} {p : α → Bool} {l : List α} {k : Nat} {x : α} (hx : l[k]? = some x) (hp : p x = false) : l.all p = false := by
  rw [List.all_eq_false]
  exact ⟨x, List.mem_of_getElem? hx, by rw [hp]; simp⟩
set_option maxRecDepth 100000 in
set_option maxHeartbeats 16000000 in
theorem light_any (l : List Ac) (v : Value) (w : World) (h : ActsRd w v l) (hm : l.length ≤ maxLen) : Calls Try.prog 27 #[v] w fun e w' => e = .returned (.bool (lightL l)) ∧ w = w' := by
  obtain ⟨A, c, rfl, _⟩ := id h.row
  obtain ⟨nn, hnn⟩ : ∃ nn, nn = l.length := ⟨_, rfl⟩
  have HRD := hide h
  rw [← hnn] at HRD ⊢
  have hl2 : (nn : Int) ≤ 9223372036854775807 := by unfold maxLen at hm; omega
  have HNN := hide hnn
  clear h hm hnn
  go_enter Try.func27, Try.ntmps27
  go_wp2
  go_loopw [3] (fun iv wr => ∃ k : Nat, iv = .int .i64 (k : Int) ∧ k ≤ nn ∧ (l.take k).all lightA = true ∧ wr = w) (fun iv _ => nn - (intOf iv).toNat)
  case atStart => exact ⟨0, rfl, Nat.zero_le _, rfl, rfl⟩
  case round =>
    obtain ⟨k, rfl, hk, ha, rfl⟩ := hrel
    have HA := hide ha
    by_cases hlt : k < nn
    · have u1 : decide (k < nn) = true := by simpa using hlt
      have u2 : decide ((k : Int) < (nn : Int)) = true := by simp; omega
      have u3 : (k : Int) < (nn : Int) := by omega
      obtain ⟨a, hx⟩ : ∃ a, l[k]? = some a := ⟨_, List.getElem?_eq_getElem (by rw [← HNN.out]; exact hlt)⟩
      obtain ⟨g, off, rfl, c0, c1, c2, c3, c4, c5, c6, c7⟩ := HRD.out.at_ HNN.out hx
      have hsr := HRD.out.inn a (List.mem_of_getElem? hx)
      obtain ⟨AS, cS, hsv, hx4⟩ := id hsr.row
      rw [hsv] at c7
      obtain ⟨sl, hsl⟩ : ∃ s, s = a.S.length := ⟨_, rfl⟩
      rw [← hsl] at c7
      have HSR := hide (show SnRd wr (.slice AS sl cS) a.S by rw [hsl, ← hsv]; exact hsr)
      have HSV := hide hsv
      have HSL := hide hsl
      have HX := hide hx
      have HLT := hide hlt
      have HN1 := hide (near_any a.fr wr)
      have HN2 := hide (near_any a.en wr)
      have HN3 := hide (near_any a.n wr)
      clear hk ha hlt hx hsr hsv hsl hx4
      cases h1 : nearB a.fr with
      | false =>
        have HE := hide (show lightL l = false by
          unfold lightL
          rw [all_not HX.out (by unfold lightA lightH; rw [h1]; rfl)]
          rfl)
        rw [h1] at HN1
        clear h1
        go_wp2_with (go_at_call 31; (with_reducible refine Calls.mono HN1.out ?_); rintro r w2 ⟨rfl, rfl⟩)
        go_ret
        exact ⟨by rw [HE.out]; rfl, rfl⟩
      | true =>
        rw [h1] at HN1
        cases h2 : nearB a.en with
        | false =>
          have HE := hide (show lightL l = false by
            unfold lightL
            rw [all_not HX.out (by unfold lightA lightH; rw [h1, h2]; rfl)]
            rfl)
          rw [h2] at HN2
          clear h1 h2
          go_wp2_with (first | (go_at_call 31; (with_reducible refine Calls.mono HN1.out ?_); rintro r w2 ⟨rfl, rfl⟩; clear HN1) | (go_at_call 31; (with_reducible refine Calls.mono HN2.out ?_); rintro r w2 ⟨rfl, rfl⟩; clear HN2))
          go_ret
          exact ⟨by rw [HE.out]; rfl, rfl⟩
        | true =>
          rw [h2] at HN2
          cases h3 : nearB a.n with
          | false =>
            have HE := hide (show lightL l = false by
              unfold lightL
              rw [all_not HX.out (by unfold lightA lightH; rw [h1, h2, h3]; rfl)]
              rfl)
            rw [h3] at HN3
            clear h1 h2 h3
            go_wp2_with (first | (go_at_call 31; (with_reducible refine Calls.mono HN1.out ?_); rintro r w2 ⟨rfl, rfl⟩; clear HN1) | (go_at_call 31; (with_reducible refine Calls.mono HN2.out ?_); rintro r w2 ⟨rfl, rfl⟩; clear HN2) | (go_at_call 31; (with_reducible refine Calls.mono HN3.out ?_); rintro r w2 ⟨rfl, rfl⟩; clear HN3))
            go_ret
            exact ⟨by rw [HE.out]; rfl, rfl⟩
          | true =>
            rw [h3] at HN3
            by_cases h4 : 10 < sl
            · have HE := hide (show lightL l = false by
                unfold lightL
                rw [all_not HX.out (by unfold lightA lightH; rw [decide_eq_false (show ¬ a.S.length ≤ 10 by rw [← HSL.out]; omega)]; simp)]
                rfl)
              have v1 : decide (10 < sl) = true := by simpa using h4
              have v2 : decide ((10 : Int) < (sl : Int)) = true := by simp; omega
              have v3 : (10 : Int) < (sl : Int) := by omega
              clear h1 h2 h3 h4
              go_wp2_with (first | (go_at_call 31; (with_reducible refine Calls.mono HN1.out ?_); rintro r w2 ⟨rfl, rfl⟩; clear HN1) | (go_at_call 31; (with_reducible refine Calls.mono HN2.out ?_); rintro r w2 ⟨rfl, rfl⟩; clear HN2) | (go_at_call 31; (with_reducible refine Calls.mono HN3.out ?_); rintro r w2 ⟨rfl, rfl⟩; clear HN3))
              go_ret
              exact ⟨by rw [HE.out]; rfl, rfl⟩
            · have HH := hide (show lightH a = true by
                unfold lightH
                rw [h1, h2, h3, decide_eq_true (show a.S.length ≤ 10 by rw [← HSL.out]; omega)]
                rfl)
              have v1 : decide (10 < sl) = false := by simpa using h4
              have v2 : decide ((10 : Int) < (sl : Int)) = false := by simp; omega
              have v3 : ¬ (10 : Int) < (sl : Int) := by omega
              have v4 : (sl : Int) ≤ 10 := by omega
              have HV4 := hide h4
              clear h1 h2 h3 h4
              go_wp2_with (first | (go_at_call 31; (with_reducible refine Calls.mono HN1.out ?_); rintro r w2 ⟨rfl, rfl⟩; clear HN1) | (go_at_call 31; (with_reducible refine Calls.mono HN2.out ?_); rintro r w2 ⟨rfl, rfl⟩; clear HN2) | (go_at_call 31; (with_reducible refine Calls.mono HN3.out ?_); rintro r w2 ⟨rfl, rfl⟩; clear HN3))
              obtain ⟨w3, rfl⟩ : ∃ x : World, x = wr := ⟨_, rfl⟩
              go_loopw [4] (fun jv wq => ∃ j : Nat, jv = .int .i64 (j : Int) ∧ j ≤ sl ∧ (a.S.take j).all lightS = true ∧ wq = w3) (fun jv _ => sl - (intOf jv).toNat)
              case atStart => exact ⟨0, rfl, Nat.zero_le _, rfl, rfl⟩
              case round =>
                obtain ⟨j, rfl, hj, hb, rfl⟩ := hrel
                have HB := hide hb
                by_cases hjl : j < sl
                · have t1 : decide (j < sl) = true := by simpa using hjl
                  have t2 : decide ((j : Int) < (sl : Int)) = true := by simp; omega
                  have t3 : (j : Int) < (sl : Int) := by omega
                  obtain ⟨⟨s, pv⟩, hy⟩ : ∃ s, a.S[j]? = some s := ⟨_, List.getElem?_eq_getElem (by rw [← HSL.out]; exact hjl)⟩
                  obtain ⟨gs, os, rfl, _, d1, d2⟩ := HSR.out.at_ HSL.out hy
                  obtain ⟨Ap, cp, hpv, _⟩ := HSR.out.inn (s, pv) (List.mem_of_getElem? hy)
                  have hpv2 : pv = .slice Ap s.pr.length cp := hpv
                  subst hpv2
                  obtain ⟨ql, hql⟩ : ∃ q, q = s.pr.length := ⟨_, rfl⟩
                  rw [← hql] at d2
                  have HQL := hide hql
                  have HY := hide hy
                  have HJL := hide hjl
                  have HN4 := hide (near_any s.hi wr)
                  clear hj hb hjl hy hql hpv
                  cases h5 : nearB s.hi with
                  | false =>
                    have HE := hide (show lightL l = false by
                      unfold lightL
                      rw [all_not HX.out (by unfold lightA; rw [all_not HY.out (by unfold lightS; rw [h5]; rfl)]; simp)]
                      rfl)
                    rw [h5] at HN4
                    clear h5
                    go_wp2_with (go_at_call 31; (with_reducible refine Calls.mono HN4.out ?_); rintro r w2 ⟨rfl, rfl⟩)
                    go_ret
                    exact ⟨by rw [HE.out]; rfl, rfl⟩
                  | true =>
                    rw [h5] at HN4
                    by_cases h6 : 70 < ql
                    · have HE := hide (show lightL l = false by
                        unfold lightL
                        rw [all_not HX.out (by unfold lightA; rw [all_not HY.out (by unfold lightS; rw [decide_eq_false (show ¬ s.pr.length ≤ 70 by rw [← HQL.out]; omega)]; simp)]; simp)]
                        rfl)
                      have r1 : decide (70 < ql) = true := by simpa using h6
                      have r2 : decide ((70 : Int) < (ql : Int)) = true := by simp; omega
                      have r3 : (70 : Int) < (ql : Int) := by omega
                      clear h5 h6
                      go_wp2_with (go_at_call 31; (with_reducible refine Calls.mono HN4.out ?_); rintro r w2 ⟨rfl, rfl⟩)
                      go_ret
                      exact ⟨by rw [HE.out]; rfl, rfl⟩
                    · have HS := hide (show lightS (s, .slice Ap s.pr.length cp) = true by
                        unfold lightS
                        rw [h5, decide_eq_true (show s.pr.length ≤ 70 by rw [← HQL.out]; omega)]
                        rfl)
                      have r1 : decide (70 < ql) = false := by simpa using h6
                      have r2 : decide ((70 : Int) < (ql : Int)) = false := by simp; omega
                      have r3 : ¬ (70 : Int) < (ql : Int) := by omega
                      clear h5 h6
                      go_wp2_with (go_at_call 31; (with_reducible refine Calls.mono HN4.out ?_); rintro r w2 ⟨rfl, rfl⟩)
                      go_roundw
                      case rel => exact ⟨j + 1, by go_num, HJL.out, all_take HB.out HY.out HS.out, by trivial⟩
                      case measure => have := HJL.out; simp [intOf]; omega
                · obtain rfl : j = sl := by omega
                  have t1 : decide (j < j) = false := by simp
                  have t2 : decide ((j : Int) < (j : Int)) = false := by simp
                  clear hj hb hjl
                  go_wp2
                  go_roundw
                  case rel => exact ⟨k + 1, by go_num, HLT.out, all_take HA.out HX.out (by
                    unfold lightA
                    have e := HB.out
                    rw [List.take_of_length_le (by rw [← HSL.out]; exact Nat.le_refl _)] at e
                    rw [HH.out, e]
                    rfl), by trivial⟩
                  case measure => have := HLT.out; simp [intOf]; omega
    · obtain rfl : k = nn := by omega
      have u1 : decide (k < k) = false := by simp
      have u2 : decide ((k : Int) < (k : Int)) = false := by simp
      have HE := hide (show lightL l = decide (k ≤ 30) by
        unfold lightL
        have e := HA.out
        rw [List.take_of_length_le (by rw [← HNN.out]; exact Nat.le_refl _)] at e
        rw [e, ← HNN.out, Bool.true_and])
      clear hk ha hlt
      by_cases h30 : k ≤ 30
      · have v1 : decide (k ≤ 30) = true := by simpa using h30
        have v2 : decide ((k : Int) ≤ 30) = true := by simp; omega
        have v3 : (k : Int) ≤ 30 := by omega
        clear h30
        go_wp2
        go_ret
        exact ⟨by rw [HE.out, v1]; rfl, rfl⟩
      · have v1 : decide (k ≤ 30) = false := by simpa using h30
        have v2 : decide ((k : Int) ≤ 30) = false := by simp; omega
        have v3 : ¬ (k : Int) ≤ 30 := by omega
        clear h30
        go_wp2
        go_ret
        exact ⟨by rw [HE.out, v1]; rfl, rfl⟩
set_option maxRecDepth 100000 in
set_option maxHeartbeats 2000000 in
theorem own_props (v : Value) (n : Nat) (xs : List Value) (w : World) (h : Rd w v 3 n xs) (hx : ∀ u ∈ xs, u.oneCell' = true) (hN : n ≤ 1000000) :
    Calls Try.prog 71 #[v] w (FreshK w 36 n xs) := by
  obtain ⟨i0, hi, hz0, hz1, hz2⟩ := info_parts info_pr
  obtain ⟨A, c, rfl, _, _⟩ := id h
  have he := Sl.new w 36 3 #[] 0 0 (Nat.le_refl _) (by simp [maxLen]) (by simp)
  have he2 : Sl (w.alloc (.cells #[] 36)) 36 3 (.slice (some ⟨w.heap.size, 0, none⟩) 0 0) 0 [] := by simpa using he
  have hB : Below w.heap.size w (w.alloc (.cells #[] 36)) := (Below.refl _ _).alloc (Nat.le_refl _) _
  have hr : Rd (w.alloc (.cells #[] 36)) (.slice A n c) 3 n xs := h.only (Only.of_below hB) fun _ _ f => f
  go_enter Try.func71, Try.ntmps71
  go_wp2_with (at_builtin; refine wpList_append_sl rfl (.tmp 3) (.tmp 4) 32 rfl 36 i0 (.agg #[.int .i64 0, .int .i64 0, .int .i64 0]) 3 24 Try.underlying32 hi hz0 hz1 hz2 rfl _ 0 [] rfl he2 _ rfl n xs hr hx ?b1 ?b2 ?_)
  case b1 => unfold maxLen; omega
  case b2 => omega
  intro v' w' hsl honly hv'
  have HB := hide (hB.trans (honly.below (B := w.heap.size) (by simp) fun i hi => by simp [Value.ownBlock] at hi; omega))
  have HS := hide (show Sl w' 36 3 v' n xs by simpa using hsl)
  have HG := hide (show ∀ g, v'.ownBlock = some g → w.heap.size ≤ g from fun g hg => by
    rcases hv' with e | e <;> rw [e] at hg <;> simp [Value.ownBlock] at hg <;> omega)
  obtain ⟨A', c', rfl, _⟩ := hsl.form
  clear hsl honly hv' hB he h
  go_wp2
  go_ret
  exact ⟨_, rfl, by simpa using HS.out, HG.out, HB.out⟩
set_option maxRecDepth 100000 in
set_option maxHeartbeats 16000000 in
/-- Spans copied. -/
theorem spcopy_any (v : Value) (S : List (Sn × Value)) (w : World) (h : SnRd w v S) (hl : S.length ≤ 1000000) (hp : ∀ s ∈ S, s.1.pr.length ≤ 1000000) : Calls Try.prog 42 #[v] w (SpRes w (sns S)) := by
  obtain ⟨i0, hi0, hz0, hz1, hz2⟩ := info_parts info_sn
  obtain ⟨A, c, rfl, _⟩ := id h.row
  obtain ⟨nn, hnn⟩ : ∃ nn, nn = S.length := ⟨_, rfl⟩
  have HRD := hide h
  have HPR := hide hp
  rw [← hnn] at HRD hl ⊢
  have hl2 : (nn : Int) ≤ 1000000 := by omega
  have HNN := hide hnn
  have HL0 := hide (show OutS w w (.slice none 0 0) [] from ⟨Below.refl _ _, ⟨Sl.nil _ _ _, fun p hp => by cases hp⟩, fun g hg => by cases hg⟩)
  clear h hnn hp
  go_enter Try.func42, Try.ntmps42
  go_wp2
  go_loopw [3, 4] (fun ov iv wr => ∃ (k : Nat) (S' : List (Sn × Value)), k ≤ nn ∧ iv = .int .i64 (k : Int) ∧ OutS w wr ov S' ∧ sns S' = (sns S).take k) (fun _ iv _ => nn - (intOf iv).toNat)
  case atStart => exact ⟨0, [], Nat.zero_le _, rfl, HL0.out, rfl⟩
  case round =>
    obtain ⟨k, S', hk, rfl, hst, hfo⟩ := hrel
    obtain ⟨A1, d1, rfl, _⟩ := hst.inn.row.form
    have HFO := hide hfo
    have HST := hide hst
    by_cases hlt : k < nn
    · have y1 : decide (k < nn) = true := by simpa using hlt
      have y2 : decide ((k : Int) < (nn : Int)) = true := by simp; omega
      have y3 : (k : Int) < (nn : Int) := by omega
      obtain ⟨⟨s, pv⟩, hx⟩ : ∃ p, S[k]? = some p := ⟨_, List.getElem?_eq_getElem (by rw [← HNN.out]; exact hlt)⟩
      have hpp : (sns S)[k]? = some s := by unfold sns; rw [List.getElem?_map, hx]; rfl
      have hrd := HRD.out.below hst.bel
      obtain ⟨g, off, e1, p0, p1, p2⟩ := hrd.at_ HNN.out hx
      subst e1
      have hpv := hrd.inn (s, pv) (List.mem_of_getElem? hx)
      have hpv0 : Rd wr pv 3 s.pr.length (rows prC s.pr) := hpv
      have hql : s.pr.length ≤ 1000000 := HPR.out (s, pv) (List.mem_of_getElem? hx)
      obtain ⟨Ap, cp, rfl, _⟩ := id hpv0
      have hbx := below_box wr (.cells #[.int .i64 s.lo, .int .i64 s.hi, .slice Ap s.pr.length cp] 38)
      have HBX := hide hbx
      have HBK := hide (Blk.new wr 38 #[.int .i64 s.lo, .int .i64 s.hi, .slice Ap s.pr.length cp])
      have HCL := hide (own_props (.slice Ap s.pr.length cp) s.pr.length (rows prC s.pr) (wr.alloc (.cells #[.int .i64 s.lo, .int .i64 s.hi, .slice Ap s.pr.length cp] 38)) (hpv0.belowN hbx) (rows_prone s.pr) hql)
      have HPP := hide hpp
      have HLT := hide hlt
      have b0 := HBK.out.cell 0
      have b1 := HBK.out.cell 1
      have b2 := HBK.out.cell 2
      have hsl : S'.length = k := by rw [← sns_len, hfo, List.length_take, sns_len, ← HNN.out]; omega
      have hsb : S'.length ≤ 1000000 := by omega
      obtain ⟨ql, hqe⟩ : ∃ q, q = s.pr.length := ⟨_, rfl⟩
      rw [← hqe] at HBX HBK HCL b0 b1 b2 p2
      have HQE := hide hqe
      clear hst hfo hrd hpv hpv0 hx hpp hlt hk hbx hsl hqe hql
      go_upto_region 7 with (go_at_call 71; (with_reducible refine Calls.mono HCL.out ?_); rintro r w2 ⟨v2, rfl, s2, o2, b2'⟩; have hk2 := HBK.out.below b2' HBK.out.lt; have e0 := hk2.cell 0; have e1 := hk2.cell 1; have e2 := hk2.cell 2; have ef := hk2.frozen 2; have HK2 := hide hk2; have HB2 := hide (HBX.out.trans (b2'.mono HBX.out.size)); have H2 := hide s2; have HO2 := hide o2; obtain ⟨A2, c2, rfl, _, _⟩ := s2.form; clear s2 o2 b2' hk2)
      have HB5 := hide (HB2.out.setCell (p := ⟨wr.heap.size, 2, none⟩) (Nat.le_refl _) (.slice A2 ql c2))
      have hk5 := HK2.out.set_ 2 (.slice A2 ql c2)
      have HP5 := hide (show PrS (w2.setCell ⟨wr.heap.size, 2, none⟩ (.slice A2 ql c2)) (.slice A2 ql c2) s.pr from PrS.set (show PrS w2 (.slice A2 ql c2) s.pr from by
        have := H2.out
        unfold PrS
        rw [← HQE.out]
        exact this) HK2.out (by decide) 2)
      have e0 := hk5.cell 0
      have e1 := hk5.cell 1
      have e2 := hk5.cell 2
      clear hk5
      obtain ⟨w5, hw5⟩ : ∃ x, x = w2.setCell ⟨wr.heap.size, 2, none⟩ (.slice A2 ql c2) := ⟨_, rfl⟩
      rw [← hw5] at HB5 HP5 e0 e1 e2 ⊢
      have HSN := hide (show Sl (w5.alloc (.cells (snC (⟨s.lo, s.hi, s.pr⟩, .slice A2 ql c2)).toArray 38)) 38 3 (.slice A1 S'.length d1) S'.length (rows snC S') from (HST.out.inn.row.only (Only.of_below (F := fun _ => False) HB5.out) fun _ _ f => f).alloc _)
      clear hw5
      go_wp2_with (at_builtin; refine wpList_append_sl rfl (.tmp 20) (.tmp 22) 34 rfl 38 i0 (.agg #[.int .i64 0, .int .i64 0, .slice none 0 0]) 3 40 Try.underlying34 hi0 hz0 hz1 hz2 rfl _ S'.length (rows snC S') rfl HSN.out _ rfl 1 _ (rd_sn w5 (⟨s.lo, s.hi, s.pr⟩, .slice A2 ql c2)) (snC_one rfl) ?b1 ?b2 ?_)
      case b1 => unfold maxLen; omega
      case b2 => omega
      intro v3 w3 hs3 ho3 hv3
      obtain ⟨A3, c3, rfl, _⟩ := hs3.form
      have HM := hide (HST.out.more (s := ⟨s.lo, s.hi, s.pr⟩) HB5.out HP5.out hs3 ho3 (by simpa using hv3))
      clear hs3 ho3 hv3
      go_wp2
      go_roundw
      case rel => exact ⟨k + 1, S' ++ [(⟨s.lo, s.hi, s.pr⟩, .slice A2 ql c2)], HLT.out, by go_num, HM.out, by
        rw [List.take_add_one, HPP.out]
        have e := HFO.out
        unfold sns at e ⊢
        rw [List.map_append, e]
        rfl⟩
      case measure => have := HLT.out; simp [intOf]; omega
    · obtain rfl : k = nn := by omega
      have y1 : decide (k < k) = false := by simp
      have y2 : decide ((k : Int) < (k : Int)) = false := by simp
      clear hst hfo hlt hk
      go_wp2
      go_ret
      have e := HFO.out
      rw [List.take_of_length_le (by rw [sns_len, ← HNN.out]; exact Nat.le_refl _)] at e
      exact ⟨_, S', rfl, HST.out, e⟩
end Go.Proofs.Ytgiogmbopiblmaa
