/- GapFinds: the walk. No condition but those written. -/
import Derived.Test.YtbljppcaikhjhaaDoorGapN
namespace Go.Proofs.YtbljppcaikhjhaaDoor
open Go.RowKit

/-- A place where a character stands, in a range. -/
def Hit (L : List Nat) (c x y q : Int) : Prop := charR L q = c ∧ x ≤ q ∧ q < y
def Fst (L : List Nat) (c x y i f : Int) : Prop := (f = 0 ∧ ∀ q, 1 ≤ q → q < i → ¬ Hit L c x y q) ∨ (1 ≤ f ∧ f < i ∧ Hit L c x y f ∧ ∀ q, 1 ≤ q → q < f → ¬ Hit L c x y q)
def Lst (L : List Nat) (c x y i f : Int) : Prop := (f = 0 ∧ ∀ q, 1 ≤ q → q < i → ¬ Hit L c x y q) ∨ (1 ≤ f ∧ f < i ∧ Hit L c x y f ∧ ∀ q, f < q → q < i → ¬ Hit L c x y q)
theorem Fst.zero (L : List Nat) (c x y : Int) : Fst L c x y 1 0 := .inl ⟨rfl, fun q h1 h2 => by omega⟩
theorem Lst.zero (L : List Nat) (c x y : Int) : Lst L c x y 1 0 := .inl ⟨rfl, fun q h1 h2 => by omega⟩
theorem Fst.miss {L : List Nat} {c x y i f : Int} (h : Fst L c x y i f) (hm : ¬ Hit L c x y i) : Fst L c x y (i + 1) f := by
  rcases h with ⟨h1, h2⟩ | ⟨h1, h2, h3, h4⟩
  · refine .inl ⟨h1, fun q hq hq2 => ?_⟩
    by_cases e : q = i
    · subst e; exact hm
    · exact h2 q hq (by omega)
  · exact .inr ⟨h1, by omega, h3, h4⟩
theorem Lst.miss {L : List Nat} {c x y i f : Int} (h : Lst L c x y i f) (hm : ¬ Hit L c x y i) : Lst L c x y (i + 1) f := by
  rcases h with ⟨h1, h2⟩ | ⟨h1, h2, h3, h4⟩
  · refine .inl ⟨h1, fun q hq hq2 => ?_⟩
    by_cases e : q = i
    · subst e; exact hm
    · exact h2 q hq (by omega)
  · refine .inr ⟨h1, by omega, h3, fun q hq hq2 => ?_⟩
    by_cases e : q = i
    · subst e; exact hm
    · exact h4 q hq (by omega)
theorem Fst.hit0 {L : List Nat} {c x y i : Int} (h : Fst L c x y i 0) (hi : 1 ≤ i) (hm : Hit L c x y i) : Fst L c x y (i + 1) i := by
  rcases h with ⟨h1, h2⟩ | ⟨h1, _⟩
  · exact .inr ⟨hi, by omega, hm, h2⟩
  · omega
theorem Fst.hit1 {L : List Nat} {c x y i f : Int} (h : Fst L c x y i f) (hf : f ≠ 0) : Fst L c x y (i + 1) f := by
  rcases h with ⟨h1, h2⟩ | ⟨h1, h2, h3, h4⟩
  · exact absurd h1 hf
  · exact .inr ⟨h1, by omega, h3, h4⟩
theorem Lst.hit {L : List Nat} {c x y i : Int} (hi : 1 ≤ i) (hm : Hit L c x y i) : Lst L c x y (i + 1) i := .inr ⟨hi, by omega, hm, fun q h1 h2 => by omega⟩
theorem first_eq {L : List Nat} {c x y f : Int} {v : Value} (h : FirstAt L c (max x 1) (min y ((L.length : Int) + 1)) v) (hf : Fst L c x y ((L.length : Int) + 1) f) : v = .tuple #[.int .i64 f, .bool (decide (0 < f))] := by
  rcases h with ⟨p, rfl, h1, h2, h3, h4⟩ | ⟨rfl, h1⟩
  · rcases hf with ⟨g1, g2⟩ | ⟨g1, g2, g3, g4⟩
    · exact absurd ⟨h3, by omega, by omega⟩ (g2 p (by omega) (by omega))
    · have e : p = f := by
        rcases Int.lt_trichotomy p f with h | h | h
        · exact absurd ⟨h3, by omega, by omega⟩ (g4 p (by omega) h)
        · exact h
        · exact absurd g3.1 (h4 f (by have := g3.2.1; omega) h)
      subst e
      rw [decide_eq_true (by omega)]
  · rcases hf with ⟨rfl, g2⟩ | ⟨g1, g2, g3, g4⟩
    · rfl
    · exact absurd g3.1 (h1 f (by have := g3.2.1; omega) (by have := g3.2.2; omega))
theorem last_eq {L : List Nat} {c x y f : Int} {v : Value} (h : LastAt L c (max x 1) (min (max y 1) ((L.length : Int) + 1)) v) (hf : Lst L c x y ((L.length : Int) + 1) f) : v = .tuple #[.int .i64 f, .bool (decide (0 < f))] := by
  rcases h with ⟨p, rfl, h1, h2, h3, h4⟩ | ⟨rfl, h1⟩
  · rcases hf with ⟨g1, g2⟩ | ⟨g1, g2, g3, g4⟩
    · exact absurd ⟨h3, by omega, by omega⟩ (g2 p (by omega) (by omega))
    · have e : p = f := by
        rcases Int.lt_trichotomy p f with h | h | h
        · exact absurd g3.1 (h4 f h (by have := g3.2.2; omega))
        · exact h
        · exact absurd ⟨h3, by omega, by omega⟩ (g4 p h (by omega))
      subst e
      rw [decide_eq_true (by omega)]
  · rcases hf with ⟨rfl, g2⟩ | ⟨g1, g2, g3, g4⟩
    · rfl
    · exact absurd g3.1 (h1 f (by have := g3.2.1; omega) (by have := g3.2.2; omega))
theorem first_form {L : List Nat} {c lo hi : Int} {v : Value} (h : FirstAt L c lo hi v) : ∃ p b, v = .tuple #[.int .i64 p, .bool b] := by
  rcases h with ⟨p, rfl, _⟩ | ⟨rfl, _⟩
  · exact ⟨_, _, rfl⟩
  · exact ⟨_, _, rfl⟩
theorem last_form {L : List Nat} {c lo hi : Int} {v : Value} (h : LastAt L c lo hi v) : ∃ p b, v = .tuple #[.int .i64 p, .bool b] := by
  rcases h with ⟨p, rfl, _⟩ | ⟨rfl, _⟩
  · exact ⟨_, _, rfl⟩
  · exact ⟨_, _, rfl⟩
theorem tuple_inj {a b : Int} {p q : Bool} (h : Value.tuple #[.int .i64 a, .bool p] = .tuple #[.int .i64 b, .bool q]) : a = b ∧ p = q := by
  simpa using h
/-- New, at a text of at most 300 bytes. -/
theorem new_short {W w : World} {R : Heap} (h : Own W w R) (hT : Tabs W) (s : ByteArray) (hs : s.size ≤ 300) : Calls Tryd.prog 14 #[.string s] w fun e w' =>
    (e = .returned (.tuple #[.pointer none, .int .i64 5]) ∧ validS s = false ∧ Own W w' R) ∨ (∃ tb, e = .returned (.tuple #[.pointer (some ⟨tb, 0, none⟩), .int .i64 0]) ∧ validS s = true ∧ Txt W w' tb (charsOf s) R) := by
  refine (new_any h hT s (by omega)).mono ?_
  have hl := lenS_le s
  rintro e w' (⟨h1, rfl, h2⟩ | ⟨hv, tb, rfl, ht⟩)
  · exact .inl ⟨rfl, h1, h2⟩
  · have he : insErr [] 1 s = 0 := by
      unfold insErr
      rw [if_neg (by simp), if_neg (by simp [hv]), if_neg (by simp; omega)]
    refine .inr ⟨tb, by rw [he], hv, ?_⟩
    unfold insL at ht
    rw [if_pos he] at ht
    simpa using ht
set_option maxRecDepth 100000 in
set_option maxHeartbeats 4000000 in
theorem finds_walk (s : ByteArray) (c x y : Int) (w : World) (hT : Tabs w) (hs : s.size < 9223372036854775807) : Calls Tryd.prog 6 #[.string s, .int .i64 c, .int .i64 x, .int .i64 y] w fun e w' => e = .returned (.bool true) ∧ Below w.heap.size w w' := by
  have HL := hide (lives_any w hT)
  have HT := hide hT
  by_cases h3 : 300 < s.size
  · have z1 : decide (300 < s.size) = true := by simpa using h3
    have z2 : decide ((300 : Int) < (s.size : Int)) = true := by simp; omega
    clear hT h3
    go_enter Tryd.func6, Tryd.ntmps6
    go_wp2_with fail
    refine (Calls.mono (HL.out)) ?_
    rintro r w2 ⟨rfl, h2⟩
    have H2 := hide h2
    clear h2
    go_wp2
    go_ret
    exact ⟨rfl, H2.out⟩
  · have z1 : decide (300 < s.size) = false := by simpa using h3
    have z2 : decide ((300 : Int) < (s.size : Int)) = false := by simp; omega
    have HS := hide (show s.size ≤ 300 by omega)
    clear hT h3
    go_enter Tryd.func6, Tryd.ntmps6
    go_wp2_with fail
    refine (Calls.mono (HL.out)) ?_
    rintro r w2 ⟨rfl, h2⟩
    have H2 := hide ((Own.refl w).below h2)
    clear h2 HL
    go_wp2_with fail
    refine Calls.mono (new_short H2.out HT.out s HS.out) ?_
    rintro r w3 (⟨rfl, _, h3⟩ | ⟨tb, rfl, _, h3⟩)
    · have H3 := hide h3
      clear h3
      go_wp2
      go_ret
      exact ⟨rfl, H3.out.bel⟩
    · have H3 := hide h3
      clear h3 H2 z1 z2 hs
      have hn := H3.out.ok.1
      generalize charsOf s = L at *
      obtain ⟨n, hnn⟩ : ∃ n, n = L.length := ⟨_, rfl⟩
      have HN := hide hnn
      rw [← hnn] at hn
      clear hnn
      go_wp2_with fail
      refine (Calls.mono (find_txt H3.out c x y)) ?_
      rintro r w4 ⟨v, rfl, hv, h4⟩
      have HV := hide hv
      have H4 := hide h4
      obtain ⟨p, is, rfl⟩ := first_form hv
      clear hv h4 H3
      go_wp2_with fail
      refine (Calls.mono (findback_txt H4.out c x y)) ?_
      rintro r w5 ⟨v, rfl, hv, h5⟩
      have HV2 := hide hv
      have H5 := hide h5
      obtain ⟨p2, is2, rfl⟩ := last_form hv
      clear hv h5 H4
      go_wp2
      go_loopw [15, 16, 17] (fun a b t wr => ∃ (f l : Int) (i : Nat), a = .int .i64 f ∧ b = .int .i64 l ∧ t = .int .i64 (i : Int) ∧ 1 ≤ i ∧ i ≤ n + 1 ∧ Fst L c x y i f ∧ Lst L c x y i l ∧ Txt w wr tb L []) (fun _ _ t _ => n + 1 - (intOf t).toNat)
      case atStart => exact ⟨0, 0, 1, rfl, rfl, rfl, by omega, by omega, Fst.zero .., Lst.zero .., H5.out⟩
      case round =>
        obtain ⟨f, l, i, rfl, rfl, rfl, hi1, hi2, hF, hLs, hX⟩ := hrel
        have HX := hide hX
        have HF := hide hF
        have HLs := hide hLs
        have HSZ := hide (show Calls Tryd.prog 16 #[.pointer (some ⟨tb, 0, none⟩)] wr (fun e w' => e = .returned (.int .i64 (n : Int)) ∧ Txt w w' tb L []) from HN.out ▸ size_txt hX)
        clear hX hF hLs
        by_cases hin : i ≤ n
        · have y1 : decide (i ≤ n) = true := by simpa using hin
          have y2 : decide ((i : Int) ≤ (n : Int)) = true := by simp; omega
          have HCH := hide (fun (w6 : World) (h6 : Txt w w6 tb L []) => (show Calls Tryd.prog 26 #[.pointer (some ⟨tb, 0, none⟩), .int .i64 (i : Int)] w6 (fun e w' => e = .returned (.tuple #[.int .i64 (charR L (i : Int)), .bool true]) ∧ Txt w w' tb L []) from by
            have := char_txt h6 (i : Int)
            rwa [decide_eq_true (show (1 : Int) ≤ (i : Int) ∧ (i : Int) ≤ (L.length : Int) from by have := HN.out; omega)] at this))
          have hw : IntKind.i64.wrap ((i : Int) + 1) = (i : Int) + 1 := IntWalk.i64_in _ (by omega)
          obtain ⟨cv, hcv⟩ : ∃ cv, cv = charR L (i : Int) := ⟨_, rfl⟩
          rw [← hcv] at HCH
          by_cases g1 : cv = c
          · have k1 : (cv == c) = true := by simpa using g1
            by_cases g2 : x ≤ (i : Int)
            · have k2 : decide (x ≤ (i : Int)) = true := by simpa using g2
              by_cases g3 : (i : Int) < y
              · have k3 : decide ((i : Int) < y) = true := by simpa using g3
                have HHIT := hide (show Hit L c x y (i : Int) from ⟨by rw [← hcv]; exact g1, g2, g3⟩)
                by_cases g4 : f = 0
                · have HG4 := hide g4
                  have k4 : (f == 0) = true := by simpa using g4
                  clear hcv g1 g2 g3 g4
                  go_wp2_with fail
                  refine (Calls.mono (HSZ.out)) ?_
                  rintro r w6 ⟨rfl, h6⟩
                  have H6 := hide h6
                  clear h6
                  go_wp2_with fail
                  refine (Calls.mono (HCH.out _ H6.out)) ?_
                  rintro r w7 ⟨rfl, h7⟩
                  have H7 := hide h7
                  clear h7
                  go_wp2
                  go_roundw
                  case rel => exact ⟨(i : Int), (i : Int), i + 1, rfl, rfl, by go_num, by omega, by omega, by have := HF.out; rw [HG4.out] at this; exact this.hit0 (by omega) HHIT.out, Lst.hit (by omega) HHIT.out, H7.out⟩
                  case measure => simp [intOf]; omega
                · have HG4 := hide g4
                  have k4 : (f == 0) = false := by simpa using g4
                  clear hcv g1 g2 g3 g4
                  go_wp2_with fail
                  refine (Calls.mono (HSZ.out)) ?_
                  rintro r w6 ⟨rfl, h6⟩
                  have H6 := hide h6
                  clear h6
                  go_wp2_with fail
                  refine (Calls.mono (HCH.out _ H6.out)) ?_
                  rintro r w7 ⟨rfl, h7⟩
                  have H7 := hide h7
                  clear h7
                  go_wp2
                  go_roundw
                  case rel => exact ⟨f, (i : Int), i + 1, rfl, rfl, by go_num, by omega, by omega, HF.out.hit1 HG4.out, Lst.hit (by omega) HHIT.out, H7.out⟩
                  case measure => simp [intOf]; omega
              · have k3 : decide ((i : Int) < y) = false := by simpa using g3
                have HM := hide (show ¬ Hit L c x y (i : Int) from fun h => g3 h.2.2)
                clear hcv g1 g2 g3
                go_wp2_with fail
                refine (Calls.mono (HSZ.out)) ?_
                rintro r w6 ⟨rfl, h6⟩
                have H6 := hide h6
                clear h6
                go_wp2_with fail
                refine (Calls.mono (HCH.out _ H6.out)) ?_
                rintro r w7 ⟨rfl, h7⟩
                have H7 := hide h7
                clear h7
                go_wp2
                go_roundw
                case rel => exact ⟨f, l, i + 1, rfl, rfl, by go_num, by omega, by omega, HF.out.miss HM.out, HLs.out.miss HM.out, H7.out⟩
                case measure => simp [intOf]; omega
            · have k2 : decide (x ≤ (i : Int)) = false := by simpa using g2
              have HM := hide (show ¬ Hit L c x y (i : Int) from fun h => g2 h.2.1)
              clear hcv g1 g2
              go_wp2_with fail
              refine (Calls.mono (HSZ.out)) ?_
              rintro r w6 ⟨rfl, h6⟩
              have H6 := hide h6
              clear h6
              go_wp2_with fail
              refine (Calls.mono (HCH.out _ H6.out)) ?_
              rintro r w7 ⟨rfl, h7⟩
              have H7 := hide h7
              clear h7
              go_wp2
              go_roundw
              case rel => exact ⟨f, l, i + 1, rfl, rfl, by go_num, by omega, by omega, HF.out.miss HM.out, HLs.out.miss HM.out, H7.out⟩
              case measure => simp [intOf]; omega
          · have k1 : (cv == c) = false := by simpa using g1
            have HM := hide (show ¬ Hit L c x y (i : Int) from fun h => g1 (by rw [hcv]; exact h.1))
            clear hcv g1
            go_wp2_with fail
            refine (Calls.mono (HSZ.out)) ?_
            rintro r w6 ⟨rfl, h6⟩
            have H6 := hide h6
            clear h6
            go_wp2_with fail
            refine (Calls.mono (HCH.out _ H6.out)) ?_
            rintro r w7 ⟨rfl, h7⟩
            have H7 := hide h7
            clear h7
            go_wp2
            go_roundw
            case rel => exact ⟨f, l, i + 1, rfl, rfl, by go_num, by omega, by omega, HF.out.miss HM.out, HLs.out.miss HM.out, H7.out⟩
            case measure => simp [intOf]; omega
        · have y1 : decide (i ≤ n) = false := by simpa using hin
          have y2 : decide ((i : Int) ≤ (n : Int)) = false := by simp; omega
          have hie : ((i : Nat) : Int) = (L.length : Int) + 1 := by have := HN.out; omega
          obtain ⟨e1, e2⟩ := tuple_inj (first_eq HV.out (hie ▸ HF.out))
          obtain ⟨e3, e4⟩ := tuple_inj (last_eq HV2.out (hie ▸ HLs.out))
          subst e1 e2 e3 e4
          clear HV HV2 HF HLs hie
          go_wp2_with fail
          refine (Calls.mono (HSZ.out)) ?_
          rintro r w6 ⟨rfl, h6⟩
          have H6 := hide h6
          clear h6
          go_wp2
          go_ret
          exact ⟨rfl, H6.out.bel⟩
end Go.Proofs.YtbljppcaikhjhaaDoor
