/- The walk of NamesOnce: it returns true for every list of names and marks and leaves everything that was there as it was, under the tables of utf8 alone. -/
import Derived.Test.YtkhjdhoaephdkaaDoorNamOnce
import Derived.BigQuiet
import Derived.Deep.QuietTactic
namespace Go.Proofs.YtkhjdhoaephdkaaDoor
open Go.RowKit

theorem chk_bad {s : ByteArray} (hv : validS s = false) : chk s = 5 := by simp [chk, hv]
theorem below_drewN (w : World) (n : Nat) : Below w.heap.size w (w.drewN n) := ⟨rfl, rfl, rfl, Nat.le_refl _, fun _ _ => rfl⟩
theorem below_cell {W w' : World} {p : Addr} {u : Value} (hb : Below W.heap.size W w') (h : W.cell? p = some u) : w'.cell? p = some u :=
  (World.cell?_of_block (hb.block p.block (World.block_lt_of_cell? _ _ h))).trans h

section
variable {ss : List ByteArray} {bs : List Bool} {i : Nat} {L : List Sym} {l : List Nat} {s : ByteArray} {b : Bool}
theorem Once.bad (h : Once ss bs i L l) (hs : ss[i]? = some s) (hb : bs[i]? = some b) (hv : validS s = false) : Once ss bs (i + 1) L (l ++ [0]) :=
  h.step hs hb (.inl rfl) fun h => by rw [hv] at h; cases h
theorem Once.old (h : Once ss bs i L l) (hs : ss[i]? = some s) (hb : bs[i]? = some b) {n : Nat} (hf : find L s = some n) (hb1 : b = true) : Once ss bs (i + 1) L (l ++ [n]) := by
  obtain ⟨x, h1, h2, h3⟩ := find_spec hf
  exact h.step hs hb (.inl rfl) fun _ => ⟨x, h1, h2, by rw [h3, hb1], fun _ => hf⟩
theorem snoc_at (L : List Sym) (y : Sym) : (L ++ [y])[L.length]? = some y := by simp
theorem Once.new (h : Once ss bs i L l) (hs : ss[i]? = some s) (hb : bs[i]? = some b) (hf : b = true → find L s = none) : Once ss bs (i + 1) (L ++ [Sym.fresh s b]) (l ++ [L.length]) :=
  h.step hs hb (.inr ⟨_, rfl⟩) fun _ => ⟨_, snoc_at _ _, rfl, rfl, fun hb1 => by subst hb1; exact find_new L s (hf rfl)⟩
end

set_option maxRecDepth 100000 in
set_option maxHeartbeats 4000000 in
theorem once_walk (ss : List ByteArray) (bs : List Bool) (A0 A1 : Option Addr) (c0 c1 : Nat) (W : World) (hT : Tabs W) (h0 : Rd W (.slice A0 ss.length c0) 1 ss.length (ss.map .string)) (h1 : Rd W (.slice A1 bs.length c1) 1 bs.length (bs.map .bool))
    (m0 : ss.length ≤ maxLen) (m1 : bs.length ≤ maxLen) :
    Calls Tryd.prog 4 #[.slice A0 ss.length c0, .slice A1 bs.length c1] W fun e w' => e = .returned (.bool true) ∧ Below W.heap.size W w' := by
  obtain ⟨i0, hi, hz0, hz1, hz2⟩ := info_parts info_int
  have HT := hide hT
  have HR0 := hide h0
  have HR1 := hide h1
  have HM0 := hide m0
  have mx0 : ss.length ≤ 9223372036854775807 := by unfold maxLen at m0; omega
  have mx1 : bs.length ≤ 9223372036854775807 := by unfold maxLen at m1; omega
  clear hT h0 h1 m0 m1
  go_enter Tryd.func4, Tryd.ntmps4
  go_wp2_with fail
  refine (lives_any W HT.out).mono ?_
  rintro e w1 ⟨rfl, b1⟩
  cases hlb : lightB ss 60 300 with
  | false =>
    have HL := hide (light_any ss 60 300 A0 c0 w1 (HR0.out.only (F := fun _ => False) (.of_below b1) fun _ _ f => f) HM0.out)
    rw [hlb] at HL
    clear hlb
    go_wp2_with (go_at_call 15; refine (Calls.mono HL.out) ?_; rintro e w2 ⟨rfl, b2⟩)
    go_ret
    exact ⟨rfl, b1.trans (b2.mono b1.size)⟩
  | true =>
    have HLB := hide hlb
    have HL := hide (light_any ss 60 300 A0 c0 w1 (HR0.out.only (F := fun _ => False) (.of_below b1) fun _ _ f => f) HM0.out)
    rw [hlb] at HL
    clear hlb
    go_wp2_with fail
    refine (Calls.mono HL.out) ?_
    rintro e w2 ⟨rfl, b2⟩
    have B2 := b1.trans (b2.mono b1.size)
    clear b1 b2 HL
    by_cases hmn : bs.length < ss.length
    · have hz : decide ((bs.length : Int) < (ss.length : Int)) = true := by simp; omega
      go_wp2_with fail
      go_ret
      exact ⟨rfl, B2⟩
    · have hz : decide ((bs.length : Int) < (ss.length : Int)) = false := by simp; omega
      have HMN := hide hmn
      have hle : ss.length ≤ 60 := by
        have h := HLB.out
        simp only [lightB, Bool.and_eq_true, decide_eq_true_eq] at h
        omega
      have HSZ : Hid (∀ s ∈ ss, s.size ≤ 300) := hide fun s hs => by
        have h := HLB.out
        simp only [lightB, Bool.and_eq_true, List.all_eq_true, decide_eq_true_eq] at h
        have := h.1 s hs
        omega
      clear HLB mx0
      go_wp2_with fail
      refine (new_any w2).mono ?_
      rintro e w3 ⟨tb, rfl, ht, hb⟩
      have h3 : Since w2 tb fixedSyms w3 := ⟨ht, hb⟩
      have HT2 := hide (HT.out.below B2)
      have HP3 := hide (Pair.start h3)
      clear ht hb
      go_wp2_with fail
      refine (many_any h3.1).mono ?_
      rintro e w4 ⟨rfl, rfl⟩
      clear h3
      go_wp2
      go_loopw [6, 7, 8] (fun nx va i wr => ∃ (k : Nat) (L : List Sym) (l : List Nat), k ≤ ss.length ∧ nx = .int .i64 (L.length : Int) ∧ i = .int .i64 (k : Int) ∧ Pair w2 tb L va l wr ∧ Once ss bs k L l) (fun _ _ i _ => ss.length - (intOf i).toNat)
      case atStart => exact ⟨0, fixedSyms, [], Nat.zero_le _, rfl, rfl, HP3.out, Once.start ss bs⟩
      case round =>
        obtain ⟨k, L, l, hk, rfl, rfl, hp, ho⟩ := hrel
        have HO := hide ho
        have hmost := ho.most
        have hll := ho.len
        have hL : L.length ≤ 122 := by omega
        clear ho hmost
        by_cases hlt : k < ss.length
        · have hk1 : decide ((k : Int) < (ss.length : Int)) = true := by simp; omega
          have hkb : k < bs.length := by have := HMN.out; omega
          obtain ⟨p0, o0, rfl, hc0⟩ := HR0.out.cells (by omega)
          obtain ⟨p1, o1, rfl, hc1⟩ := HR1.out.cells (by omega)
          obtain ⟨s, hs⟩ : ∃ s, ss[k]? = some s := ⟨_, List.getElem?_eq_getElem hlt⟩
          obtain ⟨b, hb⟩ : ∃ b, bs[k]? = some b := ⟨_, List.getElem?_eq_getElem hkb⟩
          have HC0 : Hid (∀ w', Below W.heap.size W w' → w'.cell? ⟨p0, o0 + k, none⟩ = some (.string s)) := hide fun w' h' => below_cell h' (hc0 k _ (by simp [hs]))
          have HC1 : Hid (∀ w', Below W.heap.size W w' → w'.cell? ⟨p1, o1 + k, none⟩ = some (.bool b)) := hide fun w' h' => below_cell h' (hc1 k _ (by simp [hb]))
          have hs3 : s.size ≤ 300 := HSZ.out s (List.mem_of_getElem? hs)
          have HS := hide hs
          have HB := hide hb
          have HB2 := hide B2
          have HLT := hide hlt
          obtain ⟨q, hq⟩ : ∃ q, (find L s).getD 0 = q := ⟨_, rfl⟩
          obtain ⟨d, hd⟩ : ∃ d, (find L s).isSome = d := ⟨_, rfl⟩
          have HQ := hide hq
          have HD := hide hd
          have c0 := HC0.out wr (HB2.out.trans (hp.bel.mono HB2.out.size))
          have c1 := HC1.out wr (HB2.out.trans (hp.bel.mono HB2.out.size))
          clear hc0 hc1 hs hb hq hd
          cases hv : validS s with
          | false =>
            have HVV := hide hv
            cases b with
            | true =>
              have HM := hide (show internM L s = (0, 5, L) by simp [internM, chk_bad hv])
              clear hv
              go_wp2_with fail
              refine (pair_find hp s HQ.out HD.out).mono ?_
              rintro e w5 ⟨rfl, rfl⟩
              go_wp2_with fail
              refine (pair_intern hp HT2.out s (by omega) (by omega) HM.out).mono ?_
              rintro e w5 ⟨rfl, hp5⟩
              have c0 := HC0.out w5 (HB2.out.trans (hp5.bel.mono HB2.out.size))
              clear hp
              go_wp2_with fail
              have HV := hide (refvalid_any s w5 (by omega))
              rw [HVV.out] at HV
              refine (Calls.mono HV.out) ?_
              rintro e w6 ⟨rfl, b6⟩
              have hp6 := hp5.below b6
              clear hp5 b6 c0 HV
              go_wp2_with (at_builtin; refine wpList_append_sl rfl (.tmp 78) (.tmp 80) 33 rfl 3 i0 (.int .i64 0) 1 8 Tryd.underlying33 hi hz0 hz1 hz2 rfl _ l.length (ints l) rfl (hp6.list.alloc _) _ rfl 1 [_] (rd_one _ _ _) ?one ?b1 ?b2 ?_)
              case one =>
                intro u hu
                simp at hu
                subst hu
                rfl
              case b1 => unfold maxLen; omega
              case b2 => omega
              intro v' w7 hsl honly hv'
              obtain ⟨A', c', rfl, _⟩ := hsl.form
              have HP7 := hide (hp6.snoc hsl (by rw [hll]) honly hv')
              have c1 := HC1.out w7 (HB2.out.trans (HP7.out.bel.mono HB2.out.size))
              clear hp6 hsl honly hv'
              go_wp2_with fail
              go_roundw
              case rel => exact ⟨k + 1, L, l ++ [0], HLT.out, rfl, by go_num, HP7.out, HO.out.bad HS.out HB.out HVV.out⟩
              case measure => have := HLT.out; simp [intOf]; omega
            | false =>
              have HM := hide (show freshM L s = (0, 5, L) by simp [freshM, chk_bad hv])
              clear hv
              go_wp2_with fail
              refine (pair_find hp s HQ.out HD.out).mono ?_
              rintro e w5 ⟨rfl, rfl⟩
              go_wp2_with fail
              refine (pair_fresh hp HT2.out s (by omega) (by omega) HM.out).mono ?_
              rintro e w5 ⟨rfl, hp5⟩
              have c0 := HC0.out w5 (HB2.out.trans (hp5.bel.mono HB2.out.size))
              clear hp
              go_wp2_with fail
              have HV := hide (refvalid_any s w5 (by omega))
              rw [HVV.out] at HV
              refine (Calls.mono HV.out) ?_
              rintro e w6 ⟨rfl, b6⟩
              have hp6 := hp5.below b6
              clear hp5 b6 c0 HV
              go_wp2_with (at_builtin; refine wpList_append_sl rfl (.tmp 78) (.tmp 80) 33 rfl 3 i0 (.int .i64 0) 1 8 Tryd.underlying33 hi hz0 hz1 hz2 rfl _ l.length (ints l) rfl (hp6.list.alloc _) _ rfl 1 [_] (rd_one _ _ _) ?one ?b1 ?b2 ?_)
              case one =>
                intro u hu
                simp at hu
                subst hu
                rfl
              case b1 => unfold maxLen; omega
              case b2 => omega
              intro v' w7 hsl honly hv'
              obtain ⟨A', c', rfl, _⟩ := hsl.form
              have HP7 := hide (hp6.snoc hsl (by rw [hll]) honly hv')
              have c1 := HC1.out w7 (HB2.out.trans (HP7.out.bel.mono HB2.out.size))
              clear hp6 hsl honly hv'
              go_wp2_with fail
              go_roundw
              case rel => exact ⟨k + 1, L, l ++ [0], HLT.out, rfl, by go_num, HP7.out, HO.out.bad HS.out HB.out HVV.out⟩
              case measure => have := HLT.out; simp [intOf]; omega
          | true =>
            have HVV := hide hv
            have hk0 := chk_of s hv (by omega)
            cases b with
            | true =>
              cases hf : find L s with
              | some n =>
                have HF := hide hf
                have HM := hide (show internM L s = ((n : Int), 0, L) by simp [internM, hk0, hf])
                obtain rfl : n = q := by have := HQ.out; rw [hf] at this; exact this
                obtain rfl : true = d := by have := HD.out; rw [hf] at this; exact this
                clear hv hk0 hf
                go_wp2_with fail
                refine (pair_find hp s HQ.out HD.out).mono ?_
                rintro e w5 ⟨rfl, rfl⟩
                go_wp2_with fail
                refine (pair_intern hp HT2.out s (by omega) (by omega) HM.out).mono ?_
                rintro e w5 ⟨rfl, hp5⟩
                have c0 := HC0.out w5 (HB2.out.trans (hp5.bel.mono HB2.out.size))
                clear hp
                go_wp2_with fail
                have HV := hide (refvalid_any s w5 (by omega))
                rw [HVV.out] at HV
                refine (Calls.mono HV.out) ?_
                rintro e w6 ⟨rfl, b6⟩
                have hp6 := hp5.below b6
                clear hp5 b6 c0 HV
                go_wp2_with (at_builtin; refine wpList_append_sl rfl (.tmp 78) (.tmp 80) 33 rfl 3 i0 (.int .i64 0) 1 8 Tryd.underlying33 hi hz0 hz1 hz2 rfl _ l.length (ints l) rfl (hp6.list.alloc _) _ rfl 1 [_] (rd_one _ _ _) ?one ?b1 ?b2 ?_)
                case one =>
                  intro u hu
                  simp at hu
                  subst hu
                  rfl
                case b1 => unfold maxLen; omega
                case b2 => omega
                intro v' w7 hsl honly hv'
                obtain ⟨A', c', rfl, _⟩ := hsl.form
                have HP7 := hide (hp6.snoc hsl (by rw [hll]) honly hv')
                have c1 := HC1.out w7 (HB2.out.trans (HP7.out.bel.mono HB2.out.size))
                clear hp6 hsl honly hv'
                go_wp2_with fail
                go_roundw
                case rel => exact ⟨k + 1, L, l ++ [n], HLT.out, rfl, by go_num, HP7.out, HO.out.old HS.out HB.out HF.out rfl⟩
                case measure => have := HLT.out; simp [intOf]; omega
              | none =>
                have HF := hide hf
                have HM := hide (show internM L s = ((L.length : Int), 0, L ++ [Sym.fresh s true]) by simp [internM, hk0, hf]; omega)
                obtain rfl : 0 = q := by have := HQ.out; rw [hf] at this; exact this
                obtain rfl : false = d := by have := HD.out; rw [hf] at this; exact this
                clear hv hk0 hf
                go_wp2_with fail
                refine (pair_find hp s HQ.out HD.out).mono ?_
                rintro e w5 ⟨rfl, rfl⟩
                go_wp2_with fail
                refine (pair_intern hp HT2.out s (by omega) (by omega) HM.out).mono ?_
                rintro e w5 ⟨rfl, hp5⟩
                have c0 := HC0.out w5 (HB2.out.trans (hp5.bel.mono HB2.out.size))
                clear hp
                go_wp2_with fail
                have HV := hide (refvalid_any s w5 (by omega))
                rw [HVV.out] at HV
                refine (Calls.mono HV.out) ?_
                rintro e w6 ⟨rfl, b6⟩
                have hp6 := hp5.below b6
                clear hp5 b6 c0 HV
                go_wp2_with (at_builtin; refine wpList_append_sl rfl (.tmp 78) (.tmp 80) 33 rfl 3 i0 (.int .i64 0) 1 8 Tryd.underlying33 hi hz0 hz1 hz2 rfl _ l.length (ints l) rfl (hp6.list.alloc _) _ rfl 1 [_] (rd_one _ _ _) ?one ?b1 ?b2 ?_)
                case one =>
                  intro u hu
                  simp at hu
                  subst hu
                  rfl
                case b1 => unfold maxLen; omega
                case b2 => omega
                intro v' w7 hsl honly hv'
                obtain ⟨A', c', rfl, _⟩ := hsl.form
                have HP7 := hide (hp6.snoc hsl (by rw [hll]) honly hv')
                have c1 := HC1.out w7 (HB2.out.trans (HP7.out.bel.mono HB2.out.size))
                clear hp6 hsl honly hv'
                have HNE := hide (show (L ++ [Sym.fresh s true]).length = L.length + 1 by simp)
                go_wp2_with fail
                go_quiet (first | (go_at_call 17; refine Calls.quiet_of_same ((pair_interned (HP7.out.below (below_drewN _ _)) L.length _ (snoc_at _ _) rfl).mono fun _ _ h => ⟨h.1, h.2.symm⟩)))
                go_wp2
                go_roundw
                case rel => exact ⟨k + 1, L ++ [Sym.fresh s true], l ++ [L.length], HLT.out, by rw [HNE.out]; go_num, by go_num, HP7.out.below (below_drewN _ _), HO.out.new HS.out HB.out (fun _ => HF.out)⟩
                case measure => have := HLT.out; simp [intOf]; omega
            | false =>
              have HM := hide (show freshM L s = ((L.length : Int), 0, L ++ [Sym.fresh s false]) by simp [freshM, hk0]; omega)
              clear hv hk0
              go_wp2_with fail
              refine (pair_find hp s HQ.out HD.out).mono ?_
              rintro e w5 ⟨rfl, rfl⟩
              go_wp2_with fail
              refine (pair_fresh hp HT2.out s (by omega) (by omega) HM.out).mono ?_
              rintro e w5 ⟨rfl, hp5⟩
              have c0 := HC0.out w5 (HB2.out.trans (hp5.bel.mono HB2.out.size))
              clear hp
              go_wp2_with fail
              have HV := hide (refvalid_any s w5 (by omega))
              rw [HVV.out] at HV
              refine (Calls.mono HV.out) ?_
              rintro e w6 ⟨rfl, b6⟩
              have hp6 := hp5.below b6
              clear hp5 b6 c0 HV
              go_wp2_with (at_builtin; refine wpList_append_sl rfl (.tmp 78) (.tmp 80) 33 rfl 3 i0 (.int .i64 0) 1 8 Tryd.underlying33 hi hz0 hz1 hz2 rfl _ l.length (ints l) rfl (hp6.list.alloc _) _ rfl 1 [_] (rd_one _ _ _) ?one ?b1 ?b2 ?_)
              case one =>
                intro u hu
                simp at hu
                subst hu
                rfl
              case b1 => unfold maxLen; omega
              case b2 => omega
              intro v' w7 hsl honly hv'
              obtain ⟨A', c', rfl, _⟩ := hsl.form
              have HP7 := hide (hp6.snoc hsl (by rw [hll]) honly hv')
              have c1 := HC1.out w7 (HB2.out.trans (HP7.out.bel.mono HB2.out.size))
              clear hp6 hsl honly hv'
              have HNE := hide (show (L ++ [Sym.fresh s false]).length = L.length + 1 by simp)
              go_wp2_with fail
              go_quiet (first | (go_at_call 17; refine Calls.quiet_of_same ((pair_interned (HP7.out.below (below_drewN _ _)) L.length _ (snoc_at _ _) rfl).mono fun _ _ h => ⟨h.1, h.2.symm⟩)))
              go_wp2
              go_roundw
              case rel => exact ⟨k + 1, L ++ [Sym.fresh s false], l ++ [L.length], HLT.out, by rw [HNE.out]; go_num, by go_num, HP7.out.below (below_drewN _ _), HO.out.new HS.out HB.out (fun h => by cases h)⟩
              case measure => have := HLT.out; simp [intOf]; omega
        · have hk1 : decide ((k : Int) < (ss.length : Int)) = false := by simp; omega
          obtain rfl : k = ss.length := by omega
          obtain ⟨A2, c2, rfl, _⟩ := hp.list.form
          have HHP := hide hp
          have HLL := hide hll
          clear hp hll
          go_wp2
          go_loopw [13] (fun i wr => ∃ j : Nat, j ≤ ss.length ∧ i = .int .i64 (j : Int) ∧ Pair w2 tb L (.slice A2 l.length c2) l wr) (fun i _ => ss.length - (intOf i).toNat)
          case atStart => exact ⟨0, Nat.zero_le _, rfl, HHP.out⟩
          case round =>
            obtain ⟨j, hj, rfl, hp⟩ := hrel
            by_cases hlt : j < ss.length
            · have hk1 : decide ((j : Int) < (ss.length : Int)) = true := by simp; omega
              have hkb : j < bs.length := by have := HMN.out; omega
              obtain ⟨p0, o0, rfl, hc0⟩ := HR0.out.cells (by omega)
              obtain ⟨p1, o1, rfl, hc1⟩ := HR1.out.cells (by omega)
              obtain ⟨s, hs⟩ : ∃ s, ss[j]? = some s := ⟨_, List.getElem?_eq_getElem hlt⟩
              obtain ⟨b, hb⟩ : ∃ b, bs[j]? = some b := ⟨_, List.getElem?_eq_getElem hkb⟩
              have HB2 := hide B2
              have HC0 := hide (show W.cell? ⟨p0, o0 + j, none⟩ = some (.string s) from hc0 j _ (by simp [hs]))
              have HC1 := hide (show W.cell? ⟨p1, o1 + j, none⟩ = some (.bool b) from hc1 j _ (by simp [hb]))
              have c0 := below_cell (B2.trans (hp.bel.mono B2.size)) HC0.out
              have hs3 : s.size ≤ 300 := HSZ.out s (List.mem_of_getElem? hs)
              have HLT := hide hlt
              have HE := hide (HO.out.each j s b hlt hs hb)
              clear hc0 hc1 hs hb
              go_wp2_with fail
              have HV := hide (refvalid_any s wr (by omega))
              cases hv : validS s with
              | false =>
                rw [hv] at HV
                refine (Calls.mono HV.out) ?_
                rintro e w6 ⟨rfl, b6⟩
                have HP6 := hide (hp.below b6)
                clear hp b6 hv
                go_wp2_with fail
                go_roundw
                case rel => exact ⟨j + 1, HLT.out, by go_num, HP6.out⟩
                case measure => have := HLT.out; simp [intOf]; omega
              | true =>
                rw [hv] at HV
                obtain ⟨n, x, e1, e2, e3, e4, e5⟩ := HE.out hv
                refine (Calls.mono HV.out) ?_
                rintro e w6 ⟨rfl, b6⟩
                have hp6 := hp.below b6
                have c0 := below_cell (B2.trans (hp6.bel.mono B2.size)) HC0.out
                have c1 := below_cell (B2.trans (hp6.bel.mono B2.size)) HC1.out
                have hjl : j < l.length := by have := HLL.out; omega
                obtain ⟨g2, o2, rfl, hc2⟩ := hp6.list.rd.cells (by omega)
                have ca : w6.cell? ⟨g2, o2 + j, none⟩ = some (.int .i64 (n : Int)) := hc2 j _ (by simp [ints, e1])
                have hss : (s == s) = true := (MapKept.bytes_beq s s).2 rfl
                have HN := hide (pair_name hp6 n x e2 e3)
                have HP6 := hide hp6
                clear hp b6 hv hc2 HE HV
                go_wp2_with fail
                refine (Calls.mono HN.out) ?_
                rintro e w7 ⟨rfl, rfl⟩
                cases b with
                | true =>
                  have HFI := hide (pair_find hp6 s (n := n) (b := true) (by rw [e5 rfl]; rfl) (by rw [e5 rfl]; rfl))
                  clear hp6 e1 e2 e3 e4 e5
                  go_wp2_with fail
                  refine (Calls.mono HFI.out) ?_
                  rintro e w7 ⟨rfl, rfl⟩
                  go_wp2_with fail
                  go_roundw
                  case rel => exact ⟨j + 1, HLT.out, by go_num, HP6.out⟩
                  case measure => have := HLT.out; simp [intOf]; omega
                | false =>
                  cases hf : find L s with
                  | none =>
                    have HFI := hide (pair_find hp6 s (n := 0) (b := false) (by rw [hf]; rfl) (by rw [hf]; rfl))
                    clear hp6 e1 e2 e3 e4 e5 hf
                    go_wp2_with fail
                    refine (Calls.mono HFI.out) ?_
                    rintro e w7 ⟨rfl, rfl⟩
                    go_wp2_with fail
                    go_roundw
                    case rel => exact ⟨j + 1, HLT.out, by go_num, HP6.out⟩
                    case measure => have := HLT.out; simp [intOf]; omega
                  | some m =>
                    have hne : ¬ m = n := fun e => by
                      obtain ⟨y, y1, _, y3⟩ := find_spec hf
                      rw [e, e2] at y1
                      cases y1
                      rw [e4] at y3
                      cases y3
                    have hmn : decide ((m : Int) = (n : Int)) = false := by simp; omega
                    have HFI := hide (pair_find hp6 s (n := m) (b := true) (by rw [hf]; rfl) (by rw [hf]; rfl))
                    clear hp6 e1 e2 e3 e4 e5 hf
                    go_wp2_with fail
                    refine (Calls.mono HFI.out) ?_
                    rintro e w7 ⟨rfl, rfl⟩
                    go_wp2_with fail
                    go_roundw
                    case rel => exact ⟨j + 1, HLT.out, by go_num, HP6.out⟩
                    case measure => have := HLT.out; simp [intOf]; omega
            · have hk1 : decide ((j : Int) < (ss.length : Int)) = false := by simp; omega
              have HM := hide (pair_many hp)
              have HP := hide hp
              clear hp
              go_wp2_with fail
              refine (Calls.mono HM.out) ?_
              rintro e w7 ⟨rfl, rfl⟩
              go_wp2
              go_ret
              exact ⟨ret_bool (by simp), B2.trans (HP.out.bel.mono B2.size)⟩

end Go.Proofs.YtkhjdhoaephdkaaDoor
