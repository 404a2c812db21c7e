/- The reference's SetProp. No condition but those written. -/
import Derived.Test.YtkhjdhoaephdkaaDoorNse
import Derived.Deep.CutBlock
import Derived.Deep.DeepCutAuto
namespace Go.Proofs.YtkhjdhoaephdkaaDoor
open Go.RowKit

abbrev outRow (v : Value) (out : List (Int × Int × Int)) : Heap := rowOf 56 3 v out.length (rows pcells out)
section
variable {W w w' : World} {ob : Nat} {lv : Value} {O : List RSym} {R R' : Heap}
theorem RAt.re (h : RAt W w ob lv O R) (hf : ∀ H, Own W w (R ++ H) → Own W w' (R' ++ H)) : RAt W w' ob lv O R' :=
  ⟨(hf _ (h.own.perm List.perm_append_comm)).perm List.perm_append_comm, h.ok, h.okp, h.len⟩
theorem RAt.box (h : RAt W w ob lv O R) (t : TypeId) (cs : Array Value) : RAt W (w.alloc (.cells cs t)) ob lv O ((w.heap.size, .cells t cs) :: R) := h.re fun _ h1 => h1.newCells t cs
theorem RAt.outSl {v : Value} {out : List (Int × Int × Int)} (h : RAt W w ob lv O (outRow v out ++ R)) (ok : RowOk v out.length) : Sl w 56 3 v out.length (rows pcells out) :=
  h.rest.slOf (fun _ hx => List.mem_append_left _ hx) (by rw [rows_len pcells_len]) ok
theorem RAt.outSnoc {v v' : Value} {out : List (Int × Int × Int)} {y : Int × Int × Int} (h : RAt W w ob lv O (outRow v out ++ R)) (hs : Sl w' 56 3 v' (out.length + 1) (rows pcells out ++ pcells y)) (ho : Only (fun b => v.ownBlock = some b) w w') (hv : v'.ownBlock = v.ownBlock ∨ v'.ownBlock = some w.heap.size) : RAt W w' ob lv O (outRow v' (out ++ [y]) ++ R) ∧ RowOk v' (out ++ [y]).length := by
  refine ⟨h.re fun H h1 => ?_, by have := hs.rowOk; rwa [show out.length + 1 = (out ++ [y]).length by simp] at this⟩
  rw [List.append_assoc] at h1 ⊢
  have e : outRow v' (out ++ [y]) = rowOf 56 3 v' (out.length + 1) (rows pcells out ++ pcells y) := by
    show rowOf _ _ _ _ _ = _
    rw [rows_append, rows_one, show (out ++ [y]).length = out.length + 1 by simp]
  rw [e]
  exact Own.appended h1 hs ho hv
theorem rProps_turn {O : List RSym} {i : Nat} {x y : RSym} (h : O[i]? = some x) : (rProp y ++ rProps O).Perm (rProp x ++ rProps (O.set i y)) := by
  induction O generalizing i with
  | nil => simp at h
  | cons z O ih =>
    cases i with
    | zero =>
      simp at h
      subst h
      rw [List.set_cons_zero]
      unfold rProps
      rw [List.flatMap_cons, List.flatMap_cons]
      exact (List.perm_append_comm_assoc _ _ _)
    | succ i =>
      have := ih (i := i) (by simpa using h)
      rw [List.set_cons_succ]
      unfold rProps at this ⊢
      rw [List.flatMap_cons, List.flatMap_cons]
      exact (List.perm_append_comm_assoc _ _ _).trans ((List.Perm.append_left _ this).trans (List.perm_append_comm_assoc _ _ _))
def RSym.withProps (x : RSym) (v : Value) (l : List (Int × Int × Int)) : RSym := { x with pv := v, props := l }
/-- New properties are laid. -/
theorem RAt.setProps {g off c i : Nat} {x : RSym} {v : Value} {out : List (Int × Int × Int)} (h : RAt W w ob (.slice (some ⟨g, off, none⟩) O.length c) O (outRow v out ++ R)) (hx : O[i]? = some x) (ok : RowOk v out.length) (hv : ∃ A c, v = .slice A out.length c ∧ out.length ≤ c ∧ c ≤ maxLen) : RAt W (w.setCell ⟨g, off + i * 6 + 5, none⟩ v) ob (.slice (some ⟨g, off, none⟩) O.length c) (O.set i (x.withProps v out)) R := by
  have hlt : i < O.length := (List.getElem?_eq_some_iff.1 hx).1
  have hl := rows_len rsym_len O
  have h1 := h.own
  unfold rTab at h1
  rw [rowOf_some (g := g) rfl] at h1
  have h2 : Own W w ((g, .row 95 6 (.slice (some ⟨g, off, none⟩) O.length c) O.length (rows RSym.cells O)) :: ((ob, .cells 70 #[.slice (some ⟨g, off, none⟩) O.length c]) :: ((outRow v out ++ rProps O) ++ R))) := h1.perm (by
    classical
    rw [List.perm_iff_count]
    intro z
    simp only [List.count_append, List.count_cons, List.count_nil]
    omega)
  have h3 := h2.setRow (i * 6 + 5) (by omega) v
  rw [rows_set rsym_len (x.withProps v out) 5 v O i x hx (by decide) rfl] at h3
  have h4 := h3.perm (R := (g, .row 95 6 (.slice (some ⟨g, off, none⟩) O.length c) O.length (rows RSym.cells (O.set i (x.withProps v out)))) :: ((ob, .cells 70 #[.slice (some ⟨g, off, none⟩) O.length c]) :: ((rProp x ++ rProps (O.set i (x.withProps v out))) ++ R))) (by
    refine List.Perm.cons _ (List.Perm.cons _ (List.Perm.append_right _ ?_))
    exact rProps_turn (y := x.withProps v out) hx)
  refine ⟨?_, by rw [List.length_set]; exact h.ok, fun z hz => ?_, by rw [List.length_set]; exact h.len⟩
  · unfold rTab
    rw [List.length_set, rowOf_some (g := g) rfl]
    rw [Nat.add_assoc]
    refine (h4.sub (R := (g, .row 95 6 (.slice (some ⟨g, off, none⟩) O.length c) O.length (rows RSym.cells (O.set i (x.withProps v out)))) :: ((ob, .cells 70 #[.slice (some ⟨g, off, none⟩) O.length c]) :: (rProps (O.set i (x.withProps v out)) ++ R))) ?_).perm ?_
    · exact ((List.Sublist.append (List.sublist_append_right _ _) (List.Sublist.refl _)).cons_cons _).cons_cons _
    · classical
      rw [List.perm_iff_count]
      intro z
      simp only [List.count_append, List.count_cons, List.count_nil]
      omega
  · rcases List.mem_or_eq_of_mem_set hz with hz | rfl
    · exact h.okp z hz
    · exact ⟨ok, hv⟩
/-- What SetProp returns, and leaves. -/
def spE (len : Nat) (n key : Int) : Int := if (0 ≤ n ∧ n < (len : Int)) ∧ (0 ≤ key ∧ key < (len : Int)) then 0 else 8
set_option maxRecDepth 100000 in
set_option maxHeartbeats 4000000 in
theorem rsetprop_bad (h : RAt W w ob lv O R) (n key k m : Int) (hb : ¬ ((0 ≤ n ∧ n < (O.length : Int)) ∧ (0 ≤ key ∧ key < (O.length : Int)))) : Calls Tryd.prog 53 #[.pointer (some ⟨ob, 0, none⟩), .int .i64 n, .int .i64 key, .agg #[.int .i64 k, .int .i64 m]] w fun e w' => e = .returned (.int .i64 8) ∧ RAt W w' ob lv O R := by
  have hA := h.below ((Below.refl w.heap.size w).alloc (Nat.le_refl _) (.cells #[.int .i64 k, .int .i64 m] 44))
  have HA := hide hA
  go_enter Tryd.func53, Tryd.ntmps53
  go_wp2_with fail
  generalize w.alloc (.cells #[.int .i64 k, .int .i64 m] 44) = w1 at *
  have HT := hide (rthere_any hA n)
  have HK := hide (rthere_any hA key)
  by_cases h1 : 0 ≤ n ∧ n < (O.length : Int)
  · have h2 : ¬ (0 ≤ key ∧ key < (O.length : Int)) := fun h2 => hb ⟨h1, h2⟩
    rw [decide_eq_true h1] at HT
    rw [decide_eq_false h2] at HK
    clear h hA hb h1 h2
    refine (Calls.mono HT.out) ?_
    rintro e w' ⟨rfl, rfl⟩
    go_wp2_with fail
    refine (Calls.mono HK.out) ?_
    rintro e w' ⟨rfl, rfl⟩
    go_wp2
    go_ret
    exact ⟨rfl, HA.out⟩
  · rw [decide_eq_false h1] at HT
    clear h hA hb h1 HK
    refine (Calls.mono HT.out) ?_
    rintro e w' ⟨rfl, rfl⟩
    go_wp2
    go_ret
    exact ⟨rfl, HA.out⟩
set_option maxRecDepth 100000 in
set_option maxHeartbeats 16000000 in
theorem rsetprop_ok (h : RAt W w ob lv O R) (i : Nat) (x : RSym) (hx : O[i]? = some x) (key k m : Int) (hk : 0 ≤ key ∧ key < (O.length : Int)) (hl : x.props.length ≤ 16384) : Calls Tryd.prog 53 #[.pointer (some ⟨ob, 0, none⟩), .int .i64 (i : Int), .int .i64 key, .agg #[.int .i64 k, .int .i64 m]] w fun e w' => e = .returned (.int .i64 0) ∧ ∃ v, RAt W w' ob lv (O.set i (x.withProps v (rins key k m x.props))) R := by
  have hlt : i < O.length := (List.getElem?_eq_some_iff.1 hx).1
  have hA := h.box 44 #[.int .i64 k, .int .i64 m]
  obtain ⟨kb, hkb⟩ : ∃ kb, kb = w.heap.size := ⟨_, rfl⟩
  rw [← hkb] at hA
  go_enter Tryd.func53, Tryd.ntmps53
  go_wp2_with fail
  rw [← hkb]
  clear hkb
  generalize w.alloc (.cells #[.int .i64 k, .int .i64 m] 44) = w1 at *
  have HT := hide (rthere_any hA (i : Int))
  rw [decide_eq_true (show 0 ≤ (i : Int) ∧ (i : Int) < (O.length : Int) by omega)] at HT
  have HK := hide (rthere_any hA key)
  rw [decide_eq_true hk] at HK
  obtain ⟨g, off, c, rfl, _, _, hfz, hc⟩ := hA.at_ (by omega)
  obtain ⟨z, hz⟩ : ∃ z, z = O.length := ⟨_, rfl⟩
  have HRC := hide (fun w' R' (hh : RAt W w' ob (.slice (some ⟨g, off, none⟩) O.length c) O R') => (show w'.cell? ⟨ob, 0, none⟩ = some (.slice (some ⟨g, off, none⟩) z c) ∧ w'.cell? ⟨g, off + i * 6 + 5, none⟩ = some x.pv ∧ ∀ j, w'.frozen? ⟨g, j, none⟩ = false from by
    obtain ⟨g', off', c', hv', _, _, hfz', hc'⟩ := hh.at_ (by omega)
    injection hv' with e1 _ e2
    injection e1 with e1
    injection e1 with e1 e3
    subst e1 e3 e2
    exact ⟨by rw [hz]; exact (hc' i x hx).c0, (hc' i x hx).p5, hfz'⟩))
  have hne := hA.ne rfl
  obtain ⟨A5, c5, hpv, -, -⟩ := (hA.slp (List.mem_of_getElem? hx)).form
  have HPS := hide (fun w' R' (hh : RAt W w' ob (.slice (some ⟨g, off, none⟩) O.length c) O R') => (show Rd w' (.slice A5 x.props.length c5) 3 x.props.length (rows pcells x.props) from by rw [← hpv]; exact (hh.slp (List.mem_of_getElem? hx)).rd))
  have HSET := hide (fun w' v out (hh : RAt W w' ob (.slice (some ⟨g, off, none⟩) O.length c) O (outRow v out ++ ((kb, .cells 44 #[.int .i64 k, .int .i64 m]) :: R))) ok hv => RAt.setProps hh hx ok hv)
  have HX := hide hx
  have H1 := hide hA
  have HKB := hide (fun w' v out (hh : RAt W w' ob (.slice (some ⟨g, off, none⟩) O.length c) O (outRow v out ++ ((kb, .cells 44 #[.int .i64 k, .int .i64 m]) :: R))) => (show w'.cell? ⟨kb, 0, none⟩ = some (.int .i64 k) ∧ w'.cell? ⟨kb, 1, none⟩ = some (.int .i64 m) from by
    have hb := hh.rest.blk (List.mem_append_right _ (List.mem_cons_self ..))
    exact ⟨by rw [hb.cell]; rfl, by rw [hb.cell]; rfl⟩))
  have HZL := hide hz
  have z0 : (0 : Int) ≤ (i : Int) := by omega
  have z1 : (i : Int) < (z : Int) := by omega
  obtain ⟨d0, d5, dfz⟩ := HRC.out _ _ hA
  rw [hpv] at d5
  rw [hpv] at HRC
  obtain ⟨l, hl0⟩ : ∃ l, l = x.props := ⟨_, rfl⟩
  rw [← hl0] at HPS d5 HRC hl
  have HL0 := hide hl0
  obtain ⟨n, hn⟩ : ∃ n, n = l.length := ⟨_, rfl⟩
  rw [← hn] at HPS d5 HRC hl
  have HN := hide hn
  obtain ⟨F, hF⟩ : ∃ F, F = rins key k m l := ⟨_, rfl⟩
  have HF := hide hF
  obtain ⟨i0, hi0, hz0, hz1, hz2⟩ := info_parts info_prop
  have HI := hide hi0
  have HZ := hide hz0
  have HZ1 := hide hz1
  have HZ2 := hide hz2
  clear h hx hk hlt hA hc hfz hpv hz hl0 hn hF hi0 hz0 hz1 hz2 dfz
  refine (Calls.mono HT.out) ?_
  rintro e w2 ⟨rfl, rfl⟩
  go_wp2_with fail
  refine (Calls.mono HK.out) ?_
  rintro e w2 ⟨rfl, rfl⟩
  go_wp2
  go_loopw [9, 11, 12] (fun ov pt ix wr => ∃ (q : Nat) (out : List (Int × Int × Int)) (b : Bool), q ≤ n ∧ ix = .int .i64 (q : Int) ∧ pt = .bool b ∧ RAt W wr ob (.slice (some ⟨g, off, none⟩) O.length c) O (outRow ov out ++ ((kb, .cells 44 #[.int .i64 k, .int .i64 m]) :: R)) ∧ RowOk ov out.length ∧ out.length ≤ 2 * q ∧ rfin key k m out b (l.drop q) = F) (fun _ _ ix _ => n - (intOf ix).toNat)
  case atStart => exact ⟨0, [], false, Nat.zero_le _, rfl, rfl, H1.out, RowOk.nil, Nat.zero_le _, by rw [HF.out]; rfl⟩
  case round =>
    clear d0 d5
    obtain ⟨q, out, b, hq, rfl, rfl, hr, ok, hol, hfin⟩ := hrel
    have HO0 := hide hr
    have OK0 := hide ok
    have HFIN := hide hfin
    clear hr ok hfin
    obtain ⟨d0, d5, -⟩ := HRC.out _ _ HO0.out
    by_cases hlt : q < n
    · have y1 : decide (q < n) = true := by simpa using hlt
      have y2 : decide ((q : Int) < (n : Int)) = true := by simp; omega
      obtain ⟨y, hy⟩ : ∃ y, l[q]? = some y := ⟨_, List.getElem?_eq_getElem (by rw [← HN.out]; exact hlt)⟩
      have HDR := hide (show l.drop q = y :: l.drop (q + 1) by rw [List.drop_eq_getElem_cons (by rw [← HN.out]; exact hlt), (List.getElem?_eq_some_iff.1 hy).2])
      have hpp := HPS.out _ _ HO0.out
      obtain ⟨g2, off2, rfl⟩ : ∃ g2 off2, A5 = some ⟨g2, off2, none⟩ := by
        obtain ⟨A', c', e, _, h2⟩ := hpp
        injection e with e _ _
        obtain ⟨g2, o2, e2, _⟩ := h2 (by omega)
        exact ⟨g2, o2, e.trans e2⟩
      have HY := hide (fun w' R' (hh : RAt W w' ob (.slice (some ⟨g, off, none⟩) O.length c) O R') => (show w'.cell? ⟨g2, off2 + q * 3, none⟩ = some (.int .i64 y.1) ∧ w'.cell? ⟨g2, off2 + q * 3 + 1, none⟩ = some (.int .i64 y.2.1) ∧ w'.cell? ⟨g2, off2 + q * 3 + 2, none⟩ = some (.int .i64 y.2.2) from by
        have h1 := HPS.out _ _ hh
        rw [HN.out] at h1
        obtain ⟨g3, off3, c3, hv3, hc3⟩ := h1.fld pcells_len (by rw [← HN.out]; omega)
        injection hv3 with e1 _ _
        injection e1 with e1
        injection e1 with e1 e2
        subst e1 e2
        exact ⟨hc3 q y 0 _ hy rfl, hc3 q y 1 _ hy rfl, hc3 q y 2 _ hy rfl⟩))
      obtain ⟨r0, r1, r2⟩ := HY.out _ _ HO0.out
      obtain ⟨k0, k1⟩ := HKB.out _ _ _ HO0.out
      have HLT := hide hlt
      have q0 : (0 : Int) ≤ (q : Int) := by omega
      have q1 : (q : Int) < (n : Int) := by omega
      clear hpp hy hlt
      have HRT := hide (show b = true → (y.1 ≠ key → rfin key k m (out ++ [y]) true (l.drop (q + 1)) = F) ∧ (y.1 = key → rfin key k m out true (l.drop (q + 1)) = F) from by
        rintro rfl
        have h1 := HFIN.out
        rw [HDR.out] at h1
        exact ⟨fun e => by rw [rfin_on e] at h1; exact h1, fun e => by rw [rfin_off e] at h1; exact h1⟩)
      have HRF := hide (show b = false → (key < y.1 → rfin key k m ((out ++ [(key, k, m)]) ++ [y]) true (l.drop (q + 1)) = F) ∧ (y.1 = key → rfin key k m (out ++ [(key, k, m)]) true (l.drop (q + 1)) = F) ∧ (y.1 < key → rfin key k m (out ++ [y]) false (l.drop (q + 1)) = F) from by
        rintro rfl
        have h1 := HFIN.out
        rw [HDR.out] at h1
        exact ⟨fun e => by rw [rfin_put e] at h1; exact h1, fun e => by rw [rfin_same e] at h1; exact h1, fun e => by rw [rfin_low e] at h1; exact h1⟩)
      clear HFIN HDR
      by_cases hge : key ≤ y.1
      · have y3 : decide (key ≤ y.1) = true := by simpa using hge
        cases b with
        | true =>
          by_cases he : y.1 = key
          · have y4 : (y.1 != key) = false := by simpa using he
            have y5 : decide (y.1 = key) = true := by simpa using he
            have HR := hide ((HRT.out rfl).2 he)
            clear he hge HRT HRF
            go_wp2
            go_roundw
            case rel => exact ⟨q + 1, out, true, HLT.out, by go_num, rfl, HO0.out, OK0.out, by omega, HR.out⟩
            case measure => have := HLT.out; simp [intOf]; omega
          · have y4 : (y.1 != key) = true := by simpa using he
            have y5 : decide (y.1 = key) = false := by simpa using he
            have HR := hide ((HRT.out rfl).1 he)
            clear he hge HRT HRF
            have HB0 := hide (HO0.out.below ((Below.refl _ _).alloc (Nat.le_refl _) (.cells #[.int .i64 y.1, .int .i64 y.2.1, .int .i64 y.2.2] 56)))
            have HSL0 := hide (HB0.out.outSl OK0.out)
            go_wp2_with (at_builtin; go_loud (refine wpList_append_sl rfl (.tmp 61) (.tmp 66) 57 rfl 56 i0 _ 3 24 Tryd.underlying57 HI.out HZ.out HZ1.out HZ2.out rfl _ out.length (rows pcells out) rfl HSL0.out _ rfl 1 (pcells y) (rd_elem wr 56 3 (pcells y) rfl) (pcells_one _) ?b1 ?b2 ?_))
            case b1 => unfold maxLen; omega
            case b2 => omega
            intro v' w6 hs6 ho6 hv6
            have HO6 := hide (HB0.out.outSnoc hs6 ho6 (by simpa using hv6))
            clear hs6 ho6 hv6
            go_wp2
            go_roundw
            case rel => exact ⟨q + 1, out ++ [y], true, HLT.out, by go_num, rfl, HO6.out.1, HO6.out.2, by simp; omega, HR.out⟩
            case measure => have := HLT.out; simp [intOf]; omega
        | false =>
          by_cases he : y.1 = key
          · have y4 : (y.1 != key) = false := by simpa using he
            have y5 : decide (y.1 = key) = true := by simpa using he
            have HR := hide ((HRF.out rfl).2.1 he)
            clear he hge HRT HRF
            have HB0 := hide (HO0.out.below ((Below.refl _ _).alloc (Nat.le_refl _) (.cells #[.int .i64 key, .int .i64 k, .int .i64 m] 56)))
            have HSL0 := hide (HB0.out.outSl OK0.out)
            go_wp2_with (at_builtin; go_loud (refine wpList_append_sl rfl (.tmp 48) (.tmp 52) 57 rfl 56 i0 _ 3 24 Tryd.underlying57 HI.out HZ.out HZ1.out HZ2.out rfl _ out.length (rows pcells out) rfl HSL0.out _ rfl 1 (pcells (key, k, m)) (rd_elem wr 56 3 (pcells (key, k, m)) rfl) (pcells_one _) ?b1 ?b2 ?_))
            case b1 => unfold maxLen; omega
            case b2 => omega
            intro v' w6 hs6 ho6 hv6
            have HO6 := hide (HB0.out.outSnoc hs6 ho6 (by simpa using hv6))
            clear hs6 ho6 hv6
            obtain ⟨r0, r1, r2⟩ := HY.out _ _ HO6.out.1
            go_wp2
            go_roundw
            case rel => exact ⟨q + 1, out ++ [(key, k, m)], true, HLT.out, by go_num, rfl, HO6.out.1, HO6.out.2, by simp; omega, HR.out⟩
            case measure => have := HLT.out; simp [intOf]; omega
          · have y4 : (y.1 != key) = true := by simpa using he
            have y5 : decide (y.1 = key) = false := by simpa using he
            have HR := hide ((HRF.out rfl).1 (by omega))
            clear he hge HRT HRF
            have HB0 := hide (HO0.out.below ((Below.refl _ _).alloc (Nat.le_refl _) (.cells #[.int .i64 key, .int .i64 k, .int .i64 m] 56)))
            have HSL0 := hide (HB0.out.outSl OK0.out)
            go_wp2_with (at_builtin; go_loud (refine wpList_append_sl rfl (.tmp 48) (.tmp 52) 57 rfl 56 i0 _ 3 24 Tryd.underlying57 HI.out HZ.out HZ1.out HZ2.out rfl _ out.length (rows pcells out) rfl HSL0.out _ rfl 1 (pcells (key, k, m)) (rd_elem wr 56 3 (pcells (key, k, m)) rfl) (pcells_one _) ?b1 ?b2 ?_))
            case b1 => unfold maxLen; omega
            case b2 => omega
            intro v' w6 hs6 ho6 hv6
            have HO6 := hide (HB0.out.outSnoc hs6 ho6 (by simpa using hv6))
            clear hs6 ho6 hv6
            obtain ⟨r0, r1, r2⟩ := HY.out _ _ HO6.out.1
            obtain ⟨w7, rfl⟩ : ∃ w : World, w = w6 := ⟨_, rfl⟩
            have HO7 := hide HO6.out.1
            have OK7 := hide HO6.out.2
            have ho7 : (out ++ [(key, k, m)]).length ≤ 2 * q + 1 := by simp; omega
            generalize out ++ [(key, k, m)] = out7 at *
            have HB7 := hide (HO7.out.below ((Below.refl _ _).alloc (Nat.le_refl _) (.cells #[.int .i64 y.1, .int .i64 y.2.1, .int .i64 y.2.2] 56)))
            have HSL7 := hide (HB7.out.outSl OK7.out)
            go_wp2_with (at_builtin; go_loud (refine wpList_append_sl rfl (.tmp 61) (.tmp 66) 57 rfl 56 i0 _ 3 24 Tryd.underlying57 HI.out HZ.out HZ1.out HZ2.out rfl _ out7.length (rows pcells out7) rfl HSL7.out _ rfl 1 (pcells y) (rd_elem w7 56 3 (pcells y) rfl) (pcells_one _) ?b1 ?b2 ?_))
            case b1 => unfold maxLen; omega
            case b2 => omega
            intro v' w6 hs6 ho6 hv6
            have HO6 := hide (HB7.out.outSnoc hs6 ho6 (by simpa using hv6))
            clear hs6 ho6 hv6
            go_wp2
            go_roundw
            case rel => exact ⟨q + 1, out7 ++ [y], true, HLT.out, by go_num, rfl, HO6.out.1, HO6.out.2, by simp; omega, HR.out⟩
            case measure => have := HLT.out; simp [intOf]; omega
      · have y3 : decide (key ≤ y.1) = false := by simpa using hge
        have y4 : (y.1 != key) = true := by simp; omega
        have y5 : decide (y.1 = key) = false := by simp; omega
        have HR := hide (show rfin key k m (out ++ [y]) b (l.drop (q + 1)) = F from by
          cases b with
          | true => exact (HRT.out rfl).1 (by omega)
          | false => exact (HRF.out rfl).2.2 (by omega))
        clear hge HRT HRF
        have HB0 := hide (HO0.out.below ((Below.refl _ _).alloc (Nat.le_refl _) (.cells #[.int .i64 y.1, .int .i64 y.2.1, .int .i64 y.2.2] 56)))
        have HSL0 := hide (HB0.out.outSl OK0.out)
        go_wp2_with (at_builtin; go_loud (refine wpList_append_sl rfl (.tmp 61) (.tmp 66) 57 rfl 56 i0 _ 3 24 Tryd.underlying57 HI.out HZ.out HZ1.out HZ2.out rfl _ out.length (rows pcells out) rfl HSL0.out _ rfl 1 (pcells y) (rd_elem wr 56 3 (pcells y) rfl) (pcells_one _) ?b1 ?b2 ?_))
        case b1 => unfold maxLen; omega
        case b2 => omega
        intro v' w6 hs6 ho6 hv6
        have HO6 := hide (HB0.out.outSnoc hs6 ho6 (by simpa using hv6))
        clear hs6 ho6 hv6
        go_wp2
        go_roundw
        case rel => exact ⟨q + 1, out ++ [y], b, HLT.out, by go_num, rfl, HO6.out.1, HO6.out.2, by simp; omega, HR.out⟩
        case measure => have := HLT.out; simp [intOf]; omega
    · have y1 : decide (q < n) = false := by simpa using hlt
      have y2 : decide ((q : Int) < (n : Int)) = false := by simp; omega
      have HE := hide (show rfin key k m out b [] = F from by have h1 := HFIN.out; rwa [List.drop_eq_nil_of_le (by rw [← HN.out]; omega)] at h1)
      obtain ⟨k0, k1⟩ := HKB.out _ _ _ HO0.out
      clear hlt HFIN
      cases b with
      | true =>
        have HEQ := hide (show out = F from by have := HE.out; rwa [rfin_end, if_pos rfl] at this)
        obtain ⟨A9, c9, rfl, h91, h92⟩ := (HO0.out.outSl OK0.out).form
        have HR := hide (HSET.out _ _ _ HO0.out OK0.out ⟨A9, c9, rfl, h91, h92⟩)
        have fz := (HRC.out _ _ HO0.out).2.2 (off + i * 6 + 5)
        clear h91 h92
        go_wp2
        go_ret
        have h1 := HR.out
        have h2 := HEQ.out
        rw [HF.out, HL0.out] at h2
        rw [← h2]
        exact ⟨rfl, _, ⟨h1.own.sub ((List.Sublist.refl _).append (List.sublist_cons_self ..)), h1.ok, h1.okp, h1.len⟩⟩
      | false =>
        have HEQ := hide (show out ++ [(key, k, m)] = F from by have := HE.out; rwa [rfin_end, if_neg (by simp)] at this)
        have HB0 := hide (HO0.out.below ((Below.refl _ _).alloc (Nat.le_refl _) (.cells #[.int .i64 key, .int .i64 k, .int .i64 m] 56)))
        have HSL0 := hide (HB0.out.outSl OK0.out)
        go_wp2_with (at_builtin; go_loud (refine wpList_append_sl rfl (.tmp 70) (.tmp 74) 57 rfl 56 i0 _ 3 24 Tryd.underlying57 HI.out HZ.out HZ1.out HZ2.out rfl _ out.length (rows pcells out) rfl HSL0.out _ rfl 1 (pcells (key, k, m)) (rd_elem wr 56 3 (pcells (key, k, m)) rfl) (pcells_one _) ?b1 ?b2 ?_))
        case b1 => unfold maxLen; omega
        case b2 => omega
        intro v' w6 hs6 ho6 hv6
        have HO6 := hide (HB0.out.outSnoc hs6 ho6 (by simpa using hv6))
        clear hs6 ho6 hv6
        generalize out ++ [(key, k, m)] = out9 at *
        have hf6 := (HO6.out.1.outSl HO6.out.2).form
        obtain ⟨A9, c9, rfl, h91, h92⟩ := hf6
        have HR := hide (HSET.out _ _ _ HO6.out.1 HO6.out.2 ⟨A9, c9, rfl, h91, h92⟩)
        obtain ⟨e0, e5, fz0⟩ := HRC.out _ _ HO6.out.1
        have fz := fz0 (off + i * 6 + 5)
        clear h91 h92 fz0 d0 d5
        go_wp2
        go_ret
        have h1 := HR.out
        have h2 := HEQ.out
        rw [HF.out, HL0.out] at h2
        rw [← h2]
        exact ⟨rfl, _, ⟨h1.own.sub ((List.Sublist.refl _).append (List.sublist_cons_self ..)), h1.ok, h1.okp, h1.len⟩⟩
end
end Go.Proofs.YtkhjdhoaephdkaaDoor
