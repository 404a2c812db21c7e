/- The reference's table: Prop, Props, check, Find. No condition but those written. -/
import Derived.Test.YtkhjdhoaephdkaaDoorNsa
import Derived.Test.YtkhjdhoaephdkaaDoorNamSet
namespace Go.Proofs.YtkhjdhoaephdkaaDoor
open Go.RowKit

theorem pget_first {l : List (Int × Int × Int)} {k : Nat} {x : Int × Int × Int} {key : Int} (hx : l[k]? = some x) (he : x.1 = key) (hno : ∀ j y, j < k → l[j]? = some y → y.1 ≠ key) : pget l key = some x.2 := by
  induction l generalizing k with
  | nil => simp at hx
  | cons y l ih =>
    unfold pget
    rw [List.find?_cons]
    cases k with
    | zero =>
      simp at hx
      subst hx
      simp [he]
    | succ k =>
      have h0 : (key == y.1) = false := by simpa using fun e => hno 0 y (by omega) rfl e.symm
      rw [h0]
      exact ih (k := k) (by simpa using hx) fun j z hj hz => hno (j + 1) z (by omega) (by simpa using hz)
theorem pget_never {l : List (Int × Int × Int)} {key : Int} (hno : ∀ (j : Nat) y, l[j]? = some y → y.1 ≠ key) : pget l key = none :=
  pget_miss fun hm => by
    obtain ⟨x, hx, e⟩ := List.mem_map.1 hm
    obtain ⟨j, hj⟩ := List.mem_iff_getElem?.1 hx
    exact hno j x hj e
/-- What Prop returns. -/
def propR (o : Option (Int × Int)) : Value := match o with
  | some (k, m) => .tuple #[.agg #[.int .i64 k, .int .i64 m], .bool true]
  | none => .tuple #[.agg #[.int .i64 0, .int .i64 0], .bool false]
def pgAt (o : Option (List (Int × Int × Int))) (key : Int) : Option (Int × Int) := match o with
  | some l => pget l key
  | none => none
/-- The number of the interned symbol of a name. -/
def findOf : Nat → List RSym → ByteArray → Option Nat
  | _, [], _ => none
  | k, x :: L, s => if x.it && s == x.nm then some k else findOf (k + 1) L s
theorem findOf_at {s : ByteArray} : ∀ {L : List RSym} {b k : Nat} {x : RSym}, L[k]? = some x → (x.it && s == x.nm) = true → (∀ j y, j < k → L[j]? = some y → (y.it && s == y.nm) = false) → findOf b L s = some (b + k)
  | [], _, _, _, hx, _, _ => by simp at hx
  | y :: L, b, 0, x, hx, he, _ => by
    simp at hx
    subst hx
    unfold findOf
    rw [if_pos he]
    rfl
  | y :: L, b, k + 1, x, hx, he, hno => by
    unfold findOf
    rw [if_neg (by rw [hno 0 y (by omega) rfl]; simp), findOf_at (k := k) (by simpa using hx) he fun j z hj hz => hno (j + 1) z (by omega) (by simpa using hz)]
    congr 1
    omega
theorem findOf_none {s : ByteArray} : ∀ {L : List RSym} {b : Nat}, (∀ (j : Nat) y, L[j]? = some y → (y.it && s == y.nm) = false) → findOf b L s = none
  | [], _, _ => rfl
  | y :: L, b, hno => by
    unfold findOf
    rw [if_neg (by rw [hno 0 y rfl]; simp)]
    exact findOf_none fun j z hz => hno (j + 1) z (by simpa using hz)
section
variable {W w w' : World} {ob : Nat} {lv : Value} {O : List RSym} {R : Heap}
set_option maxRecDepth 100000 in
set_option maxHeartbeats 4000000 in
theorem rprop_any (h : RAt W w ob lv O R) (n key : Int) : Calls Tryd.prog 57 #[.pointer (some ⟨ob, 0, none⟩), .int .i64 n, .int .i64 key] w fun e w' => e = .returned (propR (pgAt ((rget O n).map RSym.props) key)) ∧ Below w.heap.size w w' := by
  have hB : Below w.heap.size w (w.alloc (.cells #[.int .i64 0, .int .i64 0] 44)) := (Below.refl _ _).alloc (Nat.le_refl _) _
  have hbk : Blk (w.alloc (.cells #[.int .i64 0, .int .i64 0] 44)) w.heap.size 44 #[.int .i64 0, .int .i64 0] := heap_alloc_new w _
  have hA := h.below hB
  have HLT := hide (show ob < w.heap.size from h.blk.lt)
  have HGLT := hide (fun g (hg : lv.ownBlock = some g) => h.sl.lt g hg)
  go_enter Tryd.func57, Tryd.ntmps57
  go_wp2_with fail
  generalize w.alloc (.cells #[.int .i64 0, .int .i64 0] 44) = w1 at *
  have HT := hide (rthere_any hA n)
  have k0 : w1.cell? ⟨w.heap.size, 0, none⟩ = some (.int .i64 0) := by rw [hbk.cell]; rfl
  have k1 : w1.cell? ⟨w.heap.size, 1, none⟩ = some (.int .i64 0) := by rw [hbk.cell]; rfl
  have f0 := hbk.frozen 0
  have f1 := hbk.frozen 1
  have HB := hide hB
  have HBK := hide hbk
  have HK := hide ((hbk.set_ 0 (.int .i64 0)).set_ 1 (.int .i64 0))
  have HB2 := hide ((hB.setCell (p := ⟨w.heap.size, 0, none⟩) (Nat.le_refl _) (.int .i64 0)).setCell (p := ⟨w.heap.size, 1, none⟩) (Nat.le_refl _) (.int .i64 0))
  cases hx : rget O n with
  | none =>
    have HE := hide (show (pgAt ((rget O n).map RSym.props) key) = none by rw [hx]; rfl)
    rw [rget_none hx] at HT
    clear h hx hA hbk hB
    refine (Calls.mono HT.out) ?_
    rintro e w2 ⟨rfl, rfl⟩
    go_wp2
    refine bodyPost_ret (v := .tuple #[.agg #[.int .i64 0, .int .i64 0], .bool false]) ?_ rfl ⟨by rw [HE.out]; rfl, HB2.out⟩
    rw [results_cell_tmp rfl]
    show ((loadVar 44 ⟨w.heap.size, 0, none⟩).run Tryd.prog _).andThen _ = _
    rw [run_loadVar_row _ w.heap.size 44 44 #[.int .i64 0, .int .i64 0] (0, 0) _ HK.out Tryd.underlying44 rfl (by kernel_rfl)]
    rfl
  | some x =>
    obtain ⟨i, rfl, hi, hb⟩ := rget_some hx
    rw [hb] at HT
    obtain ⟨g, off, c, rfl, _, _, _, hc⟩ := hA.at_ (by have := (List.getElem?_eq_some_iff.1 hi).1; omega)
    obtain ⟨c0, -, -, -, -, -, p5⟩ := hc i x hi
    have hrd := (hA.slp (List.mem_of_getElem? hi)).rd
    obtain ⟨A, cp, hpv, -, -⟩ := id hrd
    have HWL := hide (show ∀ g2, A = some g2 → g2.block ≠ w.heap.size from fun g2 e2 => by
      have h5 := (h.slp (List.mem_of_getElem? hi)).lt
      rw [hpv, e2] at h5
      have := h5 g2.block rfl
      omega)
    rw [hpv] at p5 hrd
    have HE := hide (show (pgAt ((rget O (i : Int)).map RSym.props) key) = pget x.props key by rw [hx]; rfl)
    have HLEN := hide (show x.props.length ≤ maxLen from by obtain ⟨_, _, _, _, e2, e3⟩ := hA.okp x (List.mem_of_getElem? hi); omega)
    generalize x.props = l at *
    obtain ⟨m, hm⟩ : ∃ m, m = l.length := ⟨_, rfl⟩
    rw [← hm] at p5
    have HM := hide hm
    have HRD := hide hrd
    obtain ⟨k, hk⟩ : ∃ k, k = O.length := ⟨_, rfl⟩
    have hlt : (i : Int) < (k : Int) := by have := (List.getElem?_eq_some_iff.1 hi).1; omega
    have h0 : (0 : Int) ≤ (i : Int) := by omega
    have n1 : ¬ ob = w.heap.size := by have := HLT.out; omega
    have n2 : ¬ g = w.heap.size := by have := HGLT.out g rfl; omega
    have n3 : ¬ w.heap.size = ob := by omega
    have n4 : ¬ w.heap.size = g := by omega
    have hm9 : m ≤ 9223372036854775807 := by have := HLEN.out; unfold maxLen at this; omega
    rw [← hk] at c0
    clear h hx hc hi hb hk hA hbk hB hrd hm hpv
    refine (Calls.mono HT.out) ?_
    rintro e w2 ⟨rfl, rfl⟩
    go_wp2
    go_loop [9] (fun t => ∃ q : Nat, q ≤ m ∧ t = .int .i64 (q : Int) ∧ ∀ j y, j < q → l[j]? = some y → y.1 ≠ key) (fun t => m - (intOf t).toNat)
    case atStart => exact ⟨0, Nat.zero_le _, rfl, fun j y hj => by omega⟩
    case round =>
      obtain ⟨q, hq, rfl, hno⟩ := hrel
      have HNO := hide hno
      clear hno
      by_cases hlt2 : q < m
      · have y1 : decide (q < m) = true := by simpa using hlt2
        have y2 : decide ((q : Int) < (m : Int)) = true := by simp; omega
        obtain ⟨x2, hx2⟩ : ∃ x2, l[q]? = some x2 := ⟨_, List.getElem?_eq_getElem (by rw [← HM.out]; exact hlt2)⟩
        obtain ⟨g2, off2, c2, hv2, hc2⟩ := HRD.out.fld pcells_len (by rw [← HM.out]; omega)
        injection hv2 with e1 _ e2
        subst e1 e2
        have n5 : ¬ g2 = w.heap.size := HWL.out _ rfl
        have n6 : ¬ w.heap.size = g2 := fun e => n5 e.symm
        have r0 := hc2 q x2 0 _ hx2 rfl
        rw [Nat.add_zero] at r0
        have r1 := hc2 q x2 1 _ hx2 rfl
        have r2 := hc2 q x2 2 _ hx2 rfl
        have HX2 := hide hx2
        have HL2 := hide hlt2
        have q0 : (0 : Int) ≤ (q : Int) := by omega
        have q1 : (q : Int) < (m : Int) := by omega
        clear hc2 hx2 hlt2
        by_cases he : x2.1 = key
        · have z1 : (x2.1 == key) = true := by simpa using he
          have z2 : decide (x2.1 = key) = true := by simpa using he
          have HR := hide (show propR (pgAt ((rget O (i : Int)).map RSym.props) key) = .tuple #[.agg #[.int .i64 x2.2.1, .int .i64 x2.2.2], .bool true] by rw [HE.out, pget_first HX2.out he HNO.out]; rfl)
          have HK3 := hide ((HBK.out.set_ 0 (.int .i64 x2.2.1)).set_ 1 (.int .i64 x2.2.2))
          have HB3 := hide ((HB.out.setCell (p := ⟨w.heap.size, 0, none⟩) (Nat.le_refl _) (.int .i64 x2.2.1)).setCell (p := ⟨w.heap.size, 1, none⟩) (Nat.le_refl _) (.int .i64 x2.2.2))
          clear he
          go_wp2
          refine bodyPost_ret (v := .tuple #[.agg #[.int .i64 x2.2.1, .int .i64 x2.2.2], .bool true]) ?_ rfl ⟨by rw [HR.out], HB3.out⟩
          rw [results_cell_tmp rfl]
          show ((loadVar 44 ⟨w.heap.size, 0, none⟩).run Tryd.prog _).andThen _ = _
          rw [run_loadVar_row _ w.heap.size 44 44 #[.int .i64 x2.2.1, .int .i64 x2.2.2] (0, 0) _ HK3.out Tryd.underlying44 rfl (by kernel_rfl)]
          rfl
        · have z1 : (x2.1 == key) = false := by simpa using he
          have z2 : decide (x2.1 = key) = false := by simpa using he
          have HNE := hide he
          clear he
          go_wp2
          go_round
          case rel => exact ⟨q + 1, HL2.out, by go_num, fun j y hj hy => by
            by_cases e : j = q
            · subst e
              rw [HX2.out] at hy
              cases hy
              exact HNE.out
            · exact HNO.out j y (by omega) hy⟩
          case measure => have := HL2.out; simp [intOf]; omega
      · have y1 : decide (q < m) = false := by simpa using hlt2
        have y2 : decide ((q : Int) < (m : Int)) = false := by simp; omega
        have HR := hide (show propR (pgAt ((rget O (i : Int)).map RSym.props) key) = .tuple #[.agg #[.int .i64 0, .int .i64 0], .bool false] by
          rw [HE.out, pget_never fun j y hj => HNO.out j y (by have := (List.getElem?_eq_some_iff.1 hj).1; have := HM.out; omega) hj]
          rfl)
        clear hlt2
        go_wp2
        refine bodyPost_ret (v := .tuple #[.agg #[.int .i64 0, .int .i64 0], .bool false]) ?_ rfl ⟨by rw [HR.out], HB2.out⟩
        rw [results_cell_tmp rfl]
        show ((loadVar 44 ⟨w.heap.size, 0, none⟩).run Tryd.prog _).andThen _ = _
        rw [run_loadVar_row _ w.heap.size 44 44 #[.int .i64 0, .int .i64 0] (0, 0) _ HK.out Tryd.underlying44 rfl (by kernel_rfl)]
        rfl
/-- What Props leaves, where it returns the list l. -/
def PrRes (w : World) (l : List (Int × Int × Int)) (e : Ending) (w' : World) : Prop := ∃ v, e = .returned v ∧ Sl w' 56 3 v l.length (rows pcells l) ∧ Below w.heap.size w w'
set_option maxRecDepth 100000 in
set_option maxHeartbeats 4000000 in
theorem rprops_any (h : RAt W w ob lv O R) (n : Int) (hlen : ∀ x ∈ O, x.props.length ≤ 16384) : Calls Tryd.prog 58 #[.pointer (some ⟨ob, 0, none⟩), .int .i64 n] w (PrRes w (((rget O n).map RSym.props).getD [])) := by
  have HT := hide (rthere_any h n)
  cases hx : rget O n with
  | none =>
    rw [rget_none hx] at HT
    clear h hx
    go_enter Tryd.func58, Tryd.ntmps58
    go_wp2_with fail
    refine (Calls.mono (HT.out)) ?_
    rintro r w2 ⟨rfl, rfl⟩
    go_wp2
    go_ret
    exact ⟨_, rfl, Sl.nil _ _ _, Below.refl _ _⟩
  | some x =>
    obtain ⟨i, rfl, hi, hb⟩ := rget_some hx
    rw [hb] at HT
    have hA := h.below ((Below.refl w.heap.size w).alloc (Nat.le_refl _) (.cells #[] 56))
    obtain ⟨g, off, c, rfl, _, _, _, hc⟩ := hA.at_ (by have := (List.getElem?_eq_some_iff.1 hi).1; omega)
    obtain ⟨c0, -, -, -, -, -, p5⟩ := hc i x hi
    have hsl := h.slp (List.mem_of_getElem? hi)
    have hl := hlen x (List.mem_of_getElem? hi)
    show Calls _ _ _ _ (PrRes w x.props)
    generalize x.props = l at *
    generalize x.pv = pv at *
    obtain ⟨A5, c5, rfl, -, -⟩ := hsl.form
    have HRD := hide (hsl.alloc (.cells #[] 56)).rd
    have HES := hide (show Sl (w.alloc (.cells #[] 56)) 56 3 (.slice (some ⟨w.heap.size, 0, none⟩) 0 0) 0 [] from by simpa using (Sl.new w 56 3 #[] 0 0 (Nat.le_refl _) (Nat.zero_le _) (by simp)))
    have HB := hide ((Below.refl w.heap.size w).alloc (Nat.le_refl _) (.cells #[] 56))
    obtain ⟨k, hk⟩ : ∃ k, k = O.length := ⟨_, rfl⟩
    have hlt : (i : Int) < (k : Int) := by have := (List.getElem?_eq_some_iff.1 hi).1; omega
    have h0 : (0 : Int) ≤ (i : Int) := by omega
    rw [← hk] at c0
    obtain ⟨i0, hi0, hz0, hz1, hz2⟩ := info_parts info_prop
    have HI := hide hi0
    have HZ := hide hz0
    have HZ1 := hide hz1
    have HZ2 := hide hz2
    clear h hA hx hc hi hb hk hsl hlen hi0 hz0 hz1 hz2
    go_enter Tryd.func58, Tryd.ntmps58
    go_wp2_with fail
    refine (Calls.mono (HT.out)) ?_
    rintro r w2 ⟨rfl, rfl⟩
    go_wp2_with (at_builtin; go_loud (refine wpList_append_sl rfl (.tmp 9) (.tmp 17) 57 rfl 56 i0 _ 3 24 Tryd.underlying57 HI.out HZ.out HZ1.out HZ2.out rfl _ 0 [] rfl HES.out _ rfl l.length (rows pcells l) HRD.out (rows_cells fun z _ => pcells_one z) ?b1 ?b2 ?_))
    case b1 => unfold maxLen; omega
    case b2 => omega
    intro v' w' hs ho hv
    have HR := hide (show Sl w' 56 3 v' l.length (rows pcells l) ∧ Below w.heap.size w w' from ⟨by simpa using hs, HB.out.trans (ho.below (by simp) fun j hj => by simp [Value.ownBlock] at hj; omega)⟩)
    clear hs ho hv
    go_wp2
    go_ret
    exact ⟨_, rfl, HR.out.1, HR.out.2⟩
end
set_option maxHeartbeats 1000000 in
theorem reflen_any (s : ByteArray) (w : World) (hs : s.size * 8 ≤ 140737488355328) : Calls Tryd.prog 78 #[.string s] w fun e w' => e = .returned (.int .i64 (lenS s : Int)) ∧ Below w.heap.size w w' := by
  have hl := list_any s w hs
  unfold ListRes at hl
  cases hc : charsL s.data.toList with
  | none =>
    have HN := hide (show lenS s = 0 by unfold lenS; rw [hc]; rfl)
    rw [hc] at hl
    have HL := hide hl
    clear hl hc
    go_enter Tryd.func78, Tryd.ntmps78
    go_wp2_with fail
    refine (Calls.mono HL.out) ?_
    rintro e w2 ⟨hb, rfl⟩
    have HB := hide hb
    clear hb
    go_wp2
    go_ret
    exact ⟨by rw [HN.out]; rfl, HB.out⟩
  | some l =>
    have HN := hide (show lenS s = l.length by unfold lenS; rw [hc]; rfl)
    rw [hc] at hl
    have HL := hide hl
    clear hl hc
    go_enter Tryd.func78, Tryd.ntmps78
    go_wp2_with fail
    refine (Calls.mono HL.out) ?_
    rintro e w2 ⟨hb, v, rfl, hsl, hown⟩
    obtain ⟨A, c, rfl, _⟩ := hsl.form
    have HB := hide hb
    clear hb hsl hown
    go_wp2
    go_ret
    exact ⟨by rw [HN.out]; rfl, HB.out⟩

theorem rcheck_any (s : ByteArray) (w : World) (hs : s.size ≤ 100000) : Calls Tryd.prog 67 #[.string s] w fun e w' => e = .returned (.int .i64 (chk s)) ∧ Below w.heap.size w w' := by
  have HV := hide (refvalid_any s w (by omega))
  have HN := hide (fun w => reflen_any s w (by omega))
  cases hv : validS s with
  | false =>
    have HE := hide (show chk s = 5 by unfold chk; rw [if_pos hv])
    rw [hv] at HV
    clear hv
    go_enter Tryd.func67, Tryd.ntmps67
    go_wp2_with fail
    refine (Calls.mono (HV.out)) ?_
    rintro r w2 ⟨rfl, b2⟩
    have HB := hide b2
    clear b2
    go_wp2
    go_ret
    exact ⟨by rw [HE.out]; rfl, HB.out⟩
  | true =>
    rw [hv] at HV
    by_cases hl : 1000 < lenS s
    · have z1 : decide ((1000 : Int) < (lenS s : Int)) = true := by simp; omega
      have z2 : decide (1000 < lenS s) = true := by simpa using hl
      have HE := hide (show chk s = 4 by unfold chk; rw [if_neg (by rw [hv]; simp), if_pos hl])
      clear hv hl
      go_enter Tryd.func67, Tryd.ntmps67
      go_wp2_with fail
      refine (Calls.mono (HV.out)) ?_
      rintro r w2 ⟨rfl, b2⟩
      have HB := hide b2
      clear b2
      go_wp2_with fail
      refine (Calls.mono (HN.out _)) ?_
      rintro r w3 ⟨rfl, b3⟩
      have HB3 := hide (HB.out.trans (b3.mono HB.out.size))
      clear b3
      go_wp2
      go_ret
      exact ⟨by rw [HE.out]; rfl, HB3.out⟩
    · have z1 : decide ((1000 : Int) < (lenS s : Int)) = false := by simp; omega
      have z2 : decide (1000 < lenS s) = false := by simpa using hl
      have HE := hide (show chk s = 0 by unfold chk; rw [if_neg (by rw [hv]; simp), if_neg hl])
      clear hv hl
      go_enter Tryd.func67, Tryd.ntmps67
      go_wp2_with fail
      refine (Calls.mono (HV.out)) ?_
      rintro r w2 ⟨rfl, b2⟩
      have HB := hide b2
      clear b2
      go_wp2_with fail
      refine (Calls.mono (HN.out _)) ?_
      rintro r w3 ⟨rfl, b3⟩
      have HB3 := hide (HB.out.trans (b3.mono HB.out.size))
      clear b3
      go_wp2
      go_ret
      exact ⟨by rw [HE.out]; rfl, HB3.out⟩
section
variable {W w w' : World} {ob : Nat} {lv : Value} {O : List RSym} {R : Heap}
set_option maxRecDepth 100000 in
set_option maxHeartbeats 4000000 in
theorem rfind_any (h : RAt W w ob lv O R) (s : ByteArray) : Calls Tryd.prog 54 #[.pointer (some ⟨ob, 0, none⟩), .string s] w
    fun e w' => e = .returned (.tuple #[.int .i64 (((findOf 0 O s).getD 0 : Nat) : Int), .bool (findOf 0 O s).isSome]) ∧ w = w' := by
  obtain ⟨A, c, rfl, c0⟩ := h.c0
  have HA := hide (fun (hp : 0 < O.length) => h.at_ hp)
  have hlen := h.len
  obtain ⟨k, hk⟩ : ∃ k, k = O.length := ⟨_, rfl⟩
  have HK := hide hk
  rw [← hk] at c0 hlen
  clear h hk
  go_enter Tryd.func54, Tryd.ntmps54
  go_wp2
  go_loop [6] (fun t => ∃ q : Nat, q ≤ k ∧ t = .int .i64 (q : Int) ∧ ∀ j y, j < q → O[j]? = some y → (y.it && s == y.nm) = false) (fun t => k - (intOf t).toNat)
  case atStart => exact ⟨0, Nat.zero_le _, rfl, fun j y hj => by omega⟩
  case round =>
    obtain ⟨q, hq, rfl, hno⟩ := hrel
    have HNO := hide hno
    clear hno
    by_cases hlt : q < k
    · have y1 : decide (q < k) = true := by simpa using hlt
      have y2 : decide ((q : Int) < (k : Int)) = true := by simp; omega
      obtain ⟨x, hx⟩ : ∃ x, O[q]? = some x := ⟨_, List.getElem?_eq_getElem (by rw [← HK.out]; exact hlt)⟩
      obtain ⟨g, off, c', hv, -, -, -, hc⟩ := HA.out (by rw [← HK.out]; omega)
      injection hv with e1 _ e2
      subst e1 e2
      obtain ⟨-, p0, p1, -, -, -, -⟩ := hc q x hx
      have HX := hide hx
      have HL := hide hlt
      have q0 : (0 : Int) ≤ (q : Int) := by omega
      have q1 : (q : Int) < (k : Int) := by omega
      clear hc hx hlt
      have step : ∀ (hb : (x.it && s == x.nm) = false), ∀ j y, j < q + 1 → O[j]? = some y → (y.it && s == y.nm) = false := fun hb j y hj hy => by
        by_cases e : j = q
        · subst e
          rw [HX.out] at hy
          cases hy
          exact hb
        · exact HNO.out j y (by omega) hy
      have HSTEP := hide step
      clear step
      cases hi : x.it with
      | false =>
        rw [hi] at p1
        have HN := hide (HSTEP.out (by rw [hi]; rfl))
        go_wp2
        go_round
        case rel => exact ⟨q + 1, HL.out, by go_num, HN.out⟩
        case measure => have := HL.out; simp [intOf]; omega
      | true =>
        rw [hi] at p1
        by_cases he : x.nm = s
        · have z1 : (x.nm.toList == s.toList) = true := by rw [he]; simp
          have z2 : decide (x.nm.toList = s.toList) = true := by rw [he]; simp
          have HF := hide (show findOf 0 O s = some (0 + q) from findOf_at HX.out (by rw [hi, he, (MapKept.bytes_beq s s).2 rfl]; rfl) HNO.out)
          clear he hi
          go_wp2
          go_ret2
          exact ⟨by rw [HF.out]; simp, rfl⟩
        · have z0 : ¬ x.nm.toList = s.toList := fun e => he (by
            have : x.nm.data.toList = s.data.toList := by rwa [ByteArray.toList_eq, ByteArray.toList_eq] at e
            exact bytes_ext this)
          have z1 : (x.nm.toList == s.toList) = false := by simpa using z0
          have z2 : decide (x.nm.toList = s.toList) = false := by simpa using z0
          have hne : (s == x.nm) = false := Bool.eq_false_iff.2 fun e => he ((MapKept.bytes_beq _ _).1 e).symm
          have HN := hide (HSTEP.out (by rw [hi, hne]; rfl))
          clear he hi z0
          go_wp2
          go_round
          case rel => exact ⟨q + 1, HL.out, by go_num, HN.out⟩
          case measure => have := HL.out; simp [intOf]; omega
    · have y1 : decide (q < k) = false := by simpa using hlt
      have y2 : decide ((q : Int) < (k : Int)) = false := by simp; omega
      have HF := hide (show findOf 0 O s = none from findOf_none fun j y hj => HNO.out j y (by have := (List.getElem?_eq_some_iff.1 hj).1; have := HK.out; omega) hj)
      clear hlt
      go_wp2
      go_ret2
      exact ⟨by rw [HF.out]; rfl, rfl⟩
end
end Go.Proofs.YtkhjdhoaephdkaaDoor
