/- Both tables made from the same rules: the program's and the reference's side by side. No condition but those written. -/
import Derived.Test.YtdojcgefiekleaaDoorScl
import Derived.Deep.RegionHeld3
import Derived.OwnWalk
namespace Go.Proofs.YtdojcgefiekleaaDoor
open Go.RowKit

structure Two (w0 w : World) (p : TL) (T : Tb) (r : Nat) (v : Value) (l : List (Int × Int × Int)) : Prop where
  bel : Below w0.heap.size w0 w
  tab : TabAt w p T
  ref : RTab w0 w r v T.lisp l
  ow : w0.heap.size ≤ p.ow
section
variable {w0 w w' : World} {p : TL} {T : Tb} {r : Nat} {v : Value} {l : List (Int × Int × Int)}
theorem Two.below (h : Two w0 w p T r v l) (hb : Below w.heap.size w w') : Two w0 w' p T r v l := ⟨h.bel.trans (hb.mono h.bel.size), h.tab.below hb, h.ref.below hb, h.ow⟩
theorem set_lisp (c k m : Int) : (T.set c k m).lisp = T.lisp := by unfold Tb.set; split <;> rfl
theorem Two.setT (h : Two w0 w p T r v l) {T' : Tb} (hl : T'.lisp = T.lisp) (ho : Only (· = p.ow) w w') (ht : TabAt w' p T') : Two w0 w' p T' r v l := by
  obtain ⟨M, hm, _⟩ := h.tab.own
  have h1 : r ≠ p.ow := fun e => hm.ne_blk h.ref.blk e.symm
  have h2 : v.ownBlock ≠ some p.ow := h.ref.row.ne_map hm
  refine ⟨h.bel.trans (ho.below h.bel.size fun i e => by rw [e]; exact h.ow), ht, ⟨?_, h.ref.row.only ho fun g hg e => h2 (e ▸ hg), h.ref.ge, h.ref.own⟩, h.ow⟩
  rw [hl]
  exact h.ref.blk.only ho h1
theorem Two.setR (h : Two w0 w p T r v l) {v' : Value} {l' : List (Int × Int × Int)} (ho : Only (fun g => g = r ∨ v.ownBlock = some g) w w') (hr : RTab w0 w' r v' T.lisp l') : Two w0 w' p T r v' l' := by
  obtain ⟨M, hm, hM⟩ := h.tab.own
  have ht : p.t ≠ r := h.tab.blk.ne_ h.ref.blk (by decide)
  have ht2 : v.ownBlock ≠ some p.t := h.ref.row.ne_blk h.tab.blk (by decide)
  have ho1 : p.ow ≠ r := hm.ne_blk h.ref.blk
  have ho2 : v.ownBlock ≠ some p.ow := h.ref.row.ne_map hm
  refine ⟨h.bel.trans (ho.below h.bel.size fun i e => ?_), ⟨h.tab.blk.only ho (by rintro (e | e); exact ht e; exact ht2 e), ⟨M, hm.only ho (by rintro (e | e); exact ho1 e; exact ho2 e), hM⟩, fun hl => ?_, h.tab.ok, h.tab.ne⟩, hr, h.ow⟩
  · rcases e with rfl | e
    · exact h.ref.ge
    · exact h.ref.own _ e
  · obtain ⟨h1, h2⟩ := h.tab.rule hl
    refine ⟨h1.only ho ?_, h2.only ho ?_⟩
    · rintro (e | e)
      · exact h1.ne_ h.ref.blk (by decide) e
      · exact h.ref.row.ne_blk h1 (by decide) e
    · rintro (e | e)
      · exact h2.ne_blk h.ref.blk e
      · exact h.ref.row.ne_map h2 e
theorem two_tset (h : Two w0 w p T r v l) (c k m : Int) : Calls Tryd.prog 28 #[.pointer (some ⟨p.t, 0, none⟩), .int .i64 c, .int .i64 k, .int .i64 m] w fun e w' => e = .returned (.int .i64 (setE c k m)) ∧ Two w0 w' p (T.set c k m) r v l := by
  cases hs : setOk c k m
  · refine (tset_bad h.tab c k m hs).mono ?_
    rintro e w' ⟨rfl, rfl⟩
    refine ⟨by unfold setE; rw [hs]; rfl, ?_⟩
    unfold Tb.set
    rw [hs]
    exact h
  · refine (tset_ok h.tab c k m hs).mono ?_
    rintro e w' ⟨rfl, ho, ht⟩
    exact ⟨by unfold setE; rw [hs]; rfl, h.setT (set_lisp c k m) ho ht⟩
theorem two_rset (h : Two w0 w p T r v l) (hl : l.length ≤ 1000) (c k m : Int) : Calls Tryd.prog 42 #[.pointer (some ⟨r, 0, none⟩), .int .i64 c, .int .i64 k, .int .i64 m] w fun e w' => e = .returned (.int .i64 (setE c k m)) ∧ ∃ v', Two w0 w' p T r v' (rset l c k m) := by
  cases hs : setOk c k m
  · refine (rset_bad h.ref c k m hs).mono ?_
    rintro e w' ⟨rfl, rfl⟩
    refine ⟨by unfold setE; rw [hs]; rfl, v, ?_⟩
    unfold rset
    rw [hs]
    exact h
  · refine (rset_ok h.ref hl c k m hs).mono ?_
    rintro e w' ⟨rfl, ⟨v', hr⟩, ho⟩
    exact ⟨by unfold setE; rw [hs]; rfl, v', h.setR ho hr⟩
end
theorem rnew_any (w : World) : Calls Tryd.prog 40 #[] w fun e w' => e = .returned (.pointer (some ⟨w.heap.size, 0, none⟩)) ∧ w' = w.alloc (.cells #[.bool false, .slice none 0 0] 89) := by
  go_enter Tryd.func40, Tryd.ntmps40
  go_wp2
  go_ret
  exact ⟨rfl, rfl⟩
theorem rlisp_any (w : World) : Calls Tryd.prog 41 #[] w fun e w' => e = .returned (.pointer (some ⟨w.heap.size, 0, none⟩)) ∧ w' = w.alloc (.cells #[.bool true, .slice none 0 0] 89) := by
  go_enter Tryd.func41, Tryd.ntmps41
  go_wp2
  go_ret
  exact ⟨rfl, rfl⟩
def tabOf (lisp : Bool) (l : List (Int × Int × Int)) : Tb := l.foldl (fun T x => T.set x.1 x.2.1 x.2.2) ⟨lisp, []⟩
def refOf (l : List (Int × Int × Int)) : List (Int × Int × Int) := l.foldl (fun r x => rset r x.1 x.2.1 x.2.2) []
theorem tabOf_snoc (lisp : Bool) (l : List (Int × Int × Int)) (x : Int × Int × Int) : tabOf lisp (l ++ [x]) = (tabOf lisp l).set x.1 x.2.1 x.2.2 := by simp [tabOf]
theorem refOf_snoc (l : List (Int × Int × Int)) (x : Int × Int × Int) : refOf (l ++ [x]) = rset (refOf l) x.1 x.2.1 x.2.2 := by simp [refOf]
theorem rset_len (l : List (Int × Int × Int)) (c k m : Int) : (rset l c k m).length ≤ l.length + 1 := by unfold rset; split <;> simp
theorem refOf_len (l : List (Int × Int × Int)) : (refOf l).length ≤ l.length := by
  have : ∀ (l r : List (Int × Int × Int)), (l.foldl (fun r x => rset r x.1 x.2.1 x.2.2) r).length ≤ r.length + l.length := by
    intro l
    induction l with
    | nil => intro r; simp
    | cons x l ih =>
      intro r
      have h1 := ih (rset r x.1 x.2.1 x.2.2)
      have h2 := rset_len r x.1 x.2.1 x.2.2
      simp only [List.foldl_cons, List.length_cons]
      omega
  have := this l []
  simpa [refOf] using this
theorem take_snoc {α : Type} {l : List α} {k : Nat} {x : α} (h : l[k]? = some x) : l.take (k + 1) = l.take k ++ [x] := by
  rw [List.take_add_one, h]
  rfl
theorem Two.new {w w' : World} (hb : Below w.heap.size w w') (hk : Blk w' (w.heap.size + 1) 77 #[ruleV false 0, .map (some w.heap.size)]) (hm : MapIs w' w.heap.size []) :
    Two w (w'.alloc (.cells #[.bool false, .slice none 0 0] 89)) ⟨w.heap.size + 1, w.heap.size, 0, 0⟩ ⟨false, []⟩ w'.heap.size (.slice none 0 0) [] :=
  ⟨hb.alloc hb.size _, ⟨hk.alloc _, ⟨[], hm.alloc _, fun _ => rfl, List.nodup_nil⟩, fun h => (by cases h), fun x hx => (by cases hx), fun h => (by cases h)⟩, ⟨Blk.new _ _ _, Sl.nil _ _ _, hb.size, fun g h => by simp [Value.ownBlock] at h⟩, Nat.le_refl _⟩
theorem Two.lisp {w w' : World} {p : TL} (hb : Below w.heap.size w w') (ht : TabAt w' p ⟨true, []⟩) (ho : w.heap.size ≤ p.ow) :
    Two w (w'.alloc (.cells #[.bool true, .slice none 0 0] 89)) p ⟨true, []⟩ w'.heap.size (.slice none 0 0) [] :=
  ⟨hb.alloc hb.size _, ht.alloc _, ⟨Blk.new _ _ _, Sl.nil _ _ _, hb.size, fun g h => by simp [Value.ownBlock] at h⟩, ho⟩
theorem Two.lisp2 {w w1 w5 : World} {p : TL} {o : Obj} (hb1 : Below w.heap.size w w1) (hb5 : Below (w1.alloc o).heap.size (w1.alloc o) w5) (ho : (w1.alloc o).heap.size ≤ p.ow) (ht : TabAt w5 p ⟨true, []⟩) :
    Two w (w5.alloc (.cells #[.bool true, .slice none 0 0] 89)) p ⟨true, []⟩ w5.heap.size (.slice none 0 0) [] :=
  have hb6 := hb1.alloc hb1.size o
  Two.lisp (hb6.trans (hb5.mono hb6.size)) ht (Nat.le_trans hb6.size ho)
/-- The loop of the rules, from any start. -/
def TabRes (w0 : World) (lisp : Bool) (l : List (Int × Int × Int)) (e : Ending) (w' : World) : Prop := ∃ p r v, e = .returned (.tuple #[.pointer (some ⟨p.t, 0, none⟩), .pointer (some ⟨r, 0, none⟩), .bool true]) ∧ Two w0 w' p (tabOf lisp l) r v (refOf l)
set_option maxRecDepth 100000 in
set_option maxHeartbeats 4000000 in
theorem table_any (w : World) (lisp : Bool) (l : List (Int × Int × Int)) (lv : Value) (hr : Rd w lv 3 l.length (rows clE l)) (hm : l.length ≤ 20) : Calls Tryd.prog 13 #[.bool lisp, lv] w (TabRes w lisp l) := by
  obtain ⟨A, cp, rfl⟩ : ∃ A c, lv = .slice A l.length c := by
    obtain ⟨A, c, h1, h2, _⟩ := hr
    exact ⟨A, c, h1⟩
  have HR := hide hr
  have HM := hide hm
  have hnb : (l.length : Int) ≤ 20 := by omega
  clear hr hm
  cases lisp
  · go_enter Tryd.func13, Tryd.ntmps13
    go_wp2_with (first | (go_at_call 39; refine (tnew_any _).mono ?_; rintro e w1 ⟨rfl, hb1, hs1, hk1, hm1⟩; have HT := hide (Two.new hb1 hk1 hm1); clear hb1 hs1 hk1 hm1) | (go_at_call 40; refine (rnew_any _).mono ?_; rintro e w' ⟨rfl, rfl⟩))
    go_loopw [9, 10] (fun sm iv wr => ∃ (k : Nat) (v : Value), sm = .bool true ∧ iv = .int .i64 (k : Int) ∧ k ≤ l.length ∧ Two w wr ⟨w.heap.size + 1, w.heap.size, 0, 0⟩ (tabOf false (l.take k)) w1.heap.size v (refOf (l.take k))) (fun _ iv _ => l.length - (intOf iv).toNat)
    case atStart => exact ⟨0, .slice none 0 0, rfl, rfl, Nat.zero_le _, HT.out⟩
    case round =>
      obtain ⟨k, v, rfl, rfl, hk, ht⟩ := hrel
      have HA := hide ht
      clear ht
      by_cases hl : k < l.length
      · obtain ⟨⟨xc, xk, xm⟩, hx⟩ : ∃ x, l[k]? = some x := ⟨_, List.getElem?_eq_getElem hl⟩
        obtain ⟨g, off, c', hv, -⟩ := HR.out.fld clE_len (by omega)
        injection hv with h1 _ h3
        subst h1 h3
        have HC := hide (show ∀ W, Below w.heap.size w W → W.cell? ⟨g, off + k * 3, none⟩ = some (.int .i64 xc) ∧ W.cell? ⟨g, off + k * 3 + 1, none⟩ = some (.int .i64 xk) ∧ W.cell? ⟨g, off + k * 3 + 2, none⟩ = some (.int .i64 xm) from fun W hW => by
          obtain ⟨g', off', c', hv, hc⟩ := (HR.out.belowN hW).fld clE_len (by omega)
          injection hv with h1 _ h3
          injection h1 with h1
          injection h1 with h4 h5
          subst h4 h5
          exact ⟨hc k _ 0 _ hx rfl, hc k _ 1 _ hx rfl, hc k _ 2 _ hx rfl⟩)
        have HX := hide hx
        have y1 : decide ((k : Int) < (l.length : Int)) = true := by simp; omega
        have z1 : (k : Int) < (l.length : Int) := by omega
        have z2 : (0 : Int) ≤ (k : Int) := by omega
        have z3 : decide (k < l.length) = true := by simpa using hl
        clear hx
        go_wp2
        have HD := hide (HA.out.below (Below.refl wr.heap.size wr).drew)
        have HL1 := hide (show (refOf (l.take k)).length ≤ 1000 from by have := refOf_len (l.take k); have := HM.out; simp at *; omega)
        have HEE := hide (show ∀ W, W = setE xc xk xm → (W == setE xc xk xm) = true from fun W hW => by simp [hW])
        obtain ⟨er, her⟩ : ∃ er, er = setE xc xk xm := ⟨_, rfl⟩
        go_region_held3 (fun w' => w'.cell? ⟨g, off + k * 3, none⟩ = some (.int .i64 xc) ∧ w'.cell? ⟨g, off + k * 3 + 1, none⟩ = some (.int .i64 xk) ∧ w'.cell? ⟨g, off + k * 3 + 2, none⟩ = some (.int .i64 xm))
          (first | exact HC.out _ HD.out.bel | exact HC.out _ HT2.out.bel | exact HC.out _ HT3.out.bel)
          (first | (go_at_call 28; (with_reducible refine Calls.mono (two_tset HD.out xc xk xm) ?_); rw [← her]; rintro e w2 ⟨rfl, h2⟩; have HT2 := hide h2; clear h2) | (go_at_call 42; (with_reducible refine Calls.mono (two_rset HT2.out HL1.out xc xk xm) ?_); rw [← her]; rintro e w3 ⟨rfl, v3, h3⟩; have HT3 := hide h3; clear h3))
        go_wp2
        refine ⟨⟨k + 1, v3, by simp, by simp, hl, ?_⟩, by simp [intOf]; omega⟩
        have h3 := HT3.out
        rw [take_snoc HX.out, tabOf_snoc, refOf_snoc]
        exact h3
      · have y1 : decide ((k : Int) < (l.length : Int)) = false := by simp; omega
        go_wp2
        go_ret3
        have h3 := HA.out
        rw [List.take_of_length_le (by omega)] at h3
        exact ⟨_, _, v, rfl, h3⟩
  · go_enter Tryd.func13, Tryd.ntmps13
    go_wp2_with (first | (go_at_call 39; refine (tnew_any _).mono ?_; rintro e w1 ⟨rfl, hb1, hs1, hk1, hm1⟩; have HB1 := hide hb1; clear hb1 hs1 hk1 hm1) | (go_at_call 40; refine (rnew_any _).mono ?_; rintro e w' ⟨rfl, rfl⟩) | (go_at_call 22; refine (tlisp_any _).mono ?_; rintro e w5 ⟨p, rfl, hb5, ho5, ht5⟩; have HT := hide (Two.lisp2 HB1.out hb5 ho5 ht5); clear hb5 ho5 ht5) | (go_at_call 41; refine (rlisp_any _).mono ?_; rintro e w' ⟨rfl, rfl⟩))
    go_loopw [9, 10] (fun sm iv wr => ∃ (k : Nat) (v : Value), sm = .bool true ∧ iv = .int .i64 (k : Int) ∧ k ≤ l.length ∧ Two w wr p (tabOf true (l.take k)) w5.heap.size v (refOf (l.take k))) (fun _ iv _ => l.length - (intOf iv).toNat)
    case atStart => exact ⟨0, .slice none 0 0, rfl, rfl, Nat.zero_le _, HT.out⟩
    case round =>
      obtain ⟨k, v, rfl, rfl, hk, ht⟩ := hrel
      have HA := hide ht
      clear ht
      by_cases hl : k < l.length
      · obtain ⟨⟨xc, xk, xm⟩, hx⟩ : ∃ x, l[k]? = some x := ⟨_, List.getElem?_eq_getElem hl⟩
        obtain ⟨g, off, c', hv, -⟩ := HR.out.fld clE_len (by omega)
        injection hv with h1 _ h3
        subst h1 h3
        have HC := hide (show ∀ W, Below w.heap.size w W → W.cell? ⟨g, off + k * 3, none⟩ = some (.int .i64 xc) ∧ W.cell? ⟨g, off + k * 3 + 1, none⟩ = some (.int .i64 xk) ∧ W.cell? ⟨g, off + k * 3 + 2, none⟩ = some (.int .i64 xm) from fun W hW => by
          obtain ⟨g', off', c', hv, hc⟩ := (HR.out.belowN hW).fld clE_len (by omega)
          injection hv with h1 _ h3
          injection h1 with h1
          injection h1 with h4 h5
          subst h4 h5
          exact ⟨hc k _ 0 _ hx rfl, hc k _ 1 _ hx rfl, hc k _ 2 _ hx rfl⟩)
        have HX := hide hx
        have y1 : decide ((k : Int) < (l.length : Int)) = true := by simp; omega
        have z1 : (k : Int) < (l.length : Int) := by omega
        have z2 : (0 : Int) ≤ (k : Int) := by omega
        have z3 : decide (k < l.length) = true := by simpa using hl
        clear hx
        go_wp2
        have HD := hide (HA.out.below (Below.refl wr.heap.size wr).drew)
        have HL1 := hide (show (refOf (l.take k)).length ≤ 1000 from by have := refOf_len (l.take k); have := HM.out; simp at *; omega)
        have HEE := hide (show ∀ W, W = setE xc xk xm → (W == setE xc xk xm) = true from fun W hW => by simp [hW])
        obtain ⟨er, her⟩ : ∃ er, er = setE xc xk xm := ⟨_, rfl⟩
        go_region_held3 (fun w' => w'.cell? ⟨g, off + k * 3, none⟩ = some (.int .i64 xc) ∧ w'.cell? ⟨g, off + k * 3 + 1, none⟩ = some (.int .i64 xk) ∧ w'.cell? ⟨g, off + k * 3 + 2, none⟩ = some (.int .i64 xm))
          (first | exact HC.out _ HD.out.bel | exact HC.out _ HT2.out.bel | exact HC.out _ HT3.out.bel)
          (first | (go_at_call 28; (with_reducible refine Calls.mono (two_tset HD.out xc xk xm) ?_); rw [← her]; rintro e w2 ⟨rfl, h2⟩; have HT2 := hide h2; clear h2) | (go_at_call 42; (with_reducible refine Calls.mono (two_rset HT2.out HL1.out xc xk xm) ?_); rw [← her]; rintro e w3 ⟨rfl, v3, h3⟩; have HT3 := hide h3; clear h3))
        go_wp2
        refine ⟨⟨k + 1, v3, by simp, by simp, hl, ?_⟩, by simp [intOf]; omega⟩
        have h3 := HT3.out
        rw [take_snoc HX.out, tabOf_snoc, refOf_snoc]
        exact h3
      · have y1 : decide ((k : Int) < (l.length : Int)) = false := by simp; omega
        go_wp2
        go_ret3
        have h3 := HA.out
        rw [List.take_of_length_le (by omega)] at h3
        exact ⟨_, _, v, rfl, h3⟩
end Go.Proofs.YtdojcgefiekleaaDoor
