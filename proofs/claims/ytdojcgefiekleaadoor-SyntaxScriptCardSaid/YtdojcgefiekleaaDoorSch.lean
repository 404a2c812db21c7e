/- Sexps of a table: the walk. No condition but those written. -/
import Derived.Test.YtdojcgefiekleaaDoorScf
namespace Go.Proofs.YtdojcgefiekleaaDoor
open Go.RowKit

/-- What Sexps answers of a text. -/
def sexpsR (T : Tb) (s : ByteArray) (at_ n : Int) : Ans := match charsL s.data.toList with
  | none => (0, 5, 0)
  | some L => if at_ < 0 ∨ (L.length : Int) < at_ then (0, 3, 0) else sexps T L n at_.toNat
theorem sexps_pos {T : Tb} {L : List Nat} {n : Int} {i : Nat} (hn : 0 < n) : sexps T L n i = if (fwd1 T L i).2.1 = 0 then sexps T L (n - 1) (fwd1 T L i).1 else (0, (fwd1 T L i).2) := by
  unfold sexps
  rw [if_neg (show ¬ n < 0 by omega), if_neg (show ¬ n - 1 < 0 by omega), show n.toNat = (n - 1).toNat + 1 by omega]
  rfl
theorem sexps_neg {T : Tb} {L : List Nat} {n : Int} {i : Nat} (hn : n < 0) : sexps T L n i = if (bck1 T (L.take i)).2.1 = 0 then sexps T L (n + 1) (bck1 T (L.take i)).1 else (0, (bck1 T (L.take i)).2) := by
  unfold sexps
  rw [if_pos hn, show (-n).toNat = (-(n + 1)).toNat + 1 by omega]
  by_cases h : n + 1 < 0
  · rw [if_pos h]
    rfl
  · rw [if_neg h, show (n + 1).toNat = 0 by omega, show (-(n + 1)).toNat = 0 by omega]
    rfl
/-- Within Sexps: the answer's fault, the last move's fault, the characters. -/
structure XSt (w0 w : World) (g : Nat) (v : Value) (L : List Nat) : Prop where
  bel : Below w0.heap.size w0 w
  flt : Blk w w0.heap.size 40 #[.int .i64 0, .int .i64 0]
  one : Blk w g 40 #[.int .i64 0, .int .i64 0]
  row : Sl w 3 1 v L.length (ints L)
  lt : w0.heap.size < g
section
variable {w0 w w' : World} {p : TL} {T : Tb} {v : Value} {L : List Nat} {g : Nat}
theorem XSt.below (h : XSt w0 w g v L) (hb : Below w.heap.size w w') : XSt w0 w' g v L :=
  ⟨h.bel.trans (hb.mono h.bel.size), h.flt.below hb h.flt.lt, h.one.below hb h.one.lt, h.row.only (Only.of_below (F := fun _ => False) hb) fun _ _ f => f, h.lt⟩
theorem XSt.d0 (h : XSt w0 w g v L) : w.cell? ⟨w0.heap.size, 0, none⟩ = some (.int .i64 0) := (h.flt.cell 0).trans rfl
theorem XSt.d1 (h : XSt w0 w g v L) : w.cell? ⟨w0.heap.size, 1, none⟩ = some (.int .i64 0) := (h.flt.cell 1).trans rfl
theorem XSt.e0 (h : XSt w0 w g v L) : w.frozen? ⟨w0.heap.size, 0, none⟩ = false := h.flt.frozen 0
theorem XSt.e1 (h : XSt w0 w g v L) : w.frozen? ⟨w0.heap.size, 1, none⟩ = false := h.flt.frozen 1
theorem XSt.a0 (h : XSt w0 w g v L) : w.cell? ⟨g, 0, none⟩ = some (.int .i64 0) := (h.one.cell 0).trans rfl
theorem XSt.a1 (h : XSt w0 w g v L) : w.cell? ⟨g, 1, none⟩ = some (.int .i64 0) := (h.one.cell 1).trans rfl
theorem XSt.b0 (h : XSt w0 w g v L) : w.frozen? ⟨g, 0, none⟩ = false := h.one.frozen 0
theorem XSt.b1 (h : XSt w0 w g v L) : w.frozen? ⟨g, 1, none⟩ = false := h.one.frozen 1
/-- The last move's fault is stored. -/
theorem XSt.put0 (h : XSt w0 w g v L) : XSt w0 ((w.setCell ⟨g, 0, none⟩ (.int .i64 0)).setCell ⟨g, 1, none⟩ (.int .i64 0)) g v L := by
  have hne : v.ownBlock ≠ some g := h.row.ne_blk h.one (by decide)
  have hlt := h.lt
  exact ⟨(h.bel.setCell (Nat.le_of_lt hlt) _).setCell (Nat.le_of_lt hlt) _, (h.flt.far (by simp only []; omega) _).far (by simp only []; omega) _, (h.one.set_ 0 _).set_ 1 _, (h.row.far hne _).far hne _, hlt⟩
/-- Both faults are stored. -/
theorem XSt.fin (h : XSt w0 w g v L) (x y a b : Value) : Blk ((((w.setCell ⟨g, 0, none⟩ a).setCell ⟨g, 1, none⟩ b).setCell ⟨w0.heap.size, 0, none⟩ x).setCell ⟨w0.heap.size, 1, none⟩ y) w0.heap.size 40 #[x, y] ∧
    Below w0.heap.size w0 ((((w.setCell ⟨g, 0, none⟩ a).setCell ⟨g, 1, none⟩ b).setCell ⟨w0.heap.size, 0, none⟩ x).setCell ⟨w0.heap.size, 1, none⟩ y) := by
  have hlt := h.lt
  exact ⟨(((h.flt.far (by simp only []; omega) _).far (by simp only []; omega) _).set_ 0 _).set_ 1 _, (((h.bel.setCell (Nat.le_of_lt hlt) _).setCell (Nat.le_of_lt hlt) _).setCell (Nat.le_refl _) _).setCell (Nat.le_refl _) _⟩
theorem XSt.fin1 (h : XSt w0 w g v L) (x y : Value) : Blk ((w.setCell ⟨w0.heap.size, 0, none⟩ x).setCell ⟨w0.heap.size, 1, none⟩ y) w0.heap.size 40 #[x, y] ∧
    Below w0.heap.size w0 ((w.setCell ⟨w0.heap.size, 0, none⟩ x).setCell ⟨w0.heap.size, 1, none⟩ y) :=
  ⟨(h.flt.set_ 0 _).set_ 1 _, (h.bel.setCell (Nat.le_refl _) _).setCell (Nat.le_refl _) _⟩
theorem XSt.cells (h : XSt w0 w g v L) (x y : Value) : let W := (w.setCell ⟨g, 0, none⟩ x).setCell ⟨g, 1, none⟩ y
    W.cell? ⟨g, 0, none⟩ = some x ∧ W.cell? ⟨g, 1, none⟩ = some y ∧ W.cell? ⟨w0.heap.size, 0, none⟩ = some (.int .i64 0) ∧ W.cell? ⟨w0.heap.size, 1, none⟩ = some (.int .i64 0) ∧ W.frozen? ⟨w0.heap.size, 0, none⟩ = false ∧ W.frozen? ⟨w0.heap.size, 1, none⟩ = false := by
  have hlt := h.lt
  have h1 : Blk ((w.setCell ⟨g, 0, none⟩ x).setCell ⟨g, 1, none⟩ y) g 40 #[x, y] := (h.one.set_ 0 _).set_ 1 _
  have h2 : Blk ((w.setCell ⟨g, 0, none⟩ x).setCell ⟨g, 1, none⟩ y) w0.heap.size 40 #[.int .i64 0, .int .i64 0] := (h.flt.far (by simp only []; omega) _).far (by simp only []; omega) _
  exact ⟨h1.cell 0, h1.cell 1, h2.cell 0, h2.cell 1, h2.frozen 0, h2.frozen 1⟩
theorem XSt.scan (h : XSt w0 w g v L) (ht : TabAt w0 p T) (hl : L.length ≤ 1000000000000) : Scan w p T v L := ⟨ht.below h.bel, h.row.rd, hl⟩
theorem XSt.scanTo (h : XSt w0 w g v L) (ht : TabAt w0 p T) (hl : L.length ≤ 1000000000000) {A : Option Addr} {n c i : Nat} (hv : v = .slice A n c) (hi : i ≤ L.length) : Scan w p T (.slice A i c) (L.take i) := by
  subst hv
  obtain ⟨A', c', e, _⟩ := h.row.form
  injection e with e1 e2 e3
  subst e1 e2 e3
  have h2 := (h.row.cut hi).rd
  have e : (ints L).take (i * 1) = ints (L.take i) := by simp [ints, List.map_take]
  rw [e] at h2
  refine ⟨ht.below h.bel, ?_, by rw [take_len hi]; omega⟩
  rw [take_len hi]
  exact h2
end
section
variable {w w' : World} {p : TL} {T : Tb}
/-- What chars answers, parted. -/
theorem chars_none {w : World} {p : TL} {T : Tb} (h : TabAt w p T) (s : ByteArray) (hs : s.size * 8 ≤ 140737488355328) (hT : Tabs w) (hc : charsL s.data.toList = none) : Calls Tryd.prog 43 #[.pointer (some ⟨p.t, 0, none⟩), .string s] w fun e w' => e = .returned (.tuple #[.slice none 0 0, .int .i64 5]) ∧ Below w.heap.size w w' := by
  refine (chars_any h s hs hT).mono ?_
  rintro e w' ⟨hb, hm⟩
  rw [hc] at hm
  exact ⟨hm, hb⟩
theorem chars_some {w : World} {p : TL} {T : Tb} (h : TabAt w p T) (s : ByteArray) (hs : s.size * 8 ≤ 140737488355328) (hT : Tabs w) {L : List Nat} (hc : charsL s.data.toList = some L) : Calls Tryd.prog 43 #[.pointer (some ⟨p.t, 0, none⟩), .string s] w fun e w' => ∃ A c, e = .returned (.tuple #[.slice A L.length c, .int .i64 0]) ∧ L.length ≤ c ∧ Below w.heap.size w w' ∧ Sl w' 3 1 (.slice A L.length c) L.length (ints L) ∧ ∀ g, (Value.slice A L.length c).ownBlock = some g → w.heap.size ≤ g := by
  refine (chars_any h s hs hT).mono ?_
  rintro e w' ⟨hb, hm⟩
  rw [hc] at hm
  obtain ⟨v, he, hs, ho⟩ := hm
  obtain ⟨A, c, rfl, hl, _⟩ := hs.form
  exact ⟨A, c, he, hl, hb, hs, ho⟩
set_option maxRecDepth 100000 in
set_option maxHeartbeats 4000000 in
theorem sexps_any (h : TabAt w p T) (s : ByteArray) (hs : s.size ≤ 1000000000000) (hT : Tabs w) (at_ n : Int) (hn : -1000000 ≤ n) (hn2 : n ≤ 1000000) : Calls Tryd.prog 19 #[.pointer (some ⟨p.t, 0, none⟩), .string s, .int .i64 at_, .int .i64 n] w fun e w' => e = .returned (ansV (sexpsR T s at_ n)) ∧ Below w.heap.size w w' := by
  have hb0 : Below w.heap.size w (w.alloc (.cells #[.int .i64 0, .int .i64 0] 40)) := (Below.refl _ w).alloc (Nat.le_refl _) _
  have hT1 := hT.below hb0
  have h1 := h.below hb0
  have hf0 := Blk.new w 40 #[.int .i64 0, .int .i64 0]
  obtain ⟨w1, hw1⟩ : ∃ w1, w1 = (w.alloc (.cells #[.int .i64 0, .int .i64 0] 40)) := ⟨_, rfl⟩
  rw [← hw1] at hb0 hT1 h1 hf0
  have HW := hide hw1
  have HB0 := hide hb0
  have HF0 := hide hf0
  cases hc : charsL s.data.toList with
  | none =>
    have HCH := hide (chars_none h1 s (by omega) hT1 hc)
    have HR := hide (show sexpsR T s at_ n = (0, 5, 0) by unfold sexpsR; rw [hc])
    clear h h1 hT hT1 hw1 hb0 hf0 hc
    go_enter Tryd.func19, Tryd.ntmps19
    go_wp2_with (go_at_call 43; rw [← HW.out]; (with_reducible refine Calls.mono HCH.out ?_); rintro r w2 ⟨rfl, hb2⟩; have HK := hide (HF0.out.below hb2 HF0.out.lt); have d0 := HK.out.cell 0; have d1 := HK.out.cell 1; have e0 := HK.out.frozen 0; have e1 := HK.out.frozen 1; have HB := hide (HB0.out.trans (hb2.mono HB0.out.size)); clear hb2)
    refine bodyPost_ret (results_tmp_cell rfl _ _ w.heap.size 40 _ (0, 0) _ rfl ((HK.out.set_ 0 _).set_ 1 _) Tryd.underlying40 rfl (by kernel_rfl)) rfl ?_
    exact ⟨by rw [HR.out]; rfl, (HB.out.setCell (Nat.le_refl _) _).setCell (Nat.le_refl _) _⟩
  | some L =>
    have hL := chars_le _ _ hc
    have hL1 : L.length ≤ s.size := hL
    have hl : L.length ≤ 1000000000000 := by omega
    have hl2 : (L.length : Int) ≤ 1000000000000 := by omega
    have HCH := hide (chars_some h1 s (by omega) hT1 hc)
    by_cases hr : at_ < 0 ∨ (L.length : Int) < at_
    · have HR := hide (show sexpsR T s at_ n = (0, 3, 0) by unfold sexpsR; rw [hc]; simp only []; rw [if_pos hr])
      clear h h1 hT hT1 hw1 hb0 hf0 hc
      by_cases q1 : at_ < 0
      · clear hr
        go_enter Tryd.func19, Tryd.ntmps19
        go_wp2_with (go_at_call 43; rw [← HW.out]; (with_reducible refine Calls.mono HCH.out ?_); rintro r w2 ⟨A, c, rfl, hlc, hb2, hsl, -⟩; have HK := hide (HF0.out.below hb2 HF0.out.lt); have d0 := HK.out.cell 0; have d1 := HK.out.cell 1; have e0 := HK.out.frozen 0; have e1 := HK.out.frozen 1; have HB := hide (HB0.out.trans (hb2.mono HB0.out.size)); clear hb2 hsl)
        refine bodyPost_ret (results_tmp_cell rfl _ _ w.heap.size 40 _ (0, 0) _ rfl ((HK.out.set_ 0 _).set_ 1 _) Tryd.underlying40 rfl (by kernel_rfl)) rfl ?_
        exact ⟨by rw [HR.out]; rfl, (HB.out.setCell (Nat.le_refl _) _).setCell (Nat.le_refl _) _⟩
      · have q2 : (L.length : Int) < at_ := hr.resolve_left q1
        clear hr
        go_enter Tryd.func19, Tryd.ntmps19
        go_wp2_with (go_at_call 43; rw [← HW.out]; (with_reducible refine Calls.mono HCH.out ?_); rintro r w2 ⟨A, c, rfl, hlc, hb2, hsl, -⟩; have HK := hide (HF0.out.below hb2 HF0.out.lt); have d0 := HK.out.cell 0; have d1 := HK.out.cell 1; have e0 := HK.out.frozen 0; have e1 := HK.out.frozen 1; have HB := hide (HB0.out.trans (hb2.mono HB0.out.size)); clear hb2 hsl)
        refine bodyPost_ret (results_tmp_cell rfl _ _ w.heap.size 40 _ (0, 0) _ rfl ((HK.out.set_ 0 _).set_ 1 _) Tryd.underlying40 rfl (by kernel_rfl)) rfl ?_
        exact ⟨by rw [HR.out]; rfl, (HB.out.setCell (Nat.le_refl _) _).setCell (Nat.le_refl _) _⟩
    · obtain ⟨i0, rfl⟩ : ∃ i0 : Nat, at_ = (i0 : Int) := ⟨at_.toNat, by omega⟩
      have hi0 : i0 ≤ L.length := by omega
      have q1 : decide ((i0 : Int) < 0) = false := by simp
      have q2 : decide ((L.length : Int) < (i0 : Int)) = false := by simp; omega
      have q3 : decide (L.length < i0) = false := by simp; omega
      obtain ⟨R, hR⟩ : ∃ R, sexps T L n i0 = R := ⟨_, rfl⟩
      have HR := hide (show sexpsR T s i0 n = R by unfold sexpsR; rw [hc]; simp only []; rw [if_neg hr, Int.toNat_natCast]; exact hR)
      have HRR := hide hR
      have HT := hide h
      clear h h1 hT hT1 hw1 hb0 hf0 hc hr hR
      go_enter Tryd.func19, Tryd.ntmps19
      go_wp2_with (go_at_call 43; rw [← HW.out]; (with_reducible refine Calls.mono HCH.out ?_); rintro r w2 ⟨A, c, rfl, hlc, hb2, hsl, -⟩; have HX := hide (show XSt w (w2.alloc (.cells #[.int .i64 0, .int .i64 0] 40)) w2.heap.size (.slice A L.length c) L from ⟨(HB0.out.trans (hb2.mono HB0.out.size)).alloc (HB0.out.trans (hb2.mono HB0.out.size)).size _, (HF0.out.below hb2 HF0.out.lt).alloc _, Blk.new _ _ _, hsl.alloc _, (HF0.out.below hb2 HF0.out.lt).lt⟩); clear hb2 hsl)
      have HLC := hide hlc
      go_loopw [2, 3] (fun t nv wr => ∃ (i : Nat) (m : Int), t = .int .i64 (i : Int) ∧ nv = .int .i64 m ∧ i ≤ L.length ∧ -1000000 ≤ m ∧ m ≤ 1000000 ∧ sexps T L m i = R ∧ XSt w wr w2.heap.size (.slice A L.length c) L) (fun _ nv _ => (intOf nv).toNat)
      case atStart => exact ⟨i0, n, rfl, rfl, hi0, hn, hn2, HRR.out, HX.out⟩
      case round =>
        obtain ⟨i, m, rfl, rfl, hi, hm1, hm2, he, hx⟩ := hrel
        have HI := hide hx
        have HE := hide he
        clear he
        by_cases hm : 0 < m
        · have hf := forward_any (hx.scan HT.out hl) hi
          have hmore := fwd1_more (L := L) HT.out.ok hi
          have hpos := HE.out
          rw [sexps_pos hm] at hpos
          obtain ⟨⟨r1, e, f⟩, hr⟩ : ∃ x, fwd1 T L i = x := ⟨_, rfl⟩
          rw [hr] at hf hmore hpos
          simp only [ansV, scanV] at hf hmore hpos
          have HFW := hide hf
          by_cases e0 : e = 0
          · obtain ⟨h3, h4, rfl⟩ := hmore e0
            rw [if_pos e0] at hpos
            subst e0
            have HPO := hide hpos
            clear hf hmore hr hpos hx
            go_wp2_with (go_at_call 47; (with_reducible refine Calls.mono HFW.out ?_); rintro r w3 ⟨rfl, hb3⟩; have HK := hide (HI.out.below hb3); have d0 := HK.out.a0; have d1 := HK.out.a1; have g0 := HK.out.b0; have g1 := HK.out.b1; obtain ⟨c0, c1, c2, c3, c4, c5⟩ := HK.out.cells (.int .i64 0) (.int .i64 0); clear hb3)
            go_roundw
            case rel => exact ⟨r1, m - 1, rfl, rfl, h4, by omega, by omega, HPO.out, HK.out.put0⟩
            case measure => simp [intOf]; omega
          · rw [if_neg e0] at hpos
            have HPO := hide hpos
            have y1 : (e != 0) = true := by simpa using e0
            have y2 : (e == 0) = false := by simpa using e0
            clear hf hmore hr hpos hx
            go_wp2_with (go_at_call 47; (with_reducible refine Calls.mono HFW.out ?_); rintro r w3 ⟨rfl, hb3⟩; have HK := hide (HI.out.below hb3); have d0 := HK.out.a0; have d1 := HK.out.a1; have g0 := HK.out.b0; have g1 := HK.out.b1; obtain ⟨c0, c1, c2, c3, c4, c5⟩ := HK.out.cells (.int .i64 e) (.int .i64 f); clear hb3)
            go_region
            all_goals go_wp2
            all_goals refine bodyPost_ret (results_tmp_cell rfl _ _ w.heap.size 40 _ (0, 0) _ rfl (HK.out.fin _ _ _ _).1 Tryd.underlying40 rfl (by kernel_rfl)) rfl ?_
            all_goals exact ⟨by rw [HR.out, ← HPO.out]; rfl, (HK.out.fin _ _ _ _).2.drew⟩
        · clear hx
          have y0 : decide (0 < m) = false := by simpa using hm
          go_wp2
          go_loopw [2, 3] (fun t nv wr => ∃ (i : Nat) (m : Int), t = .int .i64 (i : Int) ∧ nv = .int .i64 m ∧ i ≤ L.length ∧ -1000000 ≤ m ∧ m ≤ 0 ∧ sexps T L m i = R ∧ XSt w wr w2.heap.size (.slice A L.length c) L) (fun _ nv _ => (-(intOf nv)).toNat)
          case atStart => exact ⟨i, m, rfl, rfl, hi, hm1, by omega, HE.out, HI.out⟩
          case round =>
            clear hm1 hm2 hm hi y0 HI HE
            obtain ⟨i, m, rfl, rfl, hi, hm1, hm2, he, hx⟩ := hrel
            have HI := hide hx
            have HE := hide he
            clear he
            by_cases hm : m < 0
            · have hf := back_any (hx.scanTo HT.out hl rfl hi)
              have hmore := bck1_less (L := L.take i) HT.out.ok
              have hpos := HE.out
              rw [sexps_neg hm] at hpos
              rw [take_len hi] at hmore
              obtain ⟨⟨r1, e, f⟩, hr⟩ : ∃ x, bck1 T (L.take i) = x := ⟨_, rfl⟩
              rw [hr] at hf hmore hpos
              simp only [ansV, scanV] at hf hmore hpos
              have HFW := hide hf
              have z1 : (i : Int) ≤ (c : Int) := by have := HLC.out; omega
              by_cases e0 : e = 0
              · obtain ⟨h3, rfl⟩ := hmore e0
                rw [if_pos e0] at hpos
                subst e0
                have HPO := hide hpos
                clear hf hmore hr hpos hx
                go_wp2_with (go_at_call 48; (with_reducible refine Calls.mono HFW.out ?_); rintro r w3 ⟨rfl, hb3⟩; have HK := hide (HI.out.below hb3); have d0 := HK.out.a0; have d1 := HK.out.a1; have g0 := HK.out.b0; have g1 := HK.out.b1; obtain ⟨c0, c1, c2, c3, c4, c5⟩ := HK.out.cells (.int .i64 0) (.int .i64 0); clear hb3)
                go_roundw
                case rel => exact ⟨r1, m + 1, rfl, rfl, by omega, by omega, by omega, HPO.out, HK.out.put0⟩
                case measure => simp [intOf]; omega
              · rw [if_neg e0] at hpos
                have HPO := hide hpos
                have y1 : (e != 0) = true := by simpa using e0
                have y2 : (e == 0) = false := by simpa using e0
                clear hf hmore hr hpos hx
                go_wp2_with (go_at_call 48; (with_reducible refine Calls.mono HFW.out ?_); rintro r w3 ⟨rfl, hb3⟩; have HK := hide (HI.out.below hb3); have d0 := HK.out.a0; have d1 := HK.out.a1; have g0 := HK.out.b0; have g1 := HK.out.b1; obtain ⟨c0, c1, c2, c3, c4, c5⟩ := HK.out.cells (.int .i64 e) (.int .i64 f); clear hb3)
                go_region
                all_goals go_wp2
                all_goals refine bodyPost_ret (results_tmp_cell rfl _ _ w.heap.size 40 _ (0, 0) _ rfl (HK.out.fin _ _ _ _).1 Tryd.underlying40 rfl (by kernel_rfl)) rfl ?_
                all_goals exact ⟨by rw [HR.out, ← HPO.out]; rfl, (HK.out.fin _ _ _ _).2.drew⟩
            · have hm0 : m = 0 := by omega
              have hpos := HE.out
              rw [hm0, show sexps T L 0 i = (i, 0, 0) from rfl] at hpos
              have HPO := hide hpos
              have y0 : decide (m < 0) = false := by simpa using hm
              have d0 := hx.d0
              have d1 := hx.d1
              have d2 := hx.e0
              have d3 := hx.e1
              clear hm hm0 hpos hx
              go_wp2
              refine bodyPost_ret (results_tmp_cell rfl _ _ w.heap.size 40 _ (0, 0) _ rfl (HI.out.fin1 _ _).1 Tryd.underlying40 rfl (by kernel_rfl)) rfl ?_
              exact ⟨by rw [HR.out, ← HPO.out]; rfl, (HI.out.fin1 _ _).2⟩
end
end Go.Proofs.YtdojcgefiekleaaDoor
