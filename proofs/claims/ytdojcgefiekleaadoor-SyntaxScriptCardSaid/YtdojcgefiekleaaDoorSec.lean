/- The reference's table read: in, Word, of, find, Class, Mate. No condition but those written. -/
import Derived.Test.YtdojcgefiekleaaDoorScm
import Derived.Laws.Rows
import Derived.RegionTactic
namespace Go.Proofs.YtdojcgefiekleaaDoor
open Go.RowKit

theorem below_box (w : World) (o : Obj) : Below w.heap.size w (w.alloc o) := (Below.refl _ w).alloc (Nat.le_refl _) _
theorem cell_keep {w w' : World} {p : Addr} {u : Value} (h : w.cell? p = some u) (hb : Below w.heap.size w w') : w'.cell? p = some u := (hb.cell (World.block_lt_of_cell? _ _ h)).trans h
/-! ### Ranges -/
def flat2 (l : List (Int × Int)) : List Value := l.flatMap fun p => [.int .i64 p.1, .int .i64 p.2]
theorem flat2_at : ∀ (l : List (Int × Int)) (k : Nat) (p : Int × Int), l[k]? = some p → (flat2 l)[2 * k]? = some (.int .i64 p.1) ∧ (flat2 l)[2 * k + 1]? = some (.int .i64 p.2)
  | [], _, _, h => by simp at h
  | q :: l, 0, p, h => by
      obtain rfl : q = p := by simpa using h
      exact ⟨rfl, rfl⟩
  | q :: l, k + 1, p, h => by
      have := flat2_at l k p (by simpa using h)
      rw [show 2 * (k + 1) = (2 * k) + 1 + 1 by omega]
      exact this
theorem inSpans_take {l : List (Int × Int)} {k : Nat} {p : Int × Int} {c : Int} (h : l[k]? = some p) : inSpans c (l.take (k + 1)) = (inSpans c (l.take k) || decide (p.1 ≤ c ∧ c ≤ p.2)) := by
  unfold inSpans
  rw [List.take_add_one, h, List.any_append]
  simp
theorem inSpans_hit {l : List (Int × Int)} {k : Nat} {p : Int × Int} {c : Int} (h : l[k]? = some p) (h1 : p.1 ≤ c) (h2 : c ≤ p.2) : inSpans c l = true := by
  unfold inSpans
  rw [List.any_eq_true]
  exact ⟨p, List.mem_of_getElem? h, by simpa using ⟨h1, h2⟩⟩
set_option maxRecDepth 100000 in
set_option maxHeartbeats 4000000 in
theorem rin_any (c : Int) (l : List (Int × Int)) (v : Value) (w : World) (hr : Rd w v 1 (2 * l.length) (flat2 l)) (hl : l.length ≤ 1000) : Calls Tryd.prog 91 #[.int .i64 c, v] w fun e w' => e = .returned (.bool (inSpans c l)) ∧ w = w' := by
  obtain ⟨A, cp, rfl, h1, h2⟩ := hr
  obtain ⟨n, hn⟩ : ∃ n, n = l.length := ⟨_, rfl⟩
  rw [← hn] at hl h2 ⊢
  have HN := hide hn
  have HC := hide h2
  have hn9 : (n : Int) ≤ 1000 := by omega
  clear hn h1 h2
  obtain ⟨m, hm⟩ : ∃ m, 2 * n = m := ⟨_, rfl⟩
  rw [hm] at HC ⊢
  have hm9 : (m : Int) ≤ 2000 := by omega
  have HM := hide hm
  clear hm
  go_enter Tryd.func91, Tryd.ntmps91
  go_wp2_with fail
  go_loopw [5] (fun iv wr => ∃ (k i : Nat), iv = .int .i64 (i : Int) ∧ i = 2 * k ∧ k ≤ n ∧ inSpans c (l.take k) = false ∧ w = wr) (fun iv _ => m - (intOf iv).toNat)
  case atStart => exact ⟨0, 0, rfl, rfl, Nat.zero_le _, rfl, rfl⟩
  case round =>
    obtain ⟨k, i, rfl, hi, hk, hs, rfl⟩ := hrel
    have HI := hide hi
    have HS := hide hs
    have hi9 : (i : Int) ≤ 2000 := by omega
    have wi : IntKind.i64.wrap ((i : Int) + 1) = ((i + 1 : Nat) : Int) := by rw [IntWalk.i64_in _ (by omega)]; omega
    by_cases hlt : k < n
    · have z0 : decide (i + 1 < m) = true := by have := HM.out; simp; omega
      have z1 : decide (((i + 1 : Nat) : Int) < (m : Int)) = true := by have := HM.out; simp; omega
      have z2 : ((i + 1 : Nat) : Int) < (m : Int) := by have := HM.out; omega
      have y0 : decide (i < m) = true := by have := HM.out; simp; omega
      have y1 : decide ((i : Int) < (m : Int)) = true := by have := HM.out; simp; omega
      have y2 : (i : Int) < (m : Int) := by have := HM.out; omega
      obtain ⟨⟨a, b⟩, hx⟩ : ∃ p, l[k]? = some p := ⟨_, List.getElem?_eq_getElem (by have := HN.out; omega)⟩
      obtain ⟨g, off, rfl, hcell⟩ := HC.out (by have := HM.out; omega)
      have hfl := flat2_at l k _ hx
      have d0 : w.cell? ⟨g, off + i, none⟩ = some (.int .i64 a) := by
        have := hcell (2 * k) _ hfl.1
        rw [HI.out]
        exact this
      have d1 : w.cell? ⟨g, off + (i + 1), none⟩ = some (.int .i64 b) := by
        have := hcell (2 * k + 1) _ hfl.2
        rw [HI.out]
        exact this
      have HX := hide hx
      have HLT := hide hlt
      clear hi hk hs hlt hx hcell hfl
      by_cases ha : a ≤ c
      · have q0 : decide (a ≤ c) = true := by simpa using ha
        by_cases hb : c ≤ b
        · have q1 : decide (c ≤ b) = true := by simpa using hb
          have HE := hide (inSpans_hit HX.out ha hb)
          clear ha hb
          go_wp2_with fail
          go_ret
          exact ⟨by rw [HE.out]; rfl, rfl⟩
        · have q1 : decide (c ≤ b) = false := by simpa using hb
          have HE := hide (show inSpans c (l.take (k + 1)) = false by rw [inSpans_take HX.out, HS.out]; simp; omega)
          clear ha
          have HB := hide hb
          clear hb
          go_wp2_with fail
          go_roundw
          case rel => exact ⟨k + 1, i + 2, by go_num, by have := HI.out; omega, HLT.out, HE.out, trivial⟩
          case measure => have := HM.out; have := HI.out; have := HLT.out; simp [intOf]; omega
      · have q0 : decide (a ≤ c) = false := by simpa using ha
        have HE := hide (show inSpans c (l.take (k + 1)) = false by rw [inSpans_take HX.out, HS.out]; simp; omega)
        have HB := hide ha
        clear ha
        go_wp2_with fail
        go_roundw
        case rel => exact ⟨k + 1, i + 2, by go_num, by have := HI.out; omega, HLT.out, HE.out, trivial⟩
        case measure => have := HM.out; have := HI.out; have := HLT.out; simp [intOf]; omega
    · have z0 : decide (i + 1 < m) = false := by have := HM.out; simp; omega
      have z1 : decide (((i + 1 : Nat) : Int) < (m : Int)) = false := by have := HM.out; simp; omega
      have z2 : ¬ ((i + 1 : Nat) : Int) < (m : Int) := by have := HM.out; omega
      have HE := hide (show inSpans c l = false by
        have : l.take k = l := List.take_of_length_le (by have := HN.out; omega)
        rw [← this]
        exact HS.out)
      clear hi hk hs hlt
      go_wp2_with fail
      go_ret
      exact ⟨by rw [HE.out]; rfl, rfl⟩
theorem wordSpans_len : wordSpans.length = 18 := by decide
set_option maxRecDepth 100000 in
set_option maxHeartbeats 4000000 in
theorem rword_any (c : Int) (w : World) : Calls Tryd.prog 86 #[.int .i64 c] w fun e w' => e = .returned (.bool (isWord c)) ∧ Below w.heap.size w w' := by
  have hrow := rd_row w 3 1 (flat2 wordSpans).toArray 36 (flat2 wordSpans) (by simp) (by decide) (by unfold maxLen; omega)
  have HIN := hide (rin_any c wordSpans _ _ hrow (by decide))
  have HB := hide (below_box w (.cells (flat2 wordSpans).toArray 3))
  clear hrow
  go_enter Tryd.func86, Tryd.ntmps86
  go_wp2_with (go_at_call 91; (refine Calls.mono HIN.out ?_); rintro e w' ⟨rfl, rfl⟩)
  go_ret
  exact ⟨rfl, HB.out⟩
/-! ### An index in a short text -/
def ofZ : List Nat → Int → Int
  | [], _ => -1
  | x :: l, c => if (x : Int) = c then 0 else if ofZ l c < 0 then -1 else ofZ l c + 1
theorem ofZ_miss : ∀ {l : List Nat} {c : Int}, (∀ x ∈ l, (x : Int) ≠ c) → ofZ l c = -1
  | [], _, _ => rfl
  | x :: l, c, h => by
      unfold ofZ
      rw [if_neg (h x (by simp)), ofZ_miss (fun y hy => h y (by simp [hy]))]
      rfl
theorem ofZ_at : ∀ {l : List Nat} {c : Int} {k x : Nat}, l[k]? = some x → (x : Int) = c → (∀ y ∈ l.take k, (y : Int) ≠ c) → ofZ l c = (k : Int)
  | [], _, _, _, h, _, _ => by simp at h
  | y :: l, c, 0, x, h, e, _ => by
      obtain rfl : y = x := by simpa using h
      unfold ofZ
      rw [if_pos e]
      rfl
  | y :: l, c, k + 1, x, h, e, hm => by
      have := ofZ_at (l := l) (k := k) (by simpa using h) e (fun z hz => hm z (by simp [hz]))
      unfold ofZ
      rw [if_neg (hm y (by simp)), this, if_neg (by omega)]
      omega
theorem ofZ_hit : ∀ {l : List Nat} {c : Int}, c.toNat ∈ l → 0 ≤ c → 0 ≤ ofZ l c
  | [], _, h, _ => by simp at h
  | x :: l, c, h, h0 => by
      unfold ofZ
      by_cases e : (x : Int) = c
      · rw [if_pos e]
        omega
      · rw [if_neg e]
        have hm : c.toNat ∈ l := by
          rcases List.mem_cons.1 h with h | h
          · exact absurd (by omega) e
          · exact h
        have := ofZ_hit hm h0
        rw [if_neg (by omega)]
        omega
def strB (s : ByteArray) : List Nat := s.data.toList.map UInt8.toNat
set_option maxRecDepth 100000 in
set_option maxHeartbeats 4000000 in
theorem of_any (s : ByteArray) (c : Int) (hs : s.size ≤ 1000) (w : World) : Calls Tryd.prog 85 #[.string s, .int .i64 c] w fun e w' => e = .returned (.int .i64 (ofZ (strB s) c)) ∧ w = w' := by
  have hs9 : (s.size : Int) ≤ 1000 := by omega
  obtain ⟨n, hn⟩ : ∃ n, n = s.size := ⟨_, rfl⟩
  have HL := hide (show (strB s).length = n by rw [hn]; simp [strB])
  have hn9 : (n : Int) ≤ 1000 := by omega
  have HN := hide hn
  clear hs
  go_enter Tryd.func85, Tryd.ntmps85
  go_wp2_with fail
  go_loopw [5] (fun iv wr => ∃ k : Nat, iv = .int .i64 (k : Int) ∧ k ≤ s.size ∧ (∀ y ∈ (strB s).take k, (y : Int) ≠ c) ∧ w = wr) (fun iv _ => s.size - (intOf iv).toNat)
  case atStart => exact ⟨0, rfl, Nat.zero_le _, by simp, rfl⟩
  case round =>
    obtain ⟨k, rfl, hk, hm, rfl⟩ := hrel
    have HM := hide hm
    have hk9 : (k : Int) ≤ 1000 := by omega
    by_cases hlt : k < s.size
    · have z0 : decide (k < s.size) = true := by simpa using hlt
      have z1 : decide ((k : Int) < (s.size : Int)) = true := by simp; omega
      have z2 : (k : Int) < (s.size : Int) := by omega
      obtain ⟨x, hx⟩ : ∃ x, (strB s)[k]? = some x := ⟨_, List.getElem?_eq_getElem (by rw [HL.out, HN.out]; exact hlt)⟩
      have hb : (s[k]'hlt).toNat = x := by
        have h2 := hx
        unfold strB at h2
        rw [List.getElem?_map, Option.map_eq_some_iff] at h2
        obtain ⟨y, hy, e⟩ := h2
        rw [← e]
        congr 1
        obtain ⟨h3, h4⟩ := List.getElem?_eq_some_iff.1 hy
        rw [← h4]
        rfl
      have hx8 : x ≤ 255 := by have h9 := (s[k]'hlt).toNat_lt; rw [hb] at h9; omega
      have hx9 : (x : Int) ≤ 255 := by omega
      have HX := hide hx
      have HLT := hide hlt
      by_cases he : (x : Int) = c
      · have q0 : ((x : Int) == c) = true := by simpa using he
        have q1 : decide ((x : Int) = c) = true := by simpa using he
        have HE := hide (ofZ_at HX.out he HM.out)
        clear hk hm hx hn
        have HEQ := hide he
        clear he
        go_wp2_with fail
        go_ret
        exact ⟨by rw [HE.out]; rfl, rfl⟩
      · have q0 : ((x : Int) == c) = false := by simpa using he
        have q1 : decide ((x : Int) = c) = false := by simpa using he
        have HEQ := hide he
        clear hk hm hx hn he
        go_wp2_with fail
        go_roundw
        case rel => exact ⟨k + 1, by go_num, HLT.out, fun y hy => by
          rw [List.take_add_one, HX.out] at hy
          rcases List.mem_append.1 hy with hy | hy
          · exact HM.out y hy
          · obtain rfl : y = x := by simpa using hy
            exact HEQ.out, trivial⟩
        case measure => have := HLT.out; simp [intOf]; omega
    · have z0 : decide (k < s.size) = false := by simpa using hlt
      have z1 : decide ((k : Int) < (s.size : Int)) = false := by simp; omega
      have z2 : ¬ (k : Int) < (s.size : Int) := by omega
      have HE := hide (ofZ_miss (l := strB s) (c := c) (by
        have e : (strB s).take k = strB s := List.take_of_length_le (by rw [HL.out, HN.out]; omega)
        rw [← e]
        exact hm))
      clear hk hm hn hlt
      go_wp2_with fail
      go_ret
      exact ⟨by rw [HE.out]; rfl, rfl⟩
/-! ### The table -/
/-- The reference's table holds this table's rules. -/
def RT (w : World) (r : Nat) (T : Tb) : Prop := ∃ v l, Blk w r 89 #[.bool T.lisp, v] ∧ Sl w 84 3 v l.length (rows clE l) ∧ T.own = l.reverse ∧ l.length ≤ 1000 ∧ T.Ok
theorem RT.below {w w' : World} {r : Nat} {T : Tb} (h : RT w r T) (hb : Below w.heap.size w w') : RT w' r T := by
  obtain ⟨v, l, h1, h2, h3, h4, h5⟩ := h
  exact ⟨v, l, h1.below hb h1.lt, h2.only (Only.of_below (F := fun _ => False) hb) fun _ _ f => f, h3, h4, h5⟩
theorem pick_none {c : Int} {l : List (Int × Int × Int)} (h : ∀ x ∈ l, x.1 ≠ c) : pick c l = none := by
  unfold pick
  rw [List.find?_eq_none.2 (fun x hx => by simpa using h x hx)]
  rfl
theorem none_pick {c : Int} {l : List (Int × Int × Int)} (h : pick c l = none) : ∀ x ∈ l, x.1 ≠ c := by
  unfold pick at h
  rw [Option.map_eq_none_iff, List.find?_eq_none] at h
  exact fun x hx => by simpa using h x hx
theorem pick_last {c : Int} {l : List (Int × Int × Int)} {j : Nat} {x : Int × Int × Int} (hx : l[j]? = some x) (hc : x.1 = c) (hl : ∀ i y, j < i → l[i]? = some y → y.1 ≠ c) : pick c l.reverse = some x.2 := by
  have hj := (List.getElem?_eq_some_iff.1 hx).1
  have e : l.reverse = (l.drop (j + 1)).reverse ++ x :: (l.take j).reverse := by
    conv => lhs; rw [← List.take_append_drop j l]
    rw [List.drop_eq_getElem_cons hj, (List.getElem?_eq_some_iff.1 hx).2]
    simp
  unfold pick
  rw [e, List.find?_append, List.find?_eq_none.2 (fun y hy => by
    have hy2 := List.mem_reverse.1 hy
    obtain ⟨i, hi⟩ := List.mem_iff_getElem?.1 hy2
    rw [List.getElem?_drop] at hi
    simpa using hl _ y (by omega) hi), List.find?_cons_of_pos (by simpa using hc)]
  rfl
theorem ent_out2 {T : Tb} {c : Int} (h : isCh c = false) : T.cl c = 0 ∧ T.mate c = 0 := by
  unfold Tb.cl Tb.mate Tb.ent
  rw [h]
  exact ⟨rfl, rfl⟩
theorem ent_mine {T : Tb} {c : Int} {x : Int × Int} (h : isCh c = true) (hp : pick c T.own = some x) : T.cl c = x.1 ∧ T.mate c = x.2 := by
  unfold Tb.cl Tb.mate Tb.ent
  rw [h, hp]
  exact ⟨rfl, rfl⟩
theorem ent_plain {T : Tb} {c : Int} {k m : Int} (h : isCh c = true) (hp : pick c T.own = none) (hl : T.lisp = false) (e : plainE c = (k, m)) : T.cl c = k ∧ T.mate c = m := by
  unfold Tb.cl Tb.mate Tb.ent
  rw [h, hp, hl]
  simp [e]
theorem ent_lisp {T : Tb} {c : Int} {k m : Int} (h : isCh c = true) (hp : pick c T.own = none) (hl : T.lisp = true) (e : lispE c = (k, m)) : T.cl c = k ∧ T.mate c = m := by
  unfold Tb.cl Tb.mate Tb.ent
  rw [h, hp, hl]
  simp [e]
set_option maxRecDepth 100000 in
set_option maxHeartbeats 16000000 in
theorem find_out {w : World} {r : Nat} {T : Tb} {c : Int} (h : RT w r T) (hch : isCh c = false) : Calls Tryd.prog 67 #[.pointer (some ⟨r, 0, none⟩), .int .i64 c] w fun e w' => e = .returned (.agg #[.int .i64 c, .int .i64 (T.cl c), .int .i64 (T.mate c)]) ∧ Below w.heap.size w w' := by
  obtain ⟨v, l, hb, hs, hown, hll, hok⟩ := h
  obtain ⟨A, cp, rfl, _⟩ := hs.form
  have HNO := hide (show ∀ x ∈ l, x.1 ≠ c from fun x hx e => by
    have := (hok x (by rw [hown]; exact List.mem_reverse.2 hx)).1
    rw [e, hch] at this
    cases this)
  obtain ⟨n, hn⟩ : ∃ n, n = l.length := ⟨_, rfl⟩
  have hb0 := below_box w (.cells #[.int .i64 0, .int .i64 0, .int .i64 0] 84)
  have HBX := hide hb0
  have HRES := hide (Blk.new w 84 #[.int .i64 0, .int .i64 0, .int .i64 0])
  have hb1 := hb.below hb0 hb.lt
  have HBB := hide hb1
  rw [← hn] at hs hll hb1 HBB
  have HRD := hide (show Rd (w.alloc (.cells #[.int .i64 0, .int .i64 0, .int .i64 0] 84)) (.slice A n cp) 3 n (rows clE l) from (Sl.rd hs).belowN hb0)
  have hn9 : (n : Int) ≤ 1000 := by omega
  have HN := hide hn
  have wn : IntKind.i64.wrap ((n : Int) - 1) = (n : Int) - 1 := IntWalk.i64_in _ (by omega)
  have i1 := hb1.cell 1
  obtain ⟨w1, hw1⟩ : ∃ y : World, y = w.alloc (.cells #[.int .i64 0, .int .i64 0, .int .i64 0] 84) := ⟨_, rfl⟩
  have HW1 := hide hw1
  rw [← hw1] at HBX HRES HBB HRD
  have t0 := HRES.out.frozen 0
  have t1 := HRES.out.frozen 1
  have t2 := HRES.out.frozen 2
  have t3 := HRES.out.cell 0
  have t4 := HRES.out.cell 1
  have t5 := HRES.out.cell 2
  have b0 := HBB.out.cell 0
  have b1 := HBB.out.cell 1
  clear hs hn hb0 hb hb1 hown hok hll hw1
  have HCH := hide hch
  have HE := hide (ent_out2 (T := T) hch)
  clear hch
  go_enter Tryd.func67, Tryd.ntmps67
  go_wp2_with fail
  go_loopw [5] (fun iv wr => ∃ k : Nat, iv = .int .i64 ((k : Int) - 1) ∧ k ≤ n ∧ w1 = wr) (fun iv _ => (intOf iv + 1).toNat)
  case atStart => exact ⟨n, rfl, Nat.le_refl _, HW1.out⟩
  case round =>
    clear i1
    obtain ⟨k, rfl, hk, rfl⟩ := hrel
    by_cases hp : 0 < k
    · obtain ⟨j, rfl⟩ : ∃ j, k = j + 1 := ⟨k - 1, by omega⟩
      rw [show (((j + 1 : Nat) : Int) - 1) = (j : Int) by omega]
      have hj9 : (j : Int) ≤ 1000 := by omega
      have wj : IntKind.i64.wrap ((j : Int) - 1) = (j : Int) - 1 := IntWalk.i64_in _ (by omega)
      have z0 : decide ((0 : Int) ≤ (j : Int)) = true := by simp
      have y0 : decide (j < n) = true := by simp; omega
      have y1 : decide ((j : Int) < (n : Int)) = true := by simp; omega
      have y2 : (j : Int) < (n : Int) := by omega
      obtain ⟨⟨xc, xk, xm⟩, hx⟩ : ∃ x, l[j]? = some x := ⟨_, List.getElem?_eq_getElem (by have := HN.out; omega)⟩
      obtain ⟨g, off, rfl, hc⟩ := HRD.out.cells (by omega)
      have d0 : w1.cell? ⟨g, off + j * 3, none⟩ = some (.int .i64 xc) := hc _ _ ((rows_at clE_len l j 0 _ hx (by omega)).trans rfl)
      have hne := HNO.out _ (List.mem_of_getElem? hx)
      have q0 : (xc == c) = false := by simpa using hne
      have HJ := hide (show j + 1 ≤ n from hk)
      clear hk hp hx hc hne
      go_wp2_with fail
      go_roundw
      case rel => exact ⟨j, rfl, by have := HJ.out; omega, trivial⟩
      case measure => simp [intOf]
    · obtain rfl : k = 0 := by omega
      rw [show ((0 : Nat) : Int) - 1 = -1 by omega]
      clear hk hp
      go_wp2_with (first | (go_at_call 70; refine (char_any _ _).mono ?_; rintro e w' ⟨rfl, rfl⟩; rw [HCH.out]))
      refine bodyPost_ret (results_cell_row rfl _ _ w.heap.size 84 #[.int .i64 c, .int .i64 (0), .int .i64 (0)] (0, 0) _ rfl (((HRES.out.set_ 0 _).set_ 1 _).set_ 2 _) Tryd.underlying84 rfl (by kernel_rfl)) rfl ?_
      exact ⟨by rw [HE.out.1, HE.out.2], ((HBX.out.setCell (p := ⟨w.heap.size, 0, none⟩) (Nat.le_refl _) _).setCell (p := ⟨w.heap.size, 1, none⟩) (Nat.le_refl _) _).setCell (p := ⟨w.heap.size, 2, none⟩) (Nat.le_refl _) _⟩
set_option maxRecDepth 100000 in
set_option maxHeartbeats 16000000 in
theorem find_own {w : World} {r : Nat} {T : Tb} {c : Int} (h : RT w r T) {x : Int × Int} (hch : isCh c = true) (hp : pick c T.own = some x) : Calls Tryd.prog 67 #[.pointer (some ⟨r, 0, none⟩), .int .i64 c] w fun e w' => e = .returned (.agg #[.int .i64 c, .int .i64 (T.cl c), .int .i64 (T.mate c)]) ∧ Below w.heap.size w w' := by
  obtain ⟨v, l, hb, hs, hown, hll, hok⟩ := h
  obtain ⟨A, cp, rfl, _⟩ := hs.form
  have HPL := hide (show pick c l.reverse = some x by rw [← hown]; exact hp)
  have HE := hide (ent_mine hch hp)
  obtain ⟨n, hn⟩ : ∃ n, n = l.length := ⟨_, rfl⟩
  have hb0 := below_box w (.cells #[.int .i64 0, .int .i64 0, .int .i64 0] 84)
  have HBX := hide hb0
  have HRES := hide (Blk.new w 84 #[.int .i64 0, .int .i64 0, .int .i64 0])
  have hb1 := hb.below hb0 hb.lt
  have HBB := hide hb1
  rw [← hn] at hs hll hb1 HBB
  have HRD := hide (show Rd (w.alloc (.cells #[.int .i64 0, .int .i64 0, .int .i64 0] 84)) (.slice A n cp) 3 n (rows clE l) from (Sl.rd hs).belowN hb0)
  have hn9 : (n : Int) ≤ 1000 := by omega
  have HN := hide hn
  have wn : IntKind.i64.wrap ((n : Int) - 1) = (n : Int) - 1 := IntWalk.i64_in _ (by omega)
  have i1 := hb1.cell 1
  obtain ⟨w1, hw1⟩ : ∃ y : World, y = w.alloc (.cells #[.int .i64 0, .int .i64 0, .int .i64 0] 84) := ⟨_, rfl⟩
  have HW1 := hide hw1
  rw [← hw1] at HBX HRES HBB HRD
  have t0 := HRES.out.frozen 0
  have t1 := HRES.out.frozen 1
  have t2 := HRES.out.frozen 2
  have t3 := HRES.out.cell 0
  have t4 := HRES.out.cell 1
  have t5 := HRES.out.cell 2
  have b0 := HBB.out.cell 0
  have b1 := HBB.out.cell 1
  clear hs hn hb0 hb hb1 hown hok hll hw1
  clear hch hp
  go_enter Tryd.func67, Tryd.ntmps67
  go_wp2_with fail
  go_loopw [5] (fun iv wr => ∃ k : Nat, iv = .int .i64 ((k : Int) - 1) ∧ k ≤ n ∧ (∀ (i : Nat) (y : Int × Int × Int), k ≤ i → l[i]? = some y → y.1 ≠ c) ∧ w1 = wr) (fun iv _ => (intOf iv + 1).toNat)
  case atStart => exact ⟨n, rfl, Nat.le_refl _, fun i y hi hy => by
    have := (List.getElem?_eq_some_iff.1 hy).1
    have := HN.out
    omega, HW1.out⟩
  case round =>
    clear i1
    obtain ⟨k, rfl, hk, hla, rfl⟩ := hrel
    by_cases hp : 0 < k
    · obtain ⟨j, rfl⟩ : ∃ j, k = j + 1 := ⟨k - 1, by omega⟩
      rw [show (((j + 1 : Nat) : Int) - 1) = (j : Int) by omega]
      have hj9 : (j : Int) ≤ 1000 := by omega
      have wj : IntKind.i64.wrap ((j : Int) - 1) = (j : Int) - 1 := IntWalk.i64_in _ (by omega)
      have z0 : decide ((0 : Int) ≤ (j : Int)) = true := by simp
      have y0 : decide (j < n) = true := by simp; omega
      have y1 : decide ((j : Int) < (n : Int)) = true := by simp; omega
      have y2 : (j : Int) < (n : Int) := by omega
      obtain ⟨⟨xc, xk, xm⟩, hx⟩ : ∃ x, l[j]? = some x := ⟨_, List.getElem?_eq_getElem (by have := HN.out; omega)⟩
      obtain ⟨g, off, rfl, hc⟩ := HRD.out.cells (by omega)
      have d0 : w1.cell? ⟨g, off + j * 3, none⟩ = some (.int .i64 xc) := hc _ _ ((rows_at clE_len l j 0 _ hx (by omega)).trans rfl)
      have d1 : w1.cell? ⟨g, off + j * 3 + 1, none⟩ = some (.int .i64 xk) := by rw [Nat.add_assoc]; exact hc _ _ ((rows_at clE_len l j 1 _ hx (by omega)).trans rfl)
      have d2 : w1.cell? ⟨g, off + j * 3 + 1 + 1, none⟩ = some (.int .i64 xm) := by rw [Nat.add_assoc, Nat.add_assoc]; exact hc _ _ ((rows_at clE_len l j 2 _ hx (by omega)).trans rfl)
      have HJ := hide (show j + 1 ≤ n from hk)
      have HX := hide hx
      have HLA := hide hla
      by_cases he : xc = c
      · have q0 : (xc == c) = true := by simpa using he
        obtain rfl : (xk, xm) = x := by
          have := pick_last hx he (fun i y hi hy => hla i y (by omega) hy)
          rw [HPL.out] at this
          injection this with this
          exact this.symm
        subst he
        clear hk hp hx hc hla
        go_wp2_with fail
        refine bodyPost_ret (results_cell_row rfl _ _ w.heap.size 84 #[.int .i64 xc, .int .i64 xk, .int .i64 xm] (0, 0) _ rfl (((HRES.out.set_ 0 _).set_ 1 _).set_ 2 _) Tryd.underlying84 rfl (by kernel_rfl)) rfl ?_
        exact ⟨by rw [HE.out.1, HE.out.2], ((HBX.out.setCell (p := ⟨w.heap.size, 0, none⟩) (Nat.le_refl _) _).setCell (p := ⟨w.heap.size, 1, none⟩) (Nat.le_refl _) _).setCell (p := ⟨w.heap.size, 2, none⟩) (Nat.le_refl _) _⟩
      · have q0 : (xc == c) = false := by simpa using he
        have HNE := hide he
        clear hk hp hx hc hla he
        go_wp2_with fail
        go_roundw
        case rel => exact ⟨j, rfl, by have := HJ.out; omega, fun i y hi hy => by
          rcases Nat.lt_or_ge j i with c1 | c1
          · exact HLA.out i y (by omega) hy
          · obtain rfl : i = j := by omega
            rw [HX.out] at hy
            cases hy
            exact HNE.out, trivial⟩
        case measure => simp [intOf]
    · obtain rfl : k = 0 := by omega
      exfalso
      have := pick_none (c := c) (l := l.reverse) (fun y hy => by
        obtain ⟨i, hi⟩ := List.mem_iff_getElem?.1 (List.mem_reverse.1 hy)
        exact hla i y (by omega) hi)
      rw [HPL.out] at this
      cases this
set_option maxRecDepth 100000 in
set_option maxHeartbeats 16000000 in
theorem find_plain {w : World} {r : Nat} {T : Tb} {c : Int} (h : RT w r T) (hch : isCh c = true) (hp : pick c T.own = none) (hl : T.lisp = false) : Calls Tryd.prog 67 #[.pointer (some ⟨r, 0, none⟩), .int .i64 c] w fun e w' => e = .returned (.agg #[.int .i64 c, .int .i64 (T.cl c), .int .i64 (T.mate c)]) ∧ Below w.heap.size w w' := by
  by_cases hsp : c = 9 ∨ c = 10 ∨ c = 12 ∨ c = 13 ∨ c = 32
  · rcases hsp with hc | hc | hc | hc | hc
    · subst hc
      have HCH := hide hch
      have HE := hide (ent_plain hch hp hl (show plainE 9 = (3, 0) from rfl))
      obtain ⟨v, l, hb, hs, hown, hll, hok⟩ := h
      obtain ⟨A, cp, rfl, _⟩ := hs.form
      have HNO := hide (show ∀ x ∈ l, x.1 ≠ 9 from fun x hx => none_pick hp x (by rw [hown]; exact List.mem_reverse.2 hx))
      obtain ⟨n, hn⟩ : ∃ n, n = l.length := ⟨_, rfl⟩
      have hb0 := below_box w (.cells #[.int .i64 0, .int .i64 0, .int .i64 0] 84)
      have HBX := hide hb0
      have HRES := hide (Blk.new w 84 #[.int .i64 0, .int .i64 0, .int .i64 0])
      have hb1 := hb.below hb0 hb.lt
      have HBB := hide hb1
      rw [← hn] at hs hll hb1 HBB
      have HRD := hide (show Rd (w.alloc (.cells #[.int .i64 0, .int .i64 0, .int .i64 0] 84)) (.slice A n cp) 3 n (rows clE l) from (Sl.rd hs).belowN hb0)
      have hn9 : (n : Int) ≤ 1000 := by omega
      have HN := hide hn
      have wn : IntKind.i64.wrap ((n : Int) - 1) = (n : Int) - 1 := IntWalk.i64_in _ (by omega)
      have i1 := hb1.cell 1
      obtain ⟨w1, hw1⟩ : ∃ y : World, y = w.alloc (.cells #[.int .i64 0, .int .i64 0, .int .i64 0] 84) := ⟨_, rfl⟩
      have HW1 := hide hw1
      rw [← hw1] at HBX HRES HBB HRD
      have t0 := HRES.out.frozen 0
      have t1 := HRES.out.frozen 1
      have t2 := HRES.out.frozen 2
      have t3 := HRES.out.cell 0
      have t4 := HRES.out.cell 1
      have t5 := HRES.out.cell 2
      have b0 := HBB.out.cell 0
      have b1 := HBB.out.cell 1
      clear hs hn hb0 hb hb1 hown hok hll hw1
      rw [hl] at b0
      clear hl hp hch
      go_enter Tryd.func67, Tryd.ntmps67
      go_wp2_with fail
      go_loopw [5] (fun iv wr => ∃ k : Nat, iv = .int .i64 ((k : Int) - 1) ∧ k ≤ n ∧ w1 = wr) (fun iv _ => (intOf iv + 1).toNat)
      case atStart => exact ⟨n, rfl, Nat.le_refl _, HW1.out⟩
      case round =>
        clear i1
        obtain ⟨k, rfl, hk, rfl⟩ := hrel
        by_cases hp : 0 < k
        · obtain ⟨j, rfl⟩ : ∃ j, k = j + 1 := ⟨k - 1, by omega⟩
          rw [show (((j + 1 : Nat) : Int) - 1) = (j : Int) by omega]
          have hj9 : (j : Int) ≤ 1000 := by omega
          have wj : IntKind.i64.wrap ((j : Int) - 1) = (j : Int) - 1 := IntWalk.i64_in _ (by omega)
          have z0 : decide ((0 : Int) ≤ (j : Int)) = true := by simp
          have y0 : decide (j < n) = true := by simp; omega
          have y1 : decide ((j : Int) < (n : Int)) = true := by simp; omega
          have y2 : (j : Int) < (n : Int) := by omega
          obtain ⟨⟨xc, xk, xm⟩, hx⟩ : ∃ x, l[j]? = some x := ⟨_, List.getElem?_eq_getElem (by have := HN.out; omega)⟩
          obtain ⟨g, off, rfl, hc⟩ := HRD.out.cells (by omega)
          have d0 : w1.cell? ⟨g, off + j * 3, none⟩ = some (.int .i64 xc) := hc _ _ ((rows_at clE_len l j 0 _ hx (by omega)).trans rfl)
          have hne := HNO.out _ (List.mem_of_getElem? hx)
          have q0 : (xc == 9) = false := by simpa using hne
          have HJ := hide (show j + 1 ≤ n from hk)
          clear hk hp hx hc hne
          go_wp2_with fail
          go_roundw
          case rel => exact ⟨j, rfl, by have := HJ.out; omega, trivial⟩
          case measure => simp [intOf]
        · obtain rfl : k = 0 := by omega
          rw [show ((0 : Nat) : Int) - 1 = -1 by omega]
          clear hk hp
          go_wp2_with (first | (go_at_call 70; refine (char_any _ _).mono ?_; rintro e w' ⟨rfl, rfl⟩; rw [HCH.out]))
          refine bodyPost_ret (results_cell_row rfl _ _ w.heap.size 84 #[.int .i64 9, .int .i64 (3), .int .i64 (0)] (0, 0) _ rfl (((HRES.out.set_ 0 _).set_ 1 _).set_ 2 _) Tryd.underlying84 rfl (by kernel_rfl)) rfl ?_
          exact ⟨by rw [HE.out.1, HE.out.2], ((HBX.out.setCell (p := ⟨w.heap.size, 0, none⟩) (Nat.le_refl _) _).setCell (p := ⟨w.heap.size, 1, none⟩) (Nat.le_refl _) _).setCell (p := ⟨w.heap.size, 2, none⟩) (Nat.le_refl _) _⟩
    · subst hc
      have HCH := hide hch
      have HE := hide (ent_plain hch hp hl (show plainE 10 = (3, 0) from rfl))
      obtain ⟨v, l, hb, hs, hown, hll, hok⟩ := h
      obtain ⟨A, cp, rfl, _⟩ := hs.form
      have HNO := hide (show ∀ x ∈ l, x.1 ≠ 10 from fun x hx => none_pick hp x (by rw [hown]; exact List.mem_reverse.2 hx))
      obtain ⟨n, hn⟩ : ∃ n, n = l.length := ⟨_, rfl⟩
      have hb0 := below_box w (.cells #[.int .i64 0, .int .i64 0, .int .i64 0] 84)
      have HBX := hide hb0
      have HRES := hide (Blk.new w 84 #[.int .i64 0, .int .i64 0, .int .i64 0])
      have hb1 := hb.below hb0 hb.lt
      have HBB := hide hb1
      rw [← hn] at hs hll hb1 HBB
      have HRD := hide (show Rd (w.alloc (.cells #[.int .i64 0, .int .i64 0, .int .i64 0] 84)) (.slice A n cp) 3 n (rows clE l) from (Sl.rd hs).belowN hb0)
      have hn9 : (n : Int) ≤ 1000 := by omega
      have HN := hide hn
      have wn : IntKind.i64.wrap ((n : Int) - 1) = (n : Int) - 1 := IntWalk.i64_in _ (by omega)
      have i1 := hb1.cell 1
      obtain ⟨w1, hw1⟩ : ∃ y : World, y = w.alloc (.cells #[.int .i64 0, .int .i64 0, .int .i64 0] 84) := ⟨_, rfl⟩
      have HW1 := hide hw1
      rw [← hw1] at HBX HRES HBB HRD
      have t0 := HRES.out.frozen 0
      have t1 := HRES.out.frozen 1
      have t2 := HRES.out.frozen 2
      have t3 := HRES.out.cell 0
      have t4 := HRES.out.cell 1
      have t5 := HRES.out.cell 2
      have b0 := HBB.out.cell 0
      have b1 := HBB.out.cell 1
      clear hs hn hb0 hb hb1 hown hok hll hw1
      rw [hl] at b0
      clear hl hp hch
      go_enter Tryd.func67, Tryd.ntmps67
      go_wp2_with fail
      go_loopw [5] (fun iv wr => ∃ k : Nat, iv = .int .i64 ((k : Int) - 1) ∧ k ≤ n ∧ w1 = wr) (fun iv _ => (intOf iv + 1).toNat)
      case atStart => exact ⟨n, rfl, Nat.le_refl _, HW1.out⟩
      case round =>
        clear i1
        obtain ⟨k, rfl, hk, rfl⟩ := hrel
        by_cases hp : 0 < k
        · obtain ⟨j, rfl⟩ : ∃ j, k = j + 1 := ⟨k - 1, by omega⟩
          rw [show (((j + 1 : Nat) : Int) - 1) = (j : Int) by omega]
          have hj9 : (j : Int) ≤ 1000 := by omega
          have wj : IntKind.i64.wrap ((j : Int) - 1) = (j : Int) - 1 := IntWalk.i64_in _ (by omega)
          have z0 : decide ((0 : Int) ≤ (j : Int)) = true := by simp
          have y0 : decide (j < n) = true := by simp; omega
          have y1 : decide ((j : Int) < (n : Int)) = true := by simp; omega
          have y2 : (j : Int) < (n : Int) := by omega
          obtain ⟨⟨xc, xk, xm⟩, hx⟩ : ∃ x, l[j]? = some x := ⟨_, List.getElem?_eq_getElem (by have := HN.out; omega)⟩
          obtain ⟨g, off, rfl, hc⟩ := HRD.out.cells (by omega)
          have d0 : w1.cell? ⟨g, off + j * 3, none⟩ = some (.int .i64 xc) := hc _ _ ((rows_at clE_len l j 0 _ hx (by omega)).trans rfl)
          have hne := HNO.out _ (List.mem_of_getElem? hx)
          have q0 : (xc == 10) = false := by simpa using hne
          have HJ := hide (show j + 1 ≤ n from hk)
          clear hk hp hx hc hne
          go_wp2_with fail
          go_roundw
          case rel => exact ⟨j, rfl, by have := HJ.out; omega, trivial⟩
          case measure => simp [intOf]
        · obtain rfl : k = 0 := by omega
          rw [show ((0 : Nat) : Int) - 1 = -1 by omega]
          clear hk hp
          go_wp2_with (first | (go_at_call 70; refine (char_any _ _).mono ?_; rintro e w' ⟨rfl, rfl⟩; rw [HCH.out]))
          refine bodyPost_ret (results_cell_row rfl _ _ w.heap.size 84 #[.int .i64 10, .int .i64 (3), .int .i64 (0)] (0, 0) _ rfl (((HRES.out.set_ 0 _).set_ 1 _).set_ 2 _) Tryd.underlying84 rfl (by kernel_rfl)) rfl ?_
          exact ⟨by rw [HE.out.1, HE.out.2], ((HBX.out.setCell (p := ⟨w.heap.size, 0, none⟩) (Nat.le_refl _) _).setCell (p := ⟨w.heap.size, 1, none⟩) (Nat.le_refl _) _).setCell (p := ⟨w.heap.size, 2, none⟩) (Nat.le_refl _) _⟩
    · subst hc
      have HCH := hide hch
      have HE := hide (ent_plain hch hp hl (show plainE 12 = (3, 0) from rfl))
      obtain ⟨v, l, hb, hs, hown, hll, hok⟩ := h
      obtain ⟨A, cp, rfl, _⟩ := hs.form
      have HNO := hide (show ∀ x ∈ l, x.1 ≠ 12 from fun x hx => none_pick hp x (by rw [hown]; exact List.mem_reverse.2 hx))
      obtain ⟨n, hn⟩ : ∃ n, n = l.length := ⟨_, rfl⟩
      have hb0 := below_box w (.cells #[.int .i64 0, .int .i64 0, .int .i64 0] 84)
      have HBX := hide hb0
      have HRES := hide (Blk.new w 84 #[.int .i64 0, .int .i64 0, .int .i64 0])
      have hb1 := hb.below hb0 hb.lt
      have HBB := hide hb1
      rw [← hn] at hs hll hb1 HBB
      have HRD := hide (show Rd (w.alloc (.cells #[.int .i64 0, .int .i64 0, .int .i64 0] 84)) (.slice A n cp) 3 n (rows clE l) from (Sl.rd hs).belowN hb0)
      have hn9 : (n : Int) ≤ 1000 := by omega
      have HN := hide hn
      have wn : IntKind.i64.wrap ((n : Int) - 1) = (n : Int) - 1 := IntWalk.i64_in _ (by omega)
      have i1 := hb1.cell 1
      obtain ⟨w1, hw1⟩ : ∃ y : World, y = w.alloc (.cells #[.int .i64 0, .int .i64 0, .int .i64 0] 84) := ⟨_, rfl⟩
      have HW1 := hide hw1
      rw [← hw1] at HBX HRES HBB HRD
      have t0 := HRES.out.frozen 0
      have t1 := HRES.out.frozen 1
      have t2 := HRES.out.frozen 2
      have t3 := HRES.out.cell 0
      have t4 := HRES.out.cell 1
      have t5 := HRES.out.cell 2
      have b0 := HBB.out.cell 0
      have b1 := HBB.out.cell 1
      clear hs hn hb0 hb hb1 hown hok hll hw1
      rw [hl] at b0
      clear hl hp hch
      go_enter Tryd.func67, Tryd.ntmps67
      go_wp2_with fail
      go_loopw [5] (fun iv wr => ∃ k : Nat, iv = .int .i64 ((k : Int) - 1) ∧ k ≤ n ∧ w1 = wr) (fun iv _ => (intOf iv + 1).toNat)
      case atStart => exact ⟨n, rfl, Nat.le_refl _, HW1.out⟩
      case round =>
        clear i1
        obtain ⟨k, rfl, hk, rfl⟩ := hrel
        by_cases hp : 0 < k
        · obtain ⟨j, rfl⟩ : ∃ j, k = j + 1 := ⟨k - 1, by omega⟩
          rw [show (((j + 1 : Nat) : Int) - 1) = (j : Int) by omega]
          have hj9 : (j : Int) ≤ 1000 := by omega
          have wj : IntKind.i64.wrap ((j : Int) - 1) = (j : Int) - 1 := IntWalk.i64_in _ (by omega)
          have z0 : decide ((0 : Int) ≤ (j : Int)) = true := by simp
          have y0 : decide (j < n) = true := by simp; omega
          have y1 : decide ((j : Int) < (n : Int)) = true := by simp; omega
          have y2 : (j : Int) < (n : Int) := by omega
          obtain ⟨⟨xc, xk, xm⟩, hx⟩ : ∃ x, l[j]? = some x := ⟨_, List.getElem?_eq_getElem (by have := HN.out; omega)⟩
          obtain ⟨g, off, rfl, hc⟩ := HRD.out.cells (by omega)
          have d0 : w1.cell? ⟨g, off + j * 3, none⟩ = some (.int .i64 xc) := hc _ _ ((rows_at clE_len l j 0 _ hx (by omega)).trans rfl)
          have hne := HNO.out _ (List.mem_of_getElem? hx)
          have q0 : (xc == 12) = false := by simpa using hne
          have HJ := hide (show j + 1 ≤ n from hk)
          clear hk hp hx hc hne
          go_wp2_with fail
          go_roundw
          case rel => exact ⟨j, rfl, by have := HJ.out; omega, trivial⟩
          case measure => simp [intOf]
        · obtain rfl : k = 0 := by omega
          rw [show ((0 : Nat) : Int) - 1 = -1 by omega]
          clear hk hp
          go_wp2_with (first | (go_at_call 70; refine (char_any _ _).mono ?_; rintro e w' ⟨rfl, rfl⟩; rw [HCH.out]))
          refine bodyPost_ret (results_cell_row rfl _ _ w.heap.size 84 #[.int .i64 12, .int .i64 (3), .int .i64 (0)] (0, 0) _ rfl (((HRES.out.set_ 0 _).set_ 1 _).set_ 2 _) Tryd.underlying84 rfl (by kernel_rfl)) rfl ?_
          exact ⟨by rw [HE.out.1, HE.out.2], ((HBX.out.setCell (p := ⟨w.heap.size, 0, none⟩) (Nat.le_refl _) _).setCell (p := ⟨w.heap.size, 1, none⟩) (Nat.le_refl _) _).setCell (p := ⟨w.heap.size, 2, none⟩) (Nat.le_refl _) _⟩
    · subst hc
      have HCH := hide hch
      have HE := hide (ent_plain hch hp hl (show plainE 13 = (3, 0) from rfl))
      obtain ⟨v, l, hb, hs, hown, hll, hok⟩ := h
      obtain ⟨A, cp, rfl, _⟩ := hs.form
      have HNO := hide (show ∀ x ∈ l, x.1 ≠ 13 from fun x hx => none_pick hp x (by rw [hown]; exact List.mem_reverse.2 hx))
      obtain ⟨n, hn⟩ : ∃ n, n = l.length := ⟨_, rfl⟩
      have hb0 := below_box w (.cells #[.int .i64 0, .int .i64 0, .int .i64 0] 84)
      have HBX := hide hb0
      have HRES := hide (Blk.new w 84 #[.int .i64 0, .int .i64 0, .int .i64 0])
      have hb1 := hb.below hb0 hb.lt
      have HBB := hide hb1
      rw [← hn] at hs hll hb1 HBB
      have HRD := hide (show Rd (w.alloc (.cells #[.int .i64 0, .int .i64 0, .int .i64 0] 84)) (.slice A n cp) 3 n (rows clE l) from (Sl.rd hs).belowN hb0)
      have hn9 : (n : Int) ≤ 1000 := by omega
      have HN := hide hn
      have wn : IntKind.i64.wrap ((n : Int) - 1) = (n : Int) - 1 := IntWalk.i64_in _ (by omega)
      have i1 := hb1.cell 1
      obtain ⟨w1, hw1⟩ : ∃ y : World, y = w.alloc (.cells #[.int .i64 0, .int .i64 0, .int .i64 0] 84) := ⟨_, rfl⟩
      have HW1 := hide hw1
      rw [← hw1] at HBX HRES HBB HRD
      have t0 := HRES.out.frozen 0
      have t1 := HRES.out.frozen 1
      have t2 := HRES.out.frozen 2
      have t3 := HRES.out.cell 0
      have t4 := HRES.out.cell 1
      have t5 := HRES.out.cell 2
      have b0 := HBB.out.cell 0
      have b1 := HBB.out.cell 1
      clear hs hn hb0 hb hb1 hown hok hll hw1
      rw [hl] at b0
      clear hl hp hch
      go_enter Tryd.func67, Tryd.ntmps67
      go_wp2_with fail
      go_loopw [5] (fun iv wr => ∃ k : Nat, iv = .int .i64 ((k : Int) - 1) ∧ k ≤ n ∧ w1 = wr) (fun iv _ => (intOf iv + 1).toNat)
      case atStart => exact ⟨n, rfl, Nat.le_refl _, HW1.out⟩
      case round =>
        clear i1
        obtain ⟨k, rfl, hk, rfl⟩ := hrel
        by_cases hp : 0 < k
        · obtain ⟨j, rfl⟩ : ∃ j, k = j + 1 := ⟨k - 1, by omega⟩
          rw [show (((j + 1 : Nat) : Int) - 1) = (j : Int) by omega]
          have hj9 : (j : Int) ≤ 1000 := by omega
          have wj : IntKind.i64.wrap ((j : Int) - 1) = (j : Int) - 1 := IntWalk.i64_in _ (by omega)
          have z0 : decide ((0 : Int) ≤ (j : Int)) = true := by simp
          have y0 : decide (j < n) = true := by simp; omega
          have y1 : decide ((j : Int) < (n : Int)) = true := by simp; omega
          have y2 : (j : Int) < (n : Int) := by omega
          obtain ⟨⟨xc, xk, xm⟩, hx⟩ : ∃ x, l[j]? = some x := ⟨_, List.getElem?_eq_getElem (by have := HN.out; omega)⟩
          obtain ⟨g, off, rfl, hc⟩ := HRD.out.cells (by omega)
          have d0 : w1.cell? ⟨g, off + j * 3, none⟩ = some (.int .i64 xc) := hc _ _ ((rows_at clE_len l j 0 _ hx (by omega)).trans rfl)
          have hne := HNO.out _ (List.mem_of_getElem? hx)
          have q0 : (xc == 13) = false := by simpa using hne
          have HJ := hide (show j + 1 ≤ n from hk)
          clear hk hp hx hc hne
          go_wp2_with fail
          go_roundw
          case rel => exact ⟨j, rfl, by have := HJ.out; omega, trivial⟩
          case measure => simp [intOf]
        · obtain rfl : k = 0 := by omega
          rw [show ((0 : Nat) : Int) - 1 = -1 by omega]
          clear hk hp
          go_wp2_with (first | (go_at_call 70; refine (char_any _ _).mono ?_; rintro e w' ⟨rfl, rfl⟩; rw [HCH.out]))
          refine bodyPost_ret (results_cell_row rfl _ _ w.heap.size 84 #[.int .i64 13, .int .i64 (3), .int .i64 (0)] (0, 0) _ rfl (((HRES.out.set_ 0 _).set_ 1 _).set_ 2 _) Tryd.underlying84 rfl (by kernel_rfl)) rfl ?_
          exact ⟨by rw [HE.out.1, HE.out.2], ((HBX.out.setCell (p := ⟨w.heap.size, 0, none⟩) (Nat.le_refl _) _).setCell (p := ⟨w.heap.size, 1, none⟩) (Nat.le_refl _) _).setCell (p := ⟨w.heap.size, 2, none⟩) (Nat.le_refl _) _⟩
    · subst hc
      have HCH := hide hch
      have HE := hide (ent_plain hch hp hl (show plainE 32 = (3, 0) from rfl))
      obtain ⟨v, l, hb, hs, hown, hll, hok⟩ := h
      obtain ⟨A, cp, rfl, _⟩ := hs.form
      have HNO := hide (show ∀ x ∈ l, x.1 ≠ 32 from fun x hx => none_pick hp x (by rw [hown]; exact List.mem_reverse.2 hx))
      obtain ⟨n, hn⟩ : ∃ n, n = l.length := ⟨_, rfl⟩
      have hb0 := below_box w (.cells #[.int .i64 0, .int .i64 0, .int .i64 0] 84)
      have HBX := hide hb0
      have HRES := hide (Blk.new w 84 #[.int .i64 0, .int .i64 0, .int .i64 0])
      have hb1 := hb.below hb0 hb.lt
      have HBB := hide hb1
      rw [← hn] at hs hll hb1 HBB
      have HRD := hide (show Rd (w.alloc (.cells #[.int .i64 0, .int .i64 0, .int .i64 0] 84)) (.slice A n cp) 3 n (rows clE l) from (Sl.rd hs).belowN hb0)
      have hn9 : (n : Int) ≤ 1000 := by omega
      have HN := hide hn
      have wn : IntKind.i64.wrap ((n : Int) - 1) = (n : Int) - 1 := IntWalk.i64_in _ (by omega)
      have i1 := hb1.cell 1
      obtain ⟨w1, hw1⟩ : ∃ y : World, y = w.alloc (.cells #[.int .i64 0, .int .i64 0, .int .i64 0] 84) := ⟨_, rfl⟩
      have HW1 := hide hw1
      rw [← hw1] at HBX HRES HBB HRD
      have t0 := HRES.out.frozen 0
      have t1 := HRES.out.frozen 1
      have t2 := HRES.out.frozen 2
      have t3 := HRES.out.cell 0
      have t4 := HRES.out.cell 1
      have t5 := HRES.out.cell 2
      have b0 := HBB.out.cell 0
      have b1 := HBB.out.cell 1
      clear hs hn hb0 hb hb1 hown hok hll hw1
      rw [hl] at b0
      clear hl hp hch
      go_enter Tryd.func67, Tryd.ntmps67
      go_wp2_with fail
      go_loopw [5] (fun iv wr => ∃ k : Nat, iv = .int .i64 ((k : Int) - 1) ∧ k ≤ n ∧ w1 = wr) (fun iv _ => (intOf iv + 1).toNat)
      case atStart => exact ⟨n, rfl, Nat.le_refl _, HW1.out⟩
      case round =>
        clear i1
        obtain ⟨k, rfl, hk, rfl⟩ := hrel
        by_cases hp : 0 < k
        · obtain ⟨j, rfl⟩ : ∃ j, k = j + 1 := ⟨k - 1, by omega⟩
          rw [show (((j + 1 : Nat) : Int) - 1) = (j : Int) by omega]
          have hj9 : (j : Int) ≤ 1000 := by omega
          have wj : IntKind.i64.wrap ((j : Int) - 1) = (j : Int) - 1 := IntWalk.i64_in _ (by omega)
          have z0 : decide ((0 : Int) ≤ (j : Int)) = true := by simp
          have y0 : decide (j < n) = true := by simp; omega
          have y1 : decide ((j : Int) < (n : Int)) = true := by simp; omega
          have y2 : (j : Int) < (n : Int) := by omega
          obtain ⟨⟨xc, xk, xm⟩, hx⟩ : ∃ x, l[j]? = some x := ⟨_, List.getElem?_eq_getElem (by have := HN.out; omega)⟩
          obtain ⟨g, off, rfl, hc⟩ := HRD.out.cells (by omega)
          have d0 : w1.cell? ⟨g, off + j * 3, none⟩ = some (.int .i64 xc) := hc _ _ ((rows_at clE_len l j 0 _ hx (by omega)).trans rfl)
          have hne := HNO.out _ (List.mem_of_getElem? hx)
          have q0 : (xc == 32) = false := by simpa using hne
          have HJ := hide (show j + 1 ≤ n from hk)
          clear hk hp hx hc hne
          go_wp2_with fail
          go_roundw
          case rel => exact ⟨j, rfl, by have := HJ.out; omega, trivial⟩
          case measure => simp [intOf]
        · obtain rfl : k = 0 := by omega
          rw [show ((0 : Nat) : Int) - 1 = -1 by omega]
          clear hk hp
          go_wp2_with (first | (go_at_call 70; refine (char_any _ _).mono ?_; rintro e w' ⟨rfl, rfl⟩; rw [HCH.out]))
          refine bodyPost_ret (results_cell_row rfl _ _ w.heap.size 84 #[.int .i64 32, .int .i64 (3), .int .i64 (0)] (0, 0) _ rfl (((HRES.out.set_ 0 _).set_ 1 _).set_ 2 _) Tryd.underlying84 rfl (by kernel_rfl)) rfl ?_
          exact ⟨by rw [HE.out.1, HE.out.2], ((HBX.out.setCell (p := ⟨w.heap.size, 0, none⟩) (Nat.le_refl _) _).setCell (p := ⟨w.heap.size, 1, none⟩) (Nat.le_refl _) _).setCell (p := ⟨w.heap.size, 2, none⟩) (Nat.le_refl _) _⟩
  · cases hw : isWord c with
    | true =>
      have HCH := hide hch
      have HW := hide (fun (y : World) => rword_any c y)
      rw [hw] at HW
      have HE := hide (ent_plain hch hp hl (show plainE c = (1, 0) by unfold plainE; rw [if_neg hsp, hw]; rfl))
      obtain ⟨v, l, hb, hs, hown, hll, hok⟩ := h
      obtain ⟨A, cp, rfl, _⟩ := hs.form
      have HNO := hide (show ∀ x ∈ l, x.1 ≠ c from fun x hx => none_pick hp x (by rw [hown]; exact List.mem_reverse.2 hx))
      obtain ⟨n, hn⟩ : ∃ n, n = l.length := ⟨_, rfl⟩
      have hb0 := below_box w (.cells #[.int .i64 0, .int .i64 0, .int .i64 0] 84)
      have HBX := hide hb0
      have HRES := hide (Blk.new w 84 #[.int .i64 0, .int .i64 0, .int .i64 0])
      have hb1 := hb.below hb0 hb.lt
      have HBB := hide hb1
      rw [← hn] at hs hll hb1 HBB
      have HRD := hide (show Rd (w.alloc (.cells #[.int .i64 0, .int .i64 0, .int .i64 0] 84)) (.slice A n cp) 3 n (rows clE l) from (Sl.rd hs).belowN hb0)
      have hn9 : (n : Int) ≤ 1000 := by omega
      have HN := hide hn
      have wn : IntKind.i64.wrap ((n : Int) - 1) = (n : Int) - 1 := IntWalk.i64_in _ (by omega)
      have i1 := hb1.cell 1
      obtain ⟨w1, hw1⟩ : ∃ y : World, y = w.alloc (.cells #[.int .i64 0, .int .i64 0, .int .i64 0] 84) := ⟨_, rfl⟩
      have HW1 := hide hw1
      rw [← hw1] at HBX HRES HBB HRD
      have t0 := HRES.out.frozen 0
      have t1 := HRES.out.frozen 1
      have t2 := HRES.out.frozen 2
      have t3 := HRES.out.cell 0
      have t4 := HRES.out.cell 1
      have t5 := HRES.out.cell 2
      have b0 := HBB.out.cell 0
      have b1 := HBB.out.cell 1
      clear hs hn hb0 hb hb1 hown hok hll hw1
      rw [hl] at b0
      have n9 : (c == 9) = false := by simp; omega
      have n10 : (c == 10) = false := by simp; omega
      have n12 : (c == 12) = false := by simp; omega
      have n13 : (c == 13) = false := by simp; omega
      have n32 : (c == 32) = false := by simp; omega
      clear hl hp hch hw hsp
      go_enter Tryd.func67, Tryd.ntmps67
      go_wp2_with fail
      go_loopw [5] (fun iv wr => ∃ k : Nat, iv = .int .i64 ((k : Int) - 1) ∧ k ≤ n ∧ w1 = wr) (fun iv _ => (intOf iv + 1).toNat)
      case atStart => exact ⟨n, rfl, Nat.le_refl _, HW1.out⟩
      case round =>
        clear i1
        obtain ⟨k, rfl, hk, rfl⟩ := hrel
        by_cases hp : 0 < k
        · obtain ⟨j, rfl⟩ : ∃ j, k = j + 1 := ⟨k - 1, by omega⟩
          rw [show (((j + 1 : Nat) : Int) - 1) = (j : Int) by omega]
          have hj9 : (j : Int) ≤ 1000 := by omega
          have wj : IntKind.i64.wrap ((j : Int) - 1) = (j : Int) - 1 := IntWalk.i64_in _ (by omega)
          have z0 : decide ((0 : Int) ≤ (j : Int)) = true := by simp
          have y0 : decide (j < n) = true := by simp; omega
          have y1 : decide ((j : Int) < (n : Int)) = true := by simp; omega
          have y2 : (j : Int) < (n : Int) := by omega
          obtain ⟨⟨xc, xk, xm⟩, hx⟩ : ∃ x, l[j]? = some x := ⟨_, List.getElem?_eq_getElem (by have := HN.out; omega)⟩
          obtain ⟨g, off, rfl, hc⟩ := HRD.out.cells (by omega)
          have d0 : w1.cell? ⟨g, off + j * 3, none⟩ = some (.int .i64 xc) := hc _ _ ((rows_at clE_len l j 0 _ hx (by omega)).trans rfl)
          have hne := HNO.out _ (List.mem_of_getElem? hx)
          have q0 : (xc == c) = false := by simpa using hne
          have HJ := hide (show j + 1 ≤ n from hk)
          clear hk hp hx hc hne
          go_wp2_with fail
          go_roundw
          case rel => exact ⟨j, rfl, by have := HJ.out; omega, trivial⟩
          case measure => simp [intOf]
        · obtain rfl : k = 0 := by omega
          rw [show ((0 : Nat) : Int) - 1 = -1 by omega]
          clear hk hp
          go_wp2_with (first | (go_at_call 70; refine (char_any _ _).mono ?_; rintro e w' ⟨rfl, rfl⟩; rw [HCH.out]) | (go_at_call 86; (with_reducible refine Calls.mono (HW.out _) ?_); rintro e w2 ⟨rfl, b2⟩; have HB2 := hide (HBX.out.trans (b2.mono HBX.out.size)); have HRS2 := hide (HRES.out.below b2 HRES.out.lt); have v0 := HRS2.out.frozen 0; have v1 := HRS2.out.frozen 1; have v2 := HRS2.out.frozen 2; have v3 := HRS2.out.cell 0; have v4 := HRS2.out.cell 1; have v5 := HRS2.out.cell 2; clear b2))
          refine bodyPost_ret (results_cell_row rfl _ _ w.heap.size 84 #[.int .i64 c, .int .i64 (1), .int .i64 (0)] (0, 0) _ rfl (((HRS2.out.set_ 0 _).set_ 1 _).set_ 2 _) Tryd.underlying84 rfl (by kernel_rfl)) rfl ?_
          exact ⟨by rw [HE.out.1, HE.out.2], ((HB2.out.setCell (p := ⟨w.heap.size, 0, none⟩) (Nat.le_refl _) _).setCell (p := ⟨w.heap.size, 1, none⟩) (Nat.le_refl _) _).setCell (p := ⟨w.heap.size, 2, none⟩) (Nat.le_refl _) _⟩
    | false =>
      have HCH := hide hch
      have HW := hide (fun (y : World) => rword_any c y)
      rw [hw] at HW
      have HE := hide (ent_plain hch hp hl (show plainE c = (0, 0) by unfold plainE; rw [if_neg hsp, hw]; rfl))
      obtain ⟨v, l, hb, hs, hown, hll, hok⟩ := h
      obtain ⟨A, cp, rfl, _⟩ := hs.form
      have HNO := hide (show ∀ x ∈ l, x.1 ≠ c from fun x hx => none_pick hp x (by rw [hown]; exact List.mem_reverse.2 hx))
      obtain ⟨n, hn⟩ : ∃ n, n = l.length := ⟨_, rfl⟩
      have hb0 := below_box w (.cells #[.int .i64 0, .int .i64 0, .int .i64 0] 84)
      have HBX := hide hb0
      have HRES := hide (Blk.new w 84 #[.int .i64 0, .int .i64 0, .int .i64 0])
      have hb1 := hb.below hb0 hb.lt
      have HBB := hide hb1
      rw [← hn] at hs hll hb1 HBB
      have HRD := hide (show Rd (w.alloc (.cells #[.int .i64 0, .int .i64 0, .int .i64 0] 84)) (.slice A n cp) 3 n (rows clE l) from (Sl.rd hs).belowN hb0)
      have hn9 : (n : Int) ≤ 1000 := by omega
      have HN := hide hn
      have wn : IntKind.i64.wrap ((n : Int) - 1) = (n : Int) - 1 := IntWalk.i64_in _ (by omega)
      have i1 := hb1.cell 1
      obtain ⟨w1, hw1⟩ : ∃ y : World, y = w.alloc (.cells #[.int .i64 0, .int .i64 0, .int .i64 0] 84) := ⟨_, rfl⟩
      have HW1 := hide hw1
      rw [← hw1] at HBX HRES HBB HRD
      have t0 := HRES.out.frozen 0
      have t1 := HRES.out.frozen 1
      have t2 := HRES.out.frozen 2
      have t3 := HRES.out.cell 0
      have t4 := HRES.out.cell 1
      have t5 := HRES.out.cell 2
      have b0 := HBB.out.cell 0
      have b1 := HBB.out.cell 1
      clear hs hn hb0 hb hb1 hown hok hll hw1
      rw [hl] at b0
      have n9 : (c == 9) = false := by simp; omega
      have n10 : (c == 10) = false := by simp; omega
      have n12 : (c == 12) = false := by simp; omega
      have n13 : (c == 13) = false := by simp; omega
      have n32 : (c == 32) = false := by simp; omega
      clear hl hp hch hw hsp
      go_enter Tryd.func67, Tryd.ntmps67
      go_wp2_with fail
      go_loopw [5] (fun iv wr => ∃ k : Nat, iv = .int .i64 ((k : Int) - 1) ∧ k ≤ n ∧ w1 = wr) (fun iv _ => (intOf iv + 1).toNat)
      case atStart => exact ⟨n, rfl, Nat.le_refl _, HW1.out⟩
      case round =>
        clear i1
        obtain ⟨k, rfl, hk, rfl⟩ := hrel
        by_cases hp : 0 < k
        · obtain ⟨j, rfl⟩ : ∃ j, k = j + 1 := ⟨k - 1, by omega⟩
          rw [show (((j + 1 : Nat) : Int) - 1) = (j : Int) by omega]
          have hj9 : (j : Int) ≤ 1000 := by omega
          have wj : IntKind.i64.wrap ((j : Int) - 1) = (j : Int) - 1 := IntWalk.i64_in _ (by omega)
          have z0 : decide ((0 : Int) ≤ (j : Int)) = true := by simp
          have y0 : decide (j < n) = true := by simp; omega
          have y1 : decide ((j : Int) < (n : Int)) = true := by simp; omega
          have y2 : (j : Int) < (n : Int) := by omega
          obtain ⟨⟨xc, xk, xm⟩, hx⟩ : ∃ x, l[j]? = some x := ⟨_, List.getElem?_eq_getElem (by have := HN.out; omega)⟩
          obtain ⟨g, off, rfl, hc⟩ := HRD.out.cells (by omega)
          have d0 : w1.cell? ⟨g, off + j * 3, none⟩ = some (.int .i64 xc) := hc _ _ ((rows_at clE_len l j 0 _ hx (by omega)).trans rfl)
          have hne := HNO.out _ (List.mem_of_getElem? hx)
          have q0 : (xc == c) = false := by simpa using hne
          have HJ := hide (show j + 1 ≤ n from hk)
          clear hk hp hx hc hne
          go_wp2_with fail
          go_roundw
          case rel => exact ⟨j, rfl, by have := HJ.out; omega, trivial⟩
          case measure => simp [intOf]
        · obtain rfl : k = 0 := by omega
          rw [show ((0 : Nat) : Int) - 1 = -1 by omega]
          clear hk hp
          go_wp2_with (first | (go_at_call 70; refine (char_any _ _).mono ?_; rintro e w' ⟨rfl, rfl⟩; rw [HCH.out]) | (go_at_call 86; (with_reducible refine Calls.mono (HW.out _) ?_); rintro e w2 ⟨rfl, b2⟩; have HB2 := hide (HBX.out.trans (b2.mono HBX.out.size)); have HRS2 := hide (HRES.out.below b2 HRES.out.lt); have v0 := HRS2.out.frozen 0; have v1 := HRS2.out.frozen 1; have v2 := HRS2.out.frozen 2; have v3 := HRS2.out.cell 0; have v4 := HRS2.out.cell 1; have v5 := HRS2.out.cell 2; clear b2))
          refine bodyPost_ret (results_cell_row rfl _ _ w.heap.size 84 #[.int .i64 c, .int .i64 (0), .int .i64 (0)] (0, 0) _ rfl (((HRS2.out.set_ 0 _).set_ 1 _).set_ 2 _) Tryd.underlying84 rfl (by kernel_rfl)) rfl ?_
          exact ⟨by rw [HE.out.1, HE.out.2], ((HB2.out.setCell (p := ⟨w.heap.size, 0, none⟩) (Nat.le_refl _) _).setCell (p := ⟨w.heap.size, 1, none⟩) (Nat.le_refl _) _).setCell (p := ⟨w.heap.size, 2, none⟩) (Nat.le_refl _) _⟩
end Go.Proofs.YtdojcgefiekleaaDoor
namespace Go.Proofs.YtdojcgefiekleaaDoor
open Go.RowKit

set_option maxRecDepth 100000 in
set_option maxHeartbeats 16000000 in
theorem find_special {w : World} {r : Nat} {T : Tb} {c : Int} (h : RT w r T) (hch : isCh c = true) (hp : pick c T.own = none) (hl : T.lisp = true) (hc0 : c = 40 ∨ c = 91 ∨ c = 41 ∨ c = 93 ∨ c = 34 ∨ c = 92 ∨ c = 59 ∨ c = 10 ∨ c = 39 ∨ c = 96 ∨ c = 44 ∨ c = 9 ∨ c = 12 ∨ c = 13 ∨ c = 32) : Calls Tryd.prog 67 #[.pointer (some ⟨r, 0, none⟩), .int .i64 c] w fun e w' => e = .returned (.agg #[.int .i64 c, .int .i64 (T.cl c), .int .i64 (T.mate c)]) ∧ Below w.heap.size w w' := by
  rcases hc0 with hc | hc | hc | hc | hc | hc | hc | hc | hc | hc | hc | hc | hc | hc | hc
  · subst hc
    have yb : ((⟨#[41, 93]⟩ : ByteArray)[0]'(by decide)).toNat = 41 := rfl
    have HCH := hide hch
    have HE := hide (ent_lisp hch hp hl (show lispE 40 = (4, 41) by decide))
    have HF0 := hide (fun (y : World) => of_any ⟨#[40, 91]⟩ 40 (by decide) y)
    rw [show ofZ (strB ⟨#[40, 91]⟩) 40 = 0 by decide] at HF0
    have HF1 := hide (fun (y : World) => of_any ⟨#[41, 93]⟩ 40 (by decide) y)
    rw [show ofZ (strB ⟨#[41, 93]⟩) 40 = -1 by decide] at HF1
    have HF2 := hide (fun (y : World) => of_any ⟨#[39, 96, 44]⟩ 40 (by decide) y)
    rw [show ofZ (strB ⟨#[39, 96, 44]⟩) 40 = -1 by decide] at HF2
    have HF3 := hide (fun (y : World) => of_any ⟨#[45, 43, 42, 47, 60, 62, 61, 33, 63, 36, 37, 38, 95, 126, 94, 58, 123, 125, 124, 46, 64, 35]⟩ 40 (by decide) y)
    rw [show ofZ (strB ⟨#[45, 43, 42, 47, 60, 62, 61, 33, 63, 36, 37, 38, 95, 126, 94, 58, 123, 125, 124, 46, 64, 35]⟩) 40 = -1 by decide] at HF3
    obtain ⟨v, l, hb, hs, hown, hll, hok⟩ := h
    obtain ⟨A, cp, rfl, _⟩ := hs.form
    have HNO := hide (show ∀ x ∈ l, x.1 ≠ 40 from fun x hx => none_pick hp x (by rw [hown]; exact List.mem_reverse.2 hx))
    obtain ⟨n, hn⟩ : ∃ n, n = l.length := ⟨_, rfl⟩
    have hb0 := below_box w (.cells #[.int .i64 0, .int .i64 0, .int .i64 0] 84)
    have HBX := hide hb0
    have HRES := hide (Blk.new w 84 #[.int .i64 0, .int .i64 0, .int .i64 0])
    have hb1 := hb.below hb0 hb.lt
    have HBB := hide hb1
    rw [← hn] at hs hll hb1 HBB
    have HRD := hide (show Rd (w.alloc (.cells #[.int .i64 0, .int .i64 0, .int .i64 0] 84)) (.slice A n cp) 3 n (rows clE l) from (Sl.rd hs).belowN hb0)
    have hn9 : (n : Int) ≤ 1000 := by omega
    have HN := hide hn
    have wn : IntKind.i64.wrap ((n : Int) - 1) = (n : Int) - 1 := IntWalk.i64_in _ (by omega)
    have i1 := hb1.cell 1
    obtain ⟨w1, hw1⟩ : ∃ y : World, y = w.alloc (.cells #[.int .i64 0, .int .i64 0, .int .i64 0] 84) := ⟨_, rfl⟩
    have HW1 := hide hw1
    rw [← hw1] at HBX HRES HBB HRD
    have t0 := HRES.out.frozen 0
    have t1 := HRES.out.frozen 1
    have t2 := HRES.out.frozen 2
    have t3 := HRES.out.cell 0
    have t4 := HRES.out.cell 1
    have t5 := HRES.out.cell 2
    have b0 := HBB.out.cell 0
    have b1 := HBB.out.cell 1
    clear hs hn hb0 hb hb1 hown hok hll hw1
    rw [hl] at b0
    clear hl hp hch
    go_enter Tryd.func67, Tryd.ntmps67
    go_wp2_with fail
    go_loopw [5] (fun iv wr => ∃ k : Nat, iv = .int .i64 ((k : Int) - 1) ∧ k ≤ n ∧ w1 = wr) (fun iv _ => (intOf iv + 1).toNat)
    case atStart => exact ⟨n, rfl, Nat.le_refl _, HW1.out⟩
    case round =>
      clear i1
      obtain ⟨k, rfl, hk, rfl⟩ := hrel
      by_cases hp : 0 < k
      · obtain ⟨j, rfl⟩ : ∃ j, k = j + 1 := ⟨k - 1, by omega⟩
        rw [show (((j + 1 : Nat) : Int) - 1) = (j : Int) by omega]
        have hj9 : (j : Int) ≤ 1000 := by omega
        have wj : IntKind.i64.wrap ((j : Int) - 1) = (j : Int) - 1 := IntWalk.i64_in _ (by omega)
        have z0 : decide ((0 : Int) ≤ (j : Int)) = true := by simp
        have y0 : decide (j < n) = true := by simp; omega
        have y1 : decide ((j : Int) < (n : Int)) = true := by simp; omega
        have y2 : (j : Int) < (n : Int) := by omega
        obtain ⟨⟨xc, xk, xm⟩, hx⟩ : ∃ x, l[j]? = some x := ⟨_, List.getElem?_eq_getElem (by have := HN.out; omega)⟩
        obtain ⟨g, off, rfl, hc⟩ := HRD.out.cells (by omega)
        have d0 : w1.cell? ⟨g, off + j * 3, none⟩ = some (.int .i64 xc) := hc _ _ ((rows_at clE_len l j 0 _ hx (by omega)).trans rfl)
        have hne := HNO.out _ (List.mem_of_getElem? hx)
        have q0 : (xc == 40) = false := by simpa using hne
        have HJ := hide (show j + 1 ≤ n from hk)
        clear hk hp hx hc hne
        go_wp2_with fail
        go_roundw
        case rel => exact ⟨j, rfl, by have := HJ.out; omega, trivial⟩
        case measure => simp [intOf]
      · obtain rfl : k = 0 := by omega
        rw [show ((0 : Nat) : Int) - 1 = -1 by omega]
        clear hk hp
        go_wp2_with (first | (go_at_call 70; refine (char_any _ _).mono ?_; rintro e w' ⟨rfl, rfl⟩; rw [HCH.out]) | (go_at_call 85; (with_reducible refine Calls.mono (HF0.out _) ?_); rintro e w' ⟨rfl, rfl⟩) | (go_at_call 85; (with_reducible refine Calls.mono (HF1.out _) ?_); rintro e w' ⟨rfl, rfl⟩) | (go_at_call 85; (with_reducible refine Calls.mono (HF2.out _) ?_); rintro e w' ⟨rfl, rfl⟩) | (go_at_call 85; (with_reducible refine Calls.mono (HF3.out _) ?_); rintro e w' ⟨rfl, rfl⟩))
        refine bodyPost_ret (results_cell_row rfl _ _ w.heap.size 84 #[.int .i64 40, .int .i64 (4), .int .i64 (41)] (0, 0) _ rfl (((HRES.out.set_ 0 _).set_ 1 _).set_ 2 _) Tryd.underlying84 rfl (by kernel_rfl)) rfl ?_
        exact ⟨by rw [HE.out.1, HE.out.2], ((HBX.out.setCell (p := ⟨w.heap.size, 0, none⟩) (Nat.le_refl _) _).setCell (p := ⟨w.heap.size, 1, none⟩) (Nat.le_refl _) _).setCell (p := ⟨w.heap.size, 2, none⟩) (Nat.le_refl _) _⟩
  · subst hc
    have yb : ((⟨#[41, 93]⟩ : ByteArray)[1]'(by decide)).toNat = 93 := rfl
    have HCH := hide hch
    have HE := hide (ent_lisp hch hp hl (show lispE 91 = (4, 93) by decide))
    have HF0 := hide (fun (y : World) => of_any ⟨#[40, 91]⟩ 91 (by decide) y)
    rw [show ofZ (strB ⟨#[40, 91]⟩) 91 = 1 by decide] at HF0
    have HF1 := hide (fun (y : World) => of_any ⟨#[41, 93]⟩ 91 (by decide) y)
    rw [show ofZ (strB ⟨#[41, 93]⟩) 91 = -1 by decide] at HF1
    have HF2 := hide (fun (y : World) => of_any ⟨#[39, 96, 44]⟩ 91 (by decide) y)
    rw [show ofZ (strB ⟨#[39, 96, 44]⟩) 91 = -1 by decide] at HF2
    have HF3 := hide (fun (y : World) => of_any ⟨#[45, 43, 42, 47, 60, 62, 61, 33, 63, 36, 37, 38, 95, 126, 94, 58, 123, 125, 124, 46, 64, 35]⟩ 91 (by decide) y)
    rw [show ofZ (strB ⟨#[45, 43, 42, 47, 60, 62, 61, 33, 63, 36, 37, 38, 95, 126, 94, 58, 123, 125, 124, 46, 64, 35]⟩) 91 = -1 by decide] at HF3
    obtain ⟨v, l, hb, hs, hown, hll, hok⟩ := h
    obtain ⟨A, cp, rfl, _⟩ := hs.form
    have HNO := hide (show ∀ x ∈ l, x.1 ≠ 91 from fun x hx => none_pick hp x (by rw [hown]; exact List.mem_reverse.2 hx))
    obtain ⟨n, hn⟩ : ∃ n, n = l.length := ⟨_, rfl⟩
    have hb0 := below_box w (.cells #[.int .i64 0, .int .i64 0, .int .i64 0] 84)
    have HBX := hide hb0
    have HRES := hide (Blk.new w 84 #[.int .i64 0, .int .i64 0, .int .i64 0])
    have hb1 := hb.below hb0 hb.lt
    have HBB := hide hb1
    rw [← hn] at hs hll hb1 HBB
    have HRD := hide (show Rd (w.alloc (.cells #[.int .i64 0, .int .i64 0, .int .i64 0] 84)) (.slice A n cp) 3 n (rows clE l) from (Sl.rd hs).belowN hb0)
    have hn9 : (n : Int) ≤ 1000 := by omega
    have HN := hide hn
    have wn : IntKind.i64.wrap ((n : Int) - 1) = (n : Int) - 1 := IntWalk.i64_in _ (by omega)
    have i1 := hb1.cell 1
    obtain ⟨w1, hw1⟩ : ∃ y : World, y = w.alloc (.cells #[.int .i64 0, .int .i64 0, .int .i64 0] 84) := ⟨_, rfl⟩
    have HW1 := hide hw1
    rw [← hw1] at HBX HRES HBB HRD
    have t0 := HRES.out.frozen 0
    have t1 := HRES.out.frozen 1
    have t2 := HRES.out.frozen 2
    have t3 := HRES.out.cell 0
    have t4 := HRES.out.cell 1
    have t5 := HRES.out.cell 2
    have b0 := HBB.out.cell 0
    have b1 := HBB.out.cell 1
    clear hs hn hb0 hb hb1 hown hok hll hw1
    rw [hl] at b0
    clear hl hp hch
    go_enter Tryd.func67, Tryd.ntmps67
    go_wp2_with fail
    go_loopw [5] (fun iv wr => ∃ k : Nat, iv = .int .i64 ((k : Int) - 1) ∧ k ≤ n ∧ w1 = wr) (fun iv _ => (intOf iv + 1).toNat)
    case atStart => exact ⟨n, rfl, Nat.le_refl _, HW1.out⟩
    case round =>
      clear i1
      obtain ⟨k, rfl, hk, rfl⟩ := hrel
      by_cases hp : 0 < k
      · obtain ⟨j, rfl⟩ : ∃ j, k = j + 1 := ⟨k - 1, by omega⟩
        rw [show (((j + 1 : Nat) : Int) - 1) = (j : Int) by omega]
        have hj9 : (j : Int) ≤ 1000 := by omega
        have wj : IntKind.i64.wrap ((j : Int) - 1) = (j : Int) - 1 := IntWalk.i64_in _ (by omega)
        have z0 : decide ((0 : Int) ≤ (j : Int)) = true := by simp
        have y0 : decide (j < n) = true := by simp; omega
        have y1 : decide ((j : Int) < (n : Int)) = true := by simp; omega
        have y2 : (j : Int) < (n : Int) := by omega
        obtain ⟨⟨xc, xk, xm⟩, hx⟩ : ∃ x, l[j]? = some x := ⟨_, List.getElem?_eq_getElem (by have := HN.out; omega)⟩
        obtain ⟨g, off, rfl, hc⟩ := HRD.out.cells (by omega)
        have d0 : w1.cell? ⟨g, off + j * 3, none⟩ = some (.int .i64 xc) := hc _ _ ((rows_at clE_len l j 0 _ hx (by omega)).trans rfl)
        have hne := HNO.out _ (List.mem_of_getElem? hx)
        have q0 : (xc == 91) = false := by simpa using hne
        have HJ := hide (show j + 1 ≤ n from hk)
        clear hk hp hx hc hne
        go_wp2_with fail
        go_roundw
        case rel => exact ⟨j, rfl, by have := HJ.out; omega, trivial⟩
        case measure => simp [intOf]
      · obtain rfl : k = 0 := by omega
        rw [show ((0 : Nat) : Int) - 1 = -1 by omega]
        clear hk hp
        go_wp2_with (first | (go_at_call 70; refine (char_any _ _).mono ?_; rintro e w' ⟨rfl, rfl⟩; rw [HCH.out]) | (go_at_call 85; (with_reducible refine Calls.mono (HF0.out _) ?_); rintro e w' ⟨rfl, rfl⟩) | (go_at_call 85; (with_reducible refine Calls.mono (HF1.out _) ?_); rintro e w' ⟨rfl, rfl⟩) | (go_at_call 85; (with_reducible refine Calls.mono (HF2.out _) ?_); rintro e w' ⟨rfl, rfl⟩) | (go_at_call 85; (with_reducible refine Calls.mono (HF3.out _) ?_); rintro e w' ⟨rfl, rfl⟩))
        refine bodyPost_ret (results_cell_row rfl _ _ w.heap.size 84 #[.int .i64 91, .int .i64 (4), .int .i64 (93)] (0, 0) _ rfl (((HRES.out.set_ 0 _).set_ 1 _).set_ 2 _) Tryd.underlying84 rfl (by kernel_rfl)) rfl ?_
        exact ⟨by rw [HE.out.1, HE.out.2], ((HBX.out.setCell (p := ⟨w.heap.size, 0, none⟩) (Nat.le_refl _) _).setCell (p := ⟨w.heap.size, 1, none⟩) (Nat.le_refl _) _).setCell (p := ⟨w.heap.size, 2, none⟩) (Nat.le_refl _) _⟩
  · subst hc
    have yb : ((⟨#[40, 91]⟩ : ByteArray)[0]'(by decide)).toNat = 40 := rfl
    have HCH := hide hch
    have HE := hide (ent_lisp hch hp hl (show lispE 41 = (5, 40) by decide))
    have HF0 := hide (fun (y : World) => of_any ⟨#[40, 91]⟩ 41 (by decide) y)
    rw [show ofZ (strB ⟨#[40, 91]⟩) 41 = -1 by decide] at HF0
    have HF1 := hide (fun (y : World) => of_any ⟨#[41, 93]⟩ 41 (by decide) y)
    rw [show ofZ (strB ⟨#[41, 93]⟩) 41 = 0 by decide] at HF1
    have HF2 := hide (fun (y : World) => of_any ⟨#[39, 96, 44]⟩ 41 (by decide) y)
    rw [show ofZ (strB ⟨#[39, 96, 44]⟩) 41 = -1 by decide] at HF2
    have HF3 := hide (fun (y : World) => of_any ⟨#[45, 43, 42, 47, 60, 62, 61, 33, 63, 36, 37, 38, 95, 126, 94, 58, 123, 125, 124, 46, 64, 35]⟩ 41 (by decide) y)
    rw [show ofZ (strB ⟨#[45, 43, 42, 47, 60, 62, 61, 33, 63, 36, 37, 38, 95, 126, 94, 58, 123, 125, 124, 46, 64, 35]⟩) 41 = -1 by decide] at HF3
    obtain ⟨v, l, hb, hs, hown, hll, hok⟩ := h
    obtain ⟨A, cp, rfl, _⟩ := hs.form
    have HNO := hide (show ∀ x ∈ l, x.1 ≠ 41 from fun x hx => none_pick hp x (by rw [hown]; exact List.mem_reverse.2 hx))
    obtain ⟨n, hn⟩ : ∃ n, n = l.length := ⟨_, rfl⟩
    have hb0 := below_box w (.cells #[.int .i64 0, .int .i64 0, .int .i64 0] 84)
    have HBX := hide hb0
    have HRES := hide (Blk.new w 84 #[.int .i64 0, .int .i64 0, .int .i64 0])
    have hb1 := hb.below hb0 hb.lt
    have HBB := hide hb1
    rw [← hn] at hs hll hb1 HBB
    have HRD := hide (show Rd (w.alloc (.cells #[.int .i64 0, .int .i64 0, .int .i64 0] 84)) (.slice A n cp) 3 n (rows clE l) from (Sl.rd hs).belowN hb0)
    have hn9 : (n : Int) ≤ 1000 := by omega
    have HN := hide hn
    have wn : IntKind.i64.wrap ((n : Int) - 1) = (n : Int) - 1 := IntWalk.i64_in _ (by omega)
    have i1 := hb1.cell 1
    obtain ⟨w1, hw1⟩ : ∃ y : World, y = w.alloc (.cells #[.int .i64 0, .int .i64 0, .int .i64 0] 84) := ⟨_, rfl⟩
    have HW1 := hide hw1
    rw [← hw1] at HBX HRES HBB HRD
    have t0 := HRES.out.frozen 0
    have t1 := HRES.out.frozen 1
    have t2 := HRES.out.frozen 2
    have t3 := HRES.out.cell 0
    have t4 := HRES.out.cell 1
    have t5 := HRES.out.cell 2
    have b0 := HBB.out.cell 0
    have b1 := HBB.out.cell 1
    clear hs hn hb0 hb hb1 hown hok hll hw1
    rw [hl] at b0
    clear hl hp hch
    go_enter Tryd.func67, Tryd.ntmps67
    go_wp2_with fail
    go_loopw [5] (fun iv wr => ∃ k : Nat, iv = .int .i64 ((k : Int) - 1) ∧ k ≤ n ∧ w1 = wr) (fun iv _ => (intOf iv + 1).toNat)
    case atStart => exact ⟨n, rfl, Nat.le_refl _, HW1.out⟩
    case round =>
      clear i1
      obtain ⟨k, rfl, hk, rfl⟩ := hrel
      by_cases hp : 0 < k
      · obtain ⟨j, rfl⟩ : ∃ j, k = j + 1 := ⟨k - 1, by omega⟩
        rw [show (((j + 1 : Nat) : Int) - 1) = (j : Int) by omega]
        have hj9 : (j : Int) ≤ 1000 := by omega
        have wj : IntKind.i64.wrap ((j : Int) - 1) = (j : Int) - 1 := IntWalk.i64_in _ (by omega)
        have z0 : decide ((0 : Int) ≤ (j : Int)) = true := by simp
        have y0 : decide (j < n) = true := by simp; omega
        have y1 : decide ((j : Int) < (n : Int)) = true := by simp; omega
        have y2 : (j : Int) < (n : Int) := by omega
        obtain ⟨⟨xc, xk, xm⟩, hx⟩ : ∃ x, l[j]? = some x := ⟨_, List.getElem?_eq_getElem (by have := HN.out; omega)⟩
        obtain ⟨g, off, rfl, hc⟩ := HRD.out.cells (by omega)
        have d0 : w1.cell? ⟨g, off + j * 3, none⟩ = some (.int .i64 xc) := hc _ _ ((rows_at clE_len l j 0 _ hx (by omega)).trans rfl)
        have hne := HNO.out _ (List.mem_of_getElem? hx)
        have q0 : (xc == 41) = false := by simpa using hne
        have HJ := hide (show j + 1 ≤ n from hk)
        clear hk hp hx hc hne
        go_wp2_with fail
        go_roundw
        case rel => exact ⟨j, rfl, by have := HJ.out; omega, trivial⟩
        case measure => simp [intOf]
      · obtain rfl : k = 0 := by omega
        rw [show ((0 : Nat) : Int) - 1 = -1 by omega]
        clear hk hp
        go_wp2_with (first | (go_at_call 70; refine (char_any _ _).mono ?_; rintro e w' ⟨rfl, rfl⟩; rw [HCH.out]) | (go_at_call 85; (with_reducible refine Calls.mono (HF0.out _) ?_); rintro e w' ⟨rfl, rfl⟩) | (go_at_call 85; (with_reducible refine Calls.mono (HF1.out _) ?_); rintro e w' ⟨rfl, rfl⟩) | (go_at_call 85; (with_reducible refine Calls.mono (HF2.out _) ?_); rintro e w' ⟨rfl, rfl⟩) | (go_at_call 85; (with_reducible refine Calls.mono (HF3.out _) ?_); rintro e w' ⟨rfl, rfl⟩))
        refine bodyPost_ret (results_cell_row rfl _ _ w.heap.size 84 #[.int .i64 41, .int .i64 (5), .int .i64 (40)] (0, 0) _ rfl (((HRES.out.set_ 0 _).set_ 1 _).set_ 2 _) Tryd.underlying84 rfl (by kernel_rfl)) rfl ?_
        exact ⟨by rw [HE.out.1, HE.out.2], ((HBX.out.setCell (p := ⟨w.heap.size, 0, none⟩) (Nat.le_refl _) _).setCell (p := ⟨w.heap.size, 1, none⟩) (Nat.le_refl _) _).setCell (p := ⟨w.heap.size, 2, none⟩) (Nat.le_refl _) _⟩
  · subst hc
    have yb : ((⟨#[40, 91]⟩ : ByteArray)[1]'(by decide)).toNat = 91 := rfl
    have HCH := hide hch
    have HE := hide (ent_lisp hch hp hl (show lispE 93 = (5, 91) by decide))
    have HF0 := hide (fun (y : World) => of_any ⟨#[40, 91]⟩ 93 (by decide) y)
    rw [show ofZ (strB ⟨#[40, 91]⟩) 93 = -1 by decide] at HF0
    have HF1 := hide (fun (y : World) => of_any ⟨#[41, 93]⟩ 93 (by decide) y)
    rw [show ofZ (strB ⟨#[41, 93]⟩) 93 = 1 by decide] at HF1
    have HF2 := hide (fun (y : World) => of_any ⟨#[39, 96, 44]⟩ 93 (by decide) y)
    rw [show ofZ (strB ⟨#[39, 96, 44]⟩) 93 = -1 by decide] at HF2
    have HF3 := hide (fun (y : World) => of_any ⟨#[45, 43, 42, 47, 60, 62, 61, 33, 63, 36, 37, 38, 95, 126, 94, 58, 123, 125, 124, 46, 64, 35]⟩ 93 (by decide) y)
    rw [show ofZ (strB ⟨#[45, 43, 42, 47, 60, 62, 61, 33, 63, 36, 37, 38, 95, 126, 94, 58, 123, 125, 124, 46, 64, 35]⟩) 93 = -1 by decide] at HF3
    obtain ⟨v, l, hb, hs, hown, hll, hok⟩ := h
    obtain ⟨A, cp, rfl, _⟩ := hs.form
    have HNO := hide (show ∀ x ∈ l, x.1 ≠ 93 from fun x hx => none_pick hp x (by rw [hown]; exact List.mem_reverse.2 hx))
    obtain ⟨n, hn⟩ : ∃ n, n = l.length := ⟨_, rfl⟩
    have hb0 := below_box w (.cells #[.int .i64 0, .int .i64 0, .int .i64 0] 84)
    have HBX := hide hb0
    have HRES := hide (Blk.new w 84 #[.int .i64 0, .int .i64 0, .int .i64 0])
    have hb1 := hb.below hb0 hb.lt
    have HBB := hide hb1
    rw [← hn] at hs hll hb1 HBB
    have HRD := hide (show Rd (w.alloc (.cells #[.int .i64 0, .int .i64 0, .int .i64 0] 84)) (.slice A n cp) 3 n (rows clE l) from (Sl.rd hs).belowN hb0)
    have hn9 : (n : Int) ≤ 1000 := by omega
    have HN := hide hn
    have wn : IntKind.i64.wrap ((n : Int) - 1) = (n : Int) - 1 := IntWalk.i64_in _ (by omega)
    have i1 := hb1.cell 1
    obtain ⟨w1, hw1⟩ : ∃ y : World, y = w.alloc (.cells #[.int .i64 0, .int .i64 0, .int .i64 0] 84) := ⟨_, rfl⟩
    have HW1 := hide hw1
    rw [← hw1] at HBX HRES HBB HRD
    have t0 := HRES.out.frozen 0
    have t1 := HRES.out.frozen 1
    have t2 := HRES.out.frozen 2
    have t3 := HRES.out.cell 0
    have t4 := HRES.out.cell 1
    have t5 := HRES.out.cell 2
    have b0 := HBB.out.cell 0
    have b1 := HBB.out.cell 1
    clear hs hn hb0 hb hb1 hown hok hll hw1
    rw [hl] at b0
    clear hl hp hch
    go_enter Tryd.func67, Tryd.ntmps67
    go_wp2_with fail
    go_loopw [5] (fun iv wr => ∃ k : Nat, iv = .int .i64 ((k : Int) - 1) ∧ k ≤ n ∧ w1 = wr) (fun iv _ => (intOf iv + 1).toNat)
    case atStart => exact ⟨n, rfl, Nat.le_refl _, HW1.out⟩
    case round =>
      clear i1
      obtain ⟨k, rfl, hk, rfl⟩ := hrel
      by_cases hp : 0 < k
      · obtain ⟨j, rfl⟩ : ∃ j, k = j + 1 := ⟨k - 1, by omega⟩
        rw [show (((j + 1 : Nat) : Int) - 1) = (j : Int) by omega]
        have hj9 : (j : Int) ≤ 1000 := by omega
        have wj : IntKind.i64.wrap ((j : Int) - 1) = (j : Int) - 1 := IntWalk.i64_in _ (by omega)
        have z0 : decide ((0 : Int) ≤ (j : Int)) = true := by simp
        have y0 : decide (j < n) = true := by simp; omega
        have y1 : decide ((j : Int) < (n : Int)) = true := by simp; omega
        have y2 : (j : Int) < (n : Int) := by omega
        obtain ⟨⟨xc, xk, xm⟩, hx⟩ : ∃ x, l[j]? = some x := ⟨_, List.getElem?_eq_getElem (by have := HN.out; omega)⟩
        obtain ⟨g, off, rfl, hc⟩ := HRD.out.cells (by omega)
        have d0 : w1.cell? ⟨g, off + j * 3, none⟩ = some (.int .i64 xc) := hc _ _ ((rows_at clE_len l j 0 _ hx (by omega)).trans rfl)
        have hne := HNO.out _ (List.mem_of_getElem? hx)
        have q0 : (xc == 93) = false := by simpa using hne
        have HJ := hide (show j + 1 ≤ n from hk)
        clear hk hp hx hc hne
        go_wp2_with fail
        go_roundw
        case rel => exact ⟨j, rfl, by have := HJ.out; omega, trivial⟩
        case measure => simp [intOf]
      · obtain rfl : k = 0 := by omega
        rw [show ((0 : Nat) : Int) - 1 = -1 by omega]
        clear hk hp
        go_wp2_with (first | (go_at_call 70; refine (char_any _ _).mono ?_; rintro e w' ⟨rfl, rfl⟩; rw [HCH.out]) | (go_at_call 85; (with_reducible refine Calls.mono (HF0.out _) ?_); rintro e w' ⟨rfl, rfl⟩) | (go_at_call 85; (with_reducible refine Calls.mono (HF1.out _) ?_); rintro e w' ⟨rfl, rfl⟩) | (go_at_call 85; (with_reducible refine Calls.mono (HF2.out _) ?_); rintro e w' ⟨rfl, rfl⟩) | (go_at_call 85; (with_reducible refine Calls.mono (HF3.out _) ?_); rintro e w' ⟨rfl, rfl⟩))
        refine bodyPost_ret (results_cell_row rfl _ _ w.heap.size 84 #[.int .i64 93, .int .i64 (5), .int .i64 (91)] (0, 0) _ rfl (((HRES.out.set_ 0 _).set_ 1 _).set_ 2 _) Tryd.underlying84 rfl (by kernel_rfl)) rfl ?_
        exact ⟨by rw [HE.out.1, HE.out.2], ((HBX.out.setCell (p := ⟨w.heap.size, 0, none⟩) (Nat.le_refl _) _).setCell (p := ⟨w.heap.size, 1, none⟩) (Nat.le_refl _) _).setCell (p := ⟨w.heap.size, 2, none⟩) (Nat.le_refl _) _⟩
  · subst hc
    have HCH := hide hch
    have HE := hide (ent_lisp hch hp hl (show lispE 34 = (6, 0) by decide))
    have HF0 := hide (fun (y : World) => of_any ⟨#[40, 91]⟩ 34 (by decide) y)
    rw [show ofZ (strB ⟨#[40, 91]⟩) 34 = -1 by decide] at HF0
    have HF1 := hide (fun (y : World) => of_any ⟨#[41, 93]⟩ 34 (by decide) y)
    rw [show ofZ (strB ⟨#[41, 93]⟩) 34 = -1 by decide] at HF1
    have HF2 := hide (fun (y : World) => of_any ⟨#[39, 96, 44]⟩ 34 (by decide) y)
    rw [show ofZ (strB ⟨#[39, 96, 44]⟩) 34 = -1 by decide] at HF2
    have HF3 := hide (fun (y : World) => of_any ⟨#[45, 43, 42, 47, 60, 62, 61, 33, 63, 36, 37, 38, 95, 126, 94, 58, 123, 125, 124, 46, 64, 35]⟩ 34 (by decide) y)
    rw [show ofZ (strB ⟨#[45, 43, 42, 47, 60, 62, 61, 33, 63, 36, 37, 38, 95, 126, 94, 58, 123, 125, 124, 46, 64, 35]⟩) 34 = -1 by decide] at HF3
    obtain ⟨v, l, hb, hs, hown, hll, hok⟩ := h
    obtain ⟨A, cp, rfl, _⟩ := hs.form
    have HNO := hide (show ∀ x ∈ l, x.1 ≠ 34 from fun x hx => none_pick hp x (by rw [hown]; exact List.mem_reverse.2 hx))
    obtain ⟨n, hn⟩ : ∃ n, n = l.length := ⟨_, rfl⟩
    have hb0 := below_box w (.cells #[.int .i64 0, .int .i64 0, .int .i64 0] 84)
    have HBX := hide hb0
    have HRES := hide (Blk.new w 84 #[.int .i64 0, .int .i64 0, .int .i64 0])
    have hb1 := hb.below hb0 hb.lt
    have HBB := hide hb1
    rw [← hn] at hs hll hb1 HBB
    have HRD := hide (show Rd (w.alloc (.cells #[.int .i64 0, .int .i64 0, .int .i64 0] 84)) (.slice A n cp) 3 n (rows clE l) from (Sl.rd hs).belowN hb0)
    have hn9 : (n : Int) ≤ 1000 := by omega
    have HN := hide hn
    have wn : IntKind.i64.wrap ((n : Int) - 1) = (n : Int) - 1 := IntWalk.i64_in _ (by omega)
    have i1 := hb1.cell 1
    obtain ⟨w1, hw1⟩ : ∃ y : World, y = w.alloc (.cells #[.int .i64 0, .int .i64 0, .int .i64 0] 84) := ⟨_, rfl⟩
    have HW1 := hide hw1
    rw [← hw1] at HBX HRES HBB HRD
    have t0 := HRES.out.frozen 0
    have t1 := HRES.out.frozen 1
    have t2 := HRES.out.frozen 2
    have t3 := HRES.out.cell 0
    have t4 := HRES.out.cell 1
    have t5 := HRES.out.cell 2
    have b0 := HBB.out.cell 0
    have b1 := HBB.out.cell 1
    clear hs hn hb0 hb hb1 hown hok hll hw1
    rw [hl] at b0
    clear hl hp hch
    go_enter Tryd.func67, Tryd.ntmps67
    go_wp2_with fail
    go_loopw [5] (fun iv wr => ∃ k : Nat, iv = .int .i64 ((k : Int) - 1) ∧ k ≤ n ∧ w1 = wr) (fun iv _ => (intOf iv + 1).toNat)
    case atStart => exact ⟨n, rfl, Nat.le_refl _, HW1.out⟩
    case round =>
      clear i1
      obtain ⟨k, rfl, hk, rfl⟩ := hrel
      by_cases hp : 0 < k
      · obtain ⟨j, rfl⟩ : ∃ j, k = j + 1 := ⟨k - 1, by omega⟩
        rw [show (((j + 1 : Nat) : Int) - 1) = (j : Int) by omega]
        have hj9 : (j : Int) ≤ 1000 := by omega
        have wj : IntKind.i64.wrap ((j : Int) - 1) = (j : Int) - 1 := IntWalk.i64_in _ (by omega)
        have z0 : decide ((0 : Int) ≤ (j : Int)) = true := by simp
        have y0 : decide (j < n) = true := by simp; omega
        have y1 : decide ((j : Int) < (n : Int)) = true := by simp; omega
        have y2 : (j : Int) < (n : Int) := by omega
        obtain ⟨⟨xc, xk, xm⟩, hx⟩ : ∃ x, l[j]? = some x := ⟨_, List.getElem?_eq_getElem (by have := HN.out; omega)⟩
        obtain ⟨g, off, rfl, hc⟩ := HRD.out.cells (by omega)
        have d0 : w1.cell? ⟨g, off + j * 3, none⟩ = some (.int .i64 xc) := hc _ _ ((rows_at clE_len l j 0 _ hx (by omega)).trans rfl)
        have hne := HNO.out _ (List.mem_of_getElem? hx)
        have q0 : (xc == 34) = false := by simpa using hne
        have HJ := hide (show j + 1 ≤ n from hk)
        clear hk hp hx hc hne
        go_wp2_with fail
        go_roundw
        case rel => exact ⟨j, rfl, by have := HJ.out; omega, trivial⟩
        case measure => simp [intOf]
      · obtain rfl : k = 0 := by omega
        rw [show ((0 : Nat) : Int) - 1 = -1 by omega]
        clear hk hp
        go_wp2_with (first | (go_at_call 70; refine (char_any _ _).mono ?_; rintro e w' ⟨rfl, rfl⟩; rw [HCH.out]) | (go_at_call 85; (with_reducible refine Calls.mono (HF0.out _) ?_); rintro e w' ⟨rfl, rfl⟩) | (go_at_call 85; (with_reducible refine Calls.mono (HF1.out _) ?_); rintro e w' ⟨rfl, rfl⟩) | (go_at_call 85; (with_reducible refine Calls.mono (HF2.out _) ?_); rintro e w' ⟨rfl, rfl⟩) | (go_at_call 85; (with_reducible refine Calls.mono (HF3.out _) ?_); rintro e w' ⟨rfl, rfl⟩))
        refine bodyPost_ret (results_cell_row rfl _ _ w.heap.size 84 #[.int .i64 34, .int .i64 (6), .int .i64 (0)] (0, 0) _ rfl (((HRES.out.set_ 0 _).set_ 1 _).set_ 2 _) Tryd.underlying84 rfl (by kernel_rfl)) rfl ?_
        exact ⟨by rw [HE.out.1, HE.out.2], ((HBX.out.setCell (p := ⟨w.heap.size, 0, none⟩) (Nat.le_refl _) _).setCell (p := ⟨w.heap.size, 1, none⟩) (Nat.le_refl _) _).setCell (p := ⟨w.heap.size, 2, none⟩) (Nat.le_refl _) _⟩
  · subst hc
    have HCH := hide hch
    have HE := hide (ent_lisp hch hp hl (show lispE 92 = (7, 0) by decide))
    have HF0 := hide (fun (y : World) => of_any ⟨#[40, 91]⟩ 92 (by decide) y)
    rw [show ofZ (strB ⟨#[40, 91]⟩) 92 = -1 by decide] at HF0
    have HF1 := hide (fun (y : World) => of_any ⟨#[41, 93]⟩ 92 (by decide) y)
    rw [show ofZ (strB ⟨#[41, 93]⟩) 92 = -1 by decide] at HF1
    have HF2 := hide (fun (y : World) => of_any ⟨#[39, 96, 44]⟩ 92 (by decide) y)
    rw [show ofZ (strB ⟨#[39, 96, 44]⟩) 92 = -1 by decide] at HF2
    have HF3 := hide (fun (y : World) => of_any ⟨#[45, 43, 42, 47, 60, 62, 61, 33, 63, 36, 37, 38, 95, 126, 94, 58, 123, 125, 124, 46, 64, 35]⟩ 92 (by decide) y)
    rw [show ofZ (strB ⟨#[45, 43, 42, 47, 60, 62, 61, 33, 63, 36, 37, 38, 95, 126, 94, 58, 123, 125, 124, 46, 64, 35]⟩) 92 = -1 by decide] at HF3
    obtain ⟨v, l, hb, hs, hown, hll, hok⟩ := h
    obtain ⟨A, cp, rfl, _⟩ := hs.form
    have HNO := hide (show ∀ x ∈ l, x.1 ≠ 92 from fun x hx => none_pick hp x (by rw [hown]; exact List.mem_reverse.2 hx))
    obtain ⟨n, hn⟩ : ∃ n, n = l.length := ⟨_, rfl⟩
    have hb0 := below_box w (.cells #[.int .i64 0, .int .i64 0, .int .i64 0] 84)
    have HBX := hide hb0
    have HRES := hide (Blk.new w 84 #[.int .i64 0, .int .i64 0, .int .i64 0])
    have hb1 := hb.below hb0 hb.lt
    have HBB := hide hb1
    rw [← hn] at hs hll hb1 HBB
    have HRD := hide (show Rd (w.alloc (.cells #[.int .i64 0, .int .i64 0, .int .i64 0] 84)) (.slice A n cp) 3 n (rows clE l) from (Sl.rd hs).belowN hb0)
    have hn9 : (n : Int) ≤ 1000 := by omega
    have HN := hide hn
    have wn : IntKind.i64.wrap ((n : Int) - 1) = (n : Int) - 1 := IntWalk.i64_in _ (by omega)
    have i1 := hb1.cell 1
    obtain ⟨w1, hw1⟩ : ∃ y : World, y = w.alloc (.cells #[.int .i64 0, .int .i64 0, .int .i64 0] 84) := ⟨_, rfl⟩
    have HW1 := hide hw1
    rw [← hw1] at HBX HRES HBB HRD
    have t0 := HRES.out.frozen 0
    have t1 := HRES.out.frozen 1
    have t2 := HRES.out.frozen 2
    have t3 := HRES.out.cell 0
    have t4 := HRES.out.cell 1
    have t5 := HRES.out.cell 2
    have b0 := HBB.out.cell 0
    have b1 := HBB.out.cell 1
    clear hs hn hb0 hb hb1 hown hok hll hw1
    rw [hl] at b0
    clear hl hp hch
    go_enter Tryd.func67, Tryd.ntmps67
    go_wp2_with fail
    go_loopw [5] (fun iv wr => ∃ k : Nat, iv = .int .i64 ((k : Int) - 1) ∧ k ≤ n ∧ w1 = wr) (fun iv _ => (intOf iv + 1).toNat)
    case atStart => exact ⟨n, rfl, Nat.le_refl _, HW1.out⟩
    case round =>
      clear i1
      obtain ⟨k, rfl, hk, rfl⟩ := hrel
      by_cases hp : 0 < k
      · obtain ⟨j, rfl⟩ : ∃ j, k = j + 1 := ⟨k - 1, by omega⟩
        rw [show (((j + 1 : Nat) : Int) - 1) = (j : Int) by omega]
        have hj9 : (j : Int) ≤ 1000 := by omega
        have wj : IntKind.i64.wrap ((j : Int) - 1) = (j : Int) - 1 := IntWalk.i64_in _ (by omega)
        have z0 : decide ((0 : Int) ≤ (j : Int)) = true := by simp
        have y0 : decide (j < n) = true := by simp; omega
        have y1 : decide ((j : Int) < (n : Int)) = true := by simp; omega
        have y2 : (j : Int) < (n : Int) := by omega
        obtain ⟨⟨xc, xk, xm⟩, hx⟩ : ∃ x, l[j]? = some x := ⟨_, List.getElem?_eq_getElem (by have := HN.out; omega)⟩
        obtain ⟨g, off, rfl, hc⟩ := HRD.out.cells (by omega)
        have d0 : w1.cell? ⟨g, off + j * 3, none⟩ = some (.int .i64 xc) := hc _ _ ((rows_at clE_len l j 0 _ hx (by omega)).trans rfl)
        have hne := HNO.out _ (List.mem_of_getElem? hx)
        have q0 : (xc == 92) = false := by simpa using hne
        have HJ := hide (show j + 1 ≤ n from hk)
        clear hk hp hx hc hne
        go_wp2_with fail
        go_roundw
        case rel => exact ⟨j, rfl, by have := HJ.out; omega, trivial⟩
        case measure => simp [intOf]
      · obtain rfl : k = 0 := by omega
        rw [show ((0 : Nat) : Int) - 1 = -1 by omega]
        clear hk hp
        go_wp2_with (first | (go_at_call 70; refine (char_any _ _).mono ?_; rintro e w' ⟨rfl, rfl⟩; rw [HCH.out]) | (go_at_call 85; (with_reducible refine Calls.mono (HF0.out _) ?_); rintro e w' ⟨rfl, rfl⟩) | (go_at_call 85; (with_reducible refine Calls.mono (HF1.out _) ?_); rintro e w' ⟨rfl, rfl⟩) | (go_at_call 85; (with_reducible refine Calls.mono (HF2.out _) ?_); rintro e w' ⟨rfl, rfl⟩) | (go_at_call 85; (with_reducible refine Calls.mono (HF3.out _) ?_); rintro e w' ⟨rfl, rfl⟩))
        refine bodyPost_ret (results_cell_row rfl _ _ w.heap.size 84 #[.int .i64 92, .int .i64 (7), .int .i64 (0)] (0, 0) _ rfl (((HRES.out.set_ 0 _).set_ 1 _).set_ 2 _) Tryd.underlying84 rfl (by kernel_rfl)) rfl ?_
        exact ⟨by rw [HE.out.1, HE.out.2], ((HBX.out.setCell (p := ⟨w.heap.size, 0, none⟩) (Nat.le_refl _) _).setCell (p := ⟨w.heap.size, 1, none⟩) (Nat.le_refl _) _).setCell (p := ⟨w.heap.size, 2, none⟩) (Nat.le_refl _) _⟩
  · subst hc
    have HCH := hide hch
    have HE := hide (ent_lisp hch hp hl (show lispE 59 = (8, 0) by decide))
    have HF0 := hide (fun (y : World) => of_any ⟨#[40, 91]⟩ 59 (by decide) y)
    rw [show ofZ (strB ⟨#[40, 91]⟩) 59 = -1 by decide] at HF0
    have HF1 := hide (fun (y : World) => of_any ⟨#[41, 93]⟩ 59 (by decide) y)
    rw [show ofZ (strB ⟨#[41, 93]⟩) 59 = -1 by decide] at HF1
    have HF2 := hide (fun (y : World) => of_any ⟨#[39, 96, 44]⟩ 59 (by decide) y)
    rw [show ofZ (strB ⟨#[39, 96, 44]⟩) 59 = -1 by decide] at HF2
    have HF3 := hide (fun (y : World) => of_any ⟨#[45, 43, 42, 47, 60, 62, 61, 33, 63, 36, 37, 38, 95, 126, 94, 58, 123, 125, 124, 46, 64, 35]⟩ 59 (by decide) y)
    rw [show ofZ (strB ⟨#[45, 43, 42, 47, 60, 62, 61, 33, 63, 36, 37, 38, 95, 126, 94, 58, 123, 125, 124, 46, 64, 35]⟩) 59 = -1 by decide] at HF3
    obtain ⟨v, l, hb, hs, hown, hll, hok⟩ := h
    obtain ⟨A, cp, rfl, _⟩ := hs.form
    have HNO := hide (show ∀ x ∈ l, x.1 ≠ 59 from fun x hx => none_pick hp x (by rw [hown]; exact List.mem_reverse.2 hx))
    obtain ⟨n, hn⟩ : ∃ n, n = l.length := ⟨_, rfl⟩
    have hb0 := below_box w (.cells #[.int .i64 0, .int .i64 0, .int .i64 0] 84)
    have HBX := hide hb0
    have HRES := hide (Blk.new w 84 #[.int .i64 0, .int .i64 0, .int .i64 0])
    have hb1 := hb.below hb0 hb.lt
    have HBB := hide hb1
    rw [← hn] at hs hll hb1 HBB
    have HRD := hide (show Rd (w.alloc (.cells #[.int .i64 0, .int .i64 0, .int .i64 0] 84)) (.slice A n cp) 3 n (rows clE l) from (Sl.rd hs).belowN hb0)
    have hn9 : (n : Int) ≤ 1000 := by omega
    have HN := hide hn
    have wn : IntKind.i64.wrap ((n : Int) - 1) = (n : Int) - 1 := IntWalk.i64_in _ (by omega)
    have i1 := hb1.cell 1
    obtain ⟨w1, hw1⟩ : ∃ y : World, y = w.alloc (.cells #[.int .i64 0, .int .i64 0, .int .i64 0] 84) := ⟨_, rfl⟩
    have HW1 := hide hw1
    rw [← hw1] at HBX HRES HBB HRD
    have t0 := HRES.out.frozen 0
    have t1 := HRES.out.frozen 1
    have t2 := HRES.out.frozen 2
    have t3 := HRES.out.cell 0
    have t4 := HRES.out.cell 1
    have t5 := HRES.out.cell 2
    have b0 := HBB.out.cell 0
    have b1 := HBB.out.cell 1
    clear hs hn hb0 hb hb1 hown hok hll hw1
    rw [hl] at b0
    clear hl hp hch
    go_enter Tryd.func67, Tryd.ntmps67
    go_wp2_with fail
    go_loopw [5] (fun iv wr => ∃ k : Nat, iv = .int .i64 ((k : Int) - 1) ∧ k ≤ n ∧ w1 = wr) (fun iv _ => (intOf iv + 1).toNat)
    case atStart => exact ⟨n, rfl, Nat.le_refl _, HW1.out⟩
    case round =>
      clear i1
      obtain ⟨k, rfl, hk, rfl⟩ := hrel
      by_cases hp : 0 < k
      · obtain ⟨j, rfl⟩ : ∃ j, k = j + 1 := ⟨k - 1, by omega⟩
        rw [show (((j + 1 : Nat) : Int) - 1) = (j : Int) by omega]
        have hj9 : (j : Int) ≤ 1000 := by omega
        have wj : IntKind.i64.wrap ((j : Int) - 1) = (j : Int) - 1 := IntWalk.i64_in _ (by omega)
        have z0 : decide ((0 : Int) ≤ (j : Int)) = true := by simp
        have y0 : decide (j < n) = true := by simp; omega
        have y1 : decide ((j : Int) < (n : Int)) = true := by simp; omega
        have y2 : (j : Int) < (n : Int) := by omega
        obtain ⟨⟨xc, xk, xm⟩, hx⟩ : ∃ x, l[j]? = some x := ⟨_, List.getElem?_eq_getElem (by have := HN.out; omega)⟩
        obtain ⟨g, off, rfl, hc⟩ := HRD.out.cells (by omega)
        have d0 : w1.cell? ⟨g, off + j * 3, none⟩ = some (.int .i64 xc) := hc _ _ ((rows_at clE_len l j 0 _ hx (by omega)).trans rfl)
        have hne := HNO.out _ (List.mem_of_getElem? hx)
        have q0 : (xc == 59) = false := by simpa using hne
        have HJ := hide (show j + 1 ≤ n from hk)
        clear hk hp hx hc hne
        go_wp2_with fail
        go_roundw
        case rel => exact ⟨j, rfl, by have := HJ.out; omega, trivial⟩
        case measure => simp [intOf]
      · obtain rfl : k = 0 := by omega
        rw [show ((0 : Nat) : Int) - 1 = -1 by omega]
        clear hk hp
        go_wp2_with (first | (go_at_call 70; refine (char_any _ _).mono ?_; rintro e w' ⟨rfl, rfl⟩; rw [HCH.out]) | (go_at_call 85; (with_reducible refine Calls.mono (HF0.out _) ?_); rintro e w' ⟨rfl, rfl⟩) | (go_at_call 85; (with_reducible refine Calls.mono (HF1.out _) ?_); rintro e w' ⟨rfl, rfl⟩) | (go_at_call 85; (with_reducible refine Calls.mono (HF2.out _) ?_); rintro e w' ⟨rfl, rfl⟩) | (go_at_call 85; (with_reducible refine Calls.mono (HF3.out _) ?_); rintro e w' ⟨rfl, rfl⟩))
        refine bodyPost_ret (results_cell_row rfl _ _ w.heap.size 84 #[.int .i64 59, .int .i64 (8), .int .i64 (0)] (0, 0) _ rfl (((HRES.out.set_ 0 _).set_ 1 _).set_ 2 _) Tryd.underlying84 rfl (by kernel_rfl)) rfl ?_
        exact ⟨by rw [HE.out.1, HE.out.2], ((HBX.out.setCell (p := ⟨w.heap.size, 0, none⟩) (Nat.le_refl _) _).setCell (p := ⟨w.heap.size, 1, none⟩) (Nat.le_refl _) _).setCell (p := ⟨w.heap.size, 2, none⟩) (Nat.le_refl _) _⟩
  · subst hc
    have HCH := hide hch
    have HE := hide (ent_lisp hch hp hl (show lispE 10 = (9, 0) by decide))
    have HF0 := hide (fun (y : World) => of_any ⟨#[40, 91]⟩ 10 (by decide) y)
    rw [show ofZ (strB ⟨#[40, 91]⟩) 10 = -1 by decide] at HF0
    have HF1 := hide (fun (y : World) => of_any ⟨#[41, 93]⟩ 10 (by decide) y)
    rw [show ofZ (strB ⟨#[41, 93]⟩) 10 = -1 by decide] at HF1
    have HF2 := hide (fun (y : World) => of_any ⟨#[39, 96, 44]⟩ 10 (by decide) y)
    rw [show ofZ (strB ⟨#[39, 96, 44]⟩) 10 = -1 by decide] at HF2
    have HF3 := hide (fun (y : World) => of_any ⟨#[45, 43, 42, 47, 60, 62, 61, 33, 63, 36, 37, 38, 95, 126, 94, 58, 123, 125, 124, 46, 64, 35]⟩ 10 (by decide) y)
    rw [show ofZ (strB ⟨#[45, 43, 42, 47, 60, 62, 61, 33, 63, 36, 37, 38, 95, 126, 94, 58, 123, 125, 124, 46, 64, 35]⟩) 10 = -1 by decide] at HF3
    obtain ⟨v, l, hb, hs, hown, hll, hok⟩ := h
    obtain ⟨A, cp, rfl, _⟩ := hs.form
    have HNO := hide (show ∀ x ∈ l, x.1 ≠ 10 from fun x hx => none_pick hp x (by rw [hown]; exact List.mem_reverse.2 hx))
    obtain ⟨n, hn⟩ : ∃ n, n = l.length := ⟨_, rfl⟩
    have hb0 := below_box w (.cells #[.int .i64 0, .int .i64 0, .int .i64 0] 84)
    have HBX := hide hb0
    have HRES := hide (Blk.new w 84 #[.int .i64 0, .int .i64 0, .int .i64 0])
    have hb1 := hb.below hb0 hb.lt
    have HBB := hide hb1
    rw [← hn] at hs hll hb1 HBB
    have HRD := hide (show Rd (w.alloc (.cells #[.int .i64 0, .int .i64 0, .int .i64 0] 84)) (.slice A n cp) 3 n (rows clE l) from (Sl.rd hs).belowN hb0)
    have hn9 : (n : Int) ≤ 1000 := by omega
    have HN := hide hn
    have wn : IntKind.i64.wrap ((n : Int) - 1) = (n : Int) - 1 := IntWalk.i64_in _ (by omega)
    have i1 := hb1.cell 1
    obtain ⟨w1, hw1⟩ : ∃ y : World, y = w.alloc (.cells #[.int .i64 0, .int .i64 0, .int .i64 0] 84) := ⟨_, rfl⟩
    have HW1 := hide hw1
    rw [← hw1] at HBX HRES HBB HRD
    have t0 := HRES.out.frozen 0
    have t1 := HRES.out.frozen 1
    have t2 := HRES.out.frozen 2
    have t3 := HRES.out.cell 0
    have t4 := HRES.out.cell 1
    have t5 := HRES.out.cell 2
    have b0 := HBB.out.cell 0
    have b1 := HBB.out.cell 1
    clear hs hn hb0 hb hb1 hown hok hll hw1
    rw [hl] at b0
    clear hl hp hch
    go_enter Tryd.func67, Tryd.ntmps67
    go_wp2_with fail
    go_loopw [5] (fun iv wr => ∃ k : Nat, iv = .int .i64 ((k : Int) - 1) ∧ k ≤ n ∧ w1 = wr) (fun iv _ => (intOf iv + 1).toNat)
    case atStart => exact ⟨n, rfl, Nat.le_refl _, HW1.out⟩
    case round =>
      clear i1
      obtain ⟨k, rfl, hk, rfl⟩ := hrel
      by_cases hp : 0 < k
      · obtain ⟨j, rfl⟩ : ∃ j, k = j + 1 := ⟨k - 1, by omega⟩
        rw [show (((j + 1 : Nat) : Int) - 1) = (j : Int) by omega]
        have hj9 : (j : Int) ≤ 1000 := by omega
        have wj : IntKind.i64.wrap ((j : Int) - 1) = (j : Int) - 1 := IntWalk.i64_in _ (by omega)
        have z0 : decide ((0 : Int) ≤ (j : Int)) = true := by simp
        have y0 : decide (j < n) = true := by simp; omega
        have y1 : decide ((j : Int) < (n : Int)) = true := by simp; omega
        have y2 : (j : Int) < (n : Int) := by omega
        obtain ⟨⟨xc, xk, xm⟩, hx⟩ : ∃ x, l[j]? = some x := ⟨_, List.getElem?_eq_getElem (by have := HN.out; omega)⟩
        obtain ⟨g, off, rfl, hc⟩ := HRD.out.cells (by omega)
        have d0 : w1.cell? ⟨g, off + j * 3, none⟩ = some (.int .i64 xc) := hc _ _ ((rows_at clE_len l j 0 _ hx (by omega)).trans rfl)
        have hne := HNO.out _ (List.mem_of_getElem? hx)
        have q0 : (xc == 10) = false := by simpa using hne
        have HJ := hide (show j + 1 ≤ n from hk)
        clear hk hp hx hc hne
        go_wp2_with fail
        go_roundw
        case rel => exact ⟨j, rfl, by have := HJ.out; omega, trivial⟩
        case measure => simp [intOf]
      · obtain rfl : k = 0 := by omega
        rw [show ((0 : Nat) : Int) - 1 = -1 by omega]
        clear hk hp
        go_wp2_with (first | (go_at_call 70; refine (char_any _ _).mono ?_; rintro e w' ⟨rfl, rfl⟩; rw [HCH.out]) | (go_at_call 85; (with_reducible refine Calls.mono (HF0.out _) ?_); rintro e w' ⟨rfl, rfl⟩) | (go_at_call 85; (with_reducible refine Calls.mono (HF1.out _) ?_); rintro e w' ⟨rfl, rfl⟩) | (go_at_call 85; (with_reducible refine Calls.mono (HF2.out _) ?_); rintro e w' ⟨rfl, rfl⟩) | (go_at_call 85; (with_reducible refine Calls.mono (HF3.out _) ?_); rintro e w' ⟨rfl, rfl⟩))
        refine bodyPost_ret (results_cell_row rfl _ _ w.heap.size 84 #[.int .i64 10, .int .i64 (9), .int .i64 (0)] (0, 0) _ rfl (((HRES.out.set_ 0 _).set_ 1 _).set_ 2 _) Tryd.underlying84 rfl (by kernel_rfl)) rfl ?_
        exact ⟨by rw [HE.out.1, HE.out.2], ((HBX.out.setCell (p := ⟨w.heap.size, 0, none⟩) (Nat.le_refl _) _).setCell (p := ⟨w.heap.size, 1, none⟩) (Nat.le_refl _) _).setCell (p := ⟨w.heap.size, 2, none⟩) (Nat.le_refl _) _⟩
  · subst hc
    have HCH := hide hch
    have HE := hide (ent_lisp hch hp hl (show lispE 39 = (10, 0) by decide))
    have HF0 := hide (fun (y : World) => of_any ⟨#[40, 91]⟩ 39 (by decide) y)
    rw [show ofZ (strB ⟨#[40, 91]⟩) 39 = -1 by decide] at HF0
    have HF1 := hide (fun (y : World) => of_any ⟨#[41, 93]⟩ 39 (by decide) y)
    rw [show ofZ (strB ⟨#[41, 93]⟩) 39 = -1 by decide] at HF1
    have HF2 := hide (fun (y : World) => of_any ⟨#[39, 96, 44]⟩ 39 (by decide) y)
    rw [show ofZ (strB ⟨#[39, 96, 44]⟩) 39 = 0 by decide] at HF2
    have HF3 := hide (fun (y : World) => of_any ⟨#[45, 43, 42, 47, 60, 62, 61, 33, 63, 36, 37, 38, 95, 126, 94, 58, 123, 125, 124, 46, 64, 35]⟩ 39 (by decide) y)
    rw [show ofZ (strB ⟨#[45, 43, 42, 47, 60, 62, 61, 33, 63, 36, 37, 38, 95, 126, 94, 58, 123, 125, 124, 46, 64, 35]⟩) 39 = -1 by decide] at HF3
    obtain ⟨v, l, hb, hs, hown, hll, hok⟩ := h
    obtain ⟨A, cp, rfl, _⟩ := hs.form
    have HNO := hide (show ∀ x ∈ l, x.1 ≠ 39 from fun x hx => none_pick hp x (by rw [hown]; exact List.mem_reverse.2 hx))
    obtain ⟨n, hn⟩ : ∃ n, n = l.length := ⟨_, rfl⟩
    have hb0 := below_box w (.cells #[.int .i64 0, .int .i64 0, .int .i64 0] 84)
    have HBX := hide hb0
    have HRES := hide (Blk.new w 84 #[.int .i64 0, .int .i64 0, .int .i64 0])
    have hb1 := hb.below hb0 hb.lt
    have HBB := hide hb1
    rw [← hn] at hs hll hb1 HBB
    have HRD := hide (show Rd (w.alloc (.cells #[.int .i64 0, .int .i64 0, .int .i64 0] 84)) (.slice A n cp) 3 n (rows clE l) from (Sl.rd hs).belowN hb0)
    have hn9 : (n : Int) ≤ 1000 := by omega
    have HN := hide hn
    have wn : IntKind.i64.wrap ((n : Int) - 1) = (n : Int) - 1 := IntWalk.i64_in _ (by omega)
    have i1 := hb1.cell 1
    obtain ⟨w1, hw1⟩ : ∃ y : World, y = w.alloc (.cells #[.int .i64 0, .int .i64 0, .int .i64 0] 84) := ⟨_, rfl⟩
    have HW1 := hide hw1
    rw [← hw1] at HBX HRES HBB HRD
    have t0 := HRES.out.frozen 0
    have t1 := HRES.out.frozen 1
    have t2 := HRES.out.frozen 2
    have t3 := HRES.out.cell 0
    have t4 := HRES.out.cell 1
    have t5 := HRES.out.cell 2
    have b0 := HBB.out.cell 0
    have b1 := HBB.out.cell 1
    clear hs hn hb0 hb hb1 hown hok hll hw1
    rw [hl] at b0
    clear hl hp hch
    go_enter Tryd.func67, Tryd.ntmps67
    go_wp2_with fail
    go_loopw [5] (fun iv wr => ∃ k : Nat, iv = .int .i64 ((k : Int) - 1) ∧ k ≤ n ∧ w1 = wr) (fun iv _ => (intOf iv + 1).toNat)
    case atStart => exact ⟨n, rfl, Nat.le_refl _, HW1.out⟩
    case round =>
      clear i1
      obtain ⟨k, rfl, hk, rfl⟩ := hrel
      by_cases hp : 0 < k
      · obtain ⟨j, rfl⟩ : ∃ j, k = j + 1 := ⟨k - 1, by omega⟩
        rw [show (((j + 1 : Nat) : Int) - 1) = (j : Int) by omega]
        have hj9 : (j : Int) ≤ 1000 := by omega
        have wj : IntKind.i64.wrap ((j : Int) - 1) = (j : Int) - 1 := IntWalk.i64_in _ (by omega)
        have z0 : decide ((0 : Int) ≤ (j : Int)) = true := by simp
        have y0 : decide (j < n) = true := by simp; omega
        have y1 : decide ((j : Int) < (n : Int)) = true := by simp; omega
        have y2 : (j : Int) < (n : Int) := by omega
        obtain ⟨⟨xc, xk, xm⟩, hx⟩ : ∃ x, l[j]? = some x := ⟨_, List.getElem?_eq_getElem (by have := HN.out; omega)⟩
        obtain ⟨g, off, rfl, hc⟩ := HRD.out.cells (by omega)
        have d0 : w1.cell? ⟨g, off + j * 3, none⟩ = some (.int .i64 xc) := hc _ _ ((rows_at clE_len l j 0 _ hx (by omega)).trans rfl)
        have hne := HNO.out _ (List.mem_of_getElem? hx)
        have q0 : (xc == 39) = false := by simpa using hne
        have HJ := hide (show j + 1 ≤ n from hk)
        clear hk hp hx hc hne
        go_wp2_with fail
        go_roundw
        case rel => exact ⟨j, rfl, by have := HJ.out; omega, trivial⟩
        case measure => simp [intOf]
      · obtain rfl : k = 0 := by omega
        rw [show ((0 : Nat) : Int) - 1 = -1 by omega]
        clear hk hp
        go_wp2_with (first | (go_at_call 70; refine (char_any _ _).mono ?_; rintro e w' ⟨rfl, rfl⟩; rw [HCH.out]) | (go_at_call 85; (with_reducible refine Calls.mono (HF0.out _) ?_); rintro e w' ⟨rfl, rfl⟩) | (go_at_call 85; (with_reducible refine Calls.mono (HF1.out _) ?_); rintro e w' ⟨rfl, rfl⟩) | (go_at_call 85; (with_reducible refine Calls.mono (HF2.out _) ?_); rintro e w' ⟨rfl, rfl⟩) | (go_at_call 85; (with_reducible refine Calls.mono (HF3.out _) ?_); rintro e w' ⟨rfl, rfl⟩))
        refine bodyPost_ret (results_cell_row rfl _ _ w.heap.size 84 #[.int .i64 39, .int .i64 (10), .int .i64 (0)] (0, 0) _ rfl (((HRES.out.set_ 0 _).set_ 1 _).set_ 2 _) Tryd.underlying84 rfl (by kernel_rfl)) rfl ?_
        exact ⟨by rw [HE.out.1, HE.out.2], ((HBX.out.setCell (p := ⟨w.heap.size, 0, none⟩) (Nat.le_refl _) _).setCell (p := ⟨w.heap.size, 1, none⟩) (Nat.le_refl _) _).setCell (p := ⟨w.heap.size, 2, none⟩) (Nat.le_refl _) _⟩
  · subst hc
    have HCH := hide hch
    have HE := hide (ent_lisp hch hp hl (show lispE 96 = (10, 0) by decide))
    have HF0 := hide (fun (y : World) => of_any ⟨#[40, 91]⟩ 96 (by decide) y)
    rw [show ofZ (strB ⟨#[40, 91]⟩) 96 = -1 by decide] at HF0
    have HF1 := hide (fun (y : World) => of_any ⟨#[41, 93]⟩ 96 (by decide) y)
    rw [show ofZ (strB ⟨#[41, 93]⟩) 96 = -1 by decide] at HF1
    have HF2 := hide (fun (y : World) => of_any ⟨#[39, 96, 44]⟩ 96 (by decide) y)
    rw [show ofZ (strB ⟨#[39, 96, 44]⟩) 96 = 1 by decide] at HF2
    have HF3 := hide (fun (y : World) => of_any ⟨#[45, 43, 42, 47, 60, 62, 61, 33, 63, 36, 37, 38, 95, 126, 94, 58, 123, 125, 124, 46, 64, 35]⟩ 96 (by decide) y)
    rw [show ofZ (strB ⟨#[45, 43, 42, 47, 60, 62, 61, 33, 63, 36, 37, 38, 95, 126, 94, 58, 123, 125, 124, 46, 64, 35]⟩) 96 = -1 by decide] at HF3
    obtain ⟨v, l, hb, hs, hown, hll, hok⟩ := h
    obtain ⟨A, cp, rfl, _⟩ := hs.form
    have HNO := hide (show ∀ x ∈ l, x.1 ≠ 96 from fun x hx => none_pick hp x (by rw [hown]; exact List.mem_reverse.2 hx))
    obtain ⟨n, hn⟩ : ∃ n, n = l.length := ⟨_, rfl⟩
    have hb0 := below_box w (.cells #[.int .i64 0, .int .i64 0, .int .i64 0] 84)
    have HBX := hide hb0
    have HRES := hide (Blk.new w 84 #[.int .i64 0, .int .i64 0, .int .i64 0])
    have hb1 := hb.below hb0 hb.lt
    have HBB := hide hb1
    rw [← hn] at hs hll hb1 HBB
    have HRD := hide (show Rd (w.alloc (.cells #[.int .i64 0, .int .i64 0, .int .i64 0] 84)) (.slice A n cp) 3 n (rows clE l) from (Sl.rd hs).belowN hb0)
    have hn9 : (n : Int) ≤ 1000 := by omega
    have HN := hide hn
    have wn : IntKind.i64.wrap ((n : Int) - 1) = (n : Int) - 1 := IntWalk.i64_in _ (by omega)
    have i1 := hb1.cell 1
    obtain ⟨w1, hw1⟩ : ∃ y : World, y = w.alloc (.cells #[.int .i64 0, .int .i64 0, .int .i64 0] 84) := ⟨_, rfl⟩
    have HW1 := hide hw1
    rw [← hw1] at HBX HRES HBB HRD
    have t0 := HRES.out.frozen 0
    have t1 := HRES.out.frozen 1
    have t2 := HRES.out.frozen 2
    have t3 := HRES.out.cell 0
    have t4 := HRES.out.cell 1
    have t5 := HRES.out.cell 2
    have b0 := HBB.out.cell 0
    have b1 := HBB.out.cell 1
    clear hs hn hb0 hb hb1 hown hok hll hw1
    rw [hl] at b0
    clear hl hp hch
    go_enter Tryd.func67, Tryd.ntmps67
    go_wp2_with fail
    go_loopw [5] (fun iv wr => ∃ k : Nat, iv = .int .i64 ((k : Int) - 1) ∧ k ≤ n ∧ w1 = wr) (fun iv _ => (intOf iv + 1).toNat)
    case atStart => exact ⟨n, rfl, Nat.le_refl _, HW1.out⟩
    case round =>
      clear i1
      obtain ⟨k, rfl, hk, rfl⟩ := hrel
      by_cases hp : 0 < k
      · obtain ⟨j, rfl⟩ : ∃ j, k = j + 1 := ⟨k - 1, by omega⟩
        rw [show (((j + 1 : Nat) : Int) - 1) = (j : Int) by omega]
        have hj9 : (j : Int) ≤ 1000 := by omega
        have wj : IntKind.i64.wrap ((j : Int) - 1) = (j : Int) - 1 := IntWalk.i64_in _ (by omega)
        have z0 : decide ((0 : Int) ≤ (j : Int)) = true := by simp
        have y0 : decide (j < n) = true := by simp; omega
        have y1 : decide ((j : Int) < (n : Int)) = true := by simp; omega
        have y2 : (j : Int) < (n : Int) := by omega
        obtain ⟨⟨xc, xk, xm⟩, hx⟩ : ∃ x, l[j]? = some x := ⟨_, List.getElem?_eq_getElem (by have := HN.out; omega)⟩
        obtain ⟨g, off, rfl, hc⟩ := HRD.out.cells (by omega)
        have d0 : w1.cell? ⟨g, off + j * 3, none⟩ = some (.int .i64 xc) := hc _ _ ((rows_at clE_len l j 0 _ hx (by omega)).trans rfl)
        have hne := HNO.out _ (List.mem_of_getElem? hx)
        have q0 : (xc == 96) = false := by simpa using hne
        have HJ := hide (show j + 1 ≤ n from hk)
        clear hk hp hx hc hne
        go_wp2_with fail
        go_roundw
        case rel => exact ⟨j, rfl, by have := HJ.out; omega, trivial⟩
        case measure => simp [intOf]
      · obtain rfl : k = 0 := by omega
        rw [show ((0 : Nat) : Int) - 1 = -1 by omega]
        clear hk hp
        go_wp2_with (first | (go_at_call 70; refine (char_any _ _).mono ?_; rintro e w' ⟨rfl, rfl⟩; rw [HCH.out]) | (go_at_call 85; (with_reducible refine Calls.mono (HF0.out _) ?_); rintro e w' ⟨rfl, rfl⟩) | (go_at_call 85; (with_reducible refine Calls.mono (HF1.out _) ?_); rintro e w' ⟨rfl, rfl⟩) | (go_at_call 85; (with_reducible refine Calls.mono (HF2.out _) ?_); rintro e w' ⟨rfl, rfl⟩) | (go_at_call 85; (with_reducible refine Calls.mono (HF3.out _) ?_); rintro e w' ⟨rfl, rfl⟩))
        refine bodyPost_ret (results_cell_row rfl _ _ w.heap.size 84 #[.int .i64 96, .int .i64 (10), .int .i64 (0)] (0, 0) _ rfl (((HRES.out.set_ 0 _).set_ 1 _).set_ 2 _) Tryd.underlying84 rfl (by kernel_rfl)) rfl ?_
        exact ⟨by rw [HE.out.1, HE.out.2], ((HBX.out.setCell (p := ⟨w.heap.size, 0, none⟩) (Nat.le_refl _) _).setCell (p := ⟨w.heap.size, 1, none⟩) (Nat.le_refl _) _).setCell (p := ⟨w.heap.size, 2, none⟩) (Nat.le_refl _) _⟩
  · subst hc
    have HCH := hide hch
    have HE := hide (ent_lisp hch hp hl (show lispE 44 = (10, 0) by decide))
    have HF0 := hide (fun (y : World) => of_any ⟨#[40, 91]⟩ 44 (by decide) y)
    rw [show ofZ (strB ⟨#[40, 91]⟩) 44 = -1 by decide] at HF0
    have HF1 := hide (fun (y : World) => of_any ⟨#[41, 93]⟩ 44 (by decide) y)
    rw [show ofZ (strB ⟨#[41, 93]⟩) 44 = -1 by decide] at HF1
    have HF2 := hide (fun (y : World) => of_any ⟨#[39, 96, 44]⟩ 44 (by decide) y)
    rw [show ofZ (strB ⟨#[39, 96, 44]⟩) 44 = 2 by decide] at HF2
    have HF3 := hide (fun (y : World) => of_any ⟨#[45, 43, 42, 47, 60, 62, 61, 33, 63, 36, 37, 38, 95, 126, 94, 58, 123, 125, 124, 46, 64, 35]⟩ 44 (by decide) y)
    rw [show ofZ (strB ⟨#[45, 43, 42, 47, 60, 62, 61, 33, 63, 36, 37, 38, 95, 126, 94, 58, 123, 125, 124, 46, 64, 35]⟩) 44 = -1 by decide] at HF3
    obtain ⟨v, l, hb, hs, hown, hll, hok⟩ := h
    obtain ⟨A, cp, rfl, _⟩ := hs.form
    have HNO := hide (show ∀ x ∈ l, x.1 ≠ 44 from fun x hx => none_pick hp x (by rw [hown]; exact List.mem_reverse.2 hx))
    obtain ⟨n, hn⟩ : ∃ n, n = l.length := ⟨_, rfl⟩
    have hb0 := below_box w (.cells #[.int .i64 0, .int .i64 0, .int .i64 0] 84)
    have HBX := hide hb0
    have HRES := hide (Blk.new w 84 #[.int .i64 0, .int .i64 0, .int .i64 0])
    have hb1 := hb.below hb0 hb.lt
    have HBB := hide hb1
    rw [← hn] at hs hll hb1 HBB
    have HRD := hide (show Rd (w.alloc (.cells #[.int .i64 0, .int .i64 0, .int .i64 0] 84)) (.slice A n cp) 3 n (rows clE l) from (Sl.rd hs).belowN hb0)
    have hn9 : (n : Int) ≤ 1000 := by omega
    have HN := hide hn
    have wn : IntKind.i64.wrap ((n : Int) - 1) = (n : Int) - 1 := IntWalk.i64_in _ (by omega)
    have i1 := hb1.cell 1
    obtain ⟨w1, hw1⟩ : ∃ y : World, y = w.alloc (.cells #[.int .i64 0, .int .i64 0, .int .i64 0] 84) := ⟨_, rfl⟩
    have HW1 := hide hw1
    rw [← hw1] at HBX HRES HBB HRD
    have t0 := HRES.out.frozen 0
    have t1 := HRES.out.frozen 1
    have t2 := HRES.out.frozen 2
    have t3 := HRES.out.cell 0
    have t4 := HRES.out.cell 1
    have t5 := HRES.out.cell 2
    have b0 := HBB.out.cell 0
    have b1 := HBB.out.cell 1
    clear hs hn hb0 hb hb1 hown hok hll hw1
    rw [hl] at b0
    clear hl hp hch
    go_enter Tryd.func67, Tryd.ntmps67
    go_wp2_with fail
    go_loopw [5] (fun iv wr => ∃ k : Nat, iv = .int .i64 ((k : Int) - 1) ∧ k ≤ n ∧ w1 = wr) (fun iv _ => (intOf iv + 1).toNat)
    case atStart => exact ⟨n, rfl, Nat.le_refl _, HW1.out⟩
    case round =>
      clear i1
      obtain ⟨k, rfl, hk, rfl⟩ := hrel
      by_cases hp : 0 < k
      · obtain ⟨j, rfl⟩ : ∃ j, k = j + 1 := ⟨k - 1, by omega⟩
        rw [show (((j + 1 : Nat) : Int) - 1) = (j : Int) by omega]
        have hj9 : (j : Int) ≤ 1000 := by omega
        have wj : IntKind.i64.wrap ((j : Int) - 1) = (j : Int) - 1 := IntWalk.i64_in _ (by omega)
        have z0 : decide ((0 : Int) ≤ (j : Int)) = true := by simp
        have y0 : decide (j < n) = true := by simp; omega
        have y1 : decide ((j : Int) < (n : Int)) = true := by simp; omega
        have y2 : (j : Int) < (n : Int) := by omega
        obtain ⟨⟨xc, xk, xm⟩, hx⟩ : ∃ x, l[j]? = some x := ⟨_, List.getElem?_eq_getElem (by have := HN.out; omega)⟩
        obtain ⟨g, off, rfl, hc⟩ := HRD.out.cells (by omega)
        have d0 : w1.cell? ⟨g, off + j * 3, none⟩ = some (.int .i64 xc) := hc _ _ ((rows_at clE_len l j 0 _ hx (by omega)).trans rfl)
        have hne := HNO.out _ (List.mem_of_getElem? hx)
        have q0 : (xc == 44) = false := by simpa using hne
        have HJ := hide (show j + 1 ≤ n from hk)
        clear hk hp hx hc hne
        go_wp2_with fail
        go_roundw
        case rel => exact ⟨j, rfl, by have := HJ.out; omega, trivial⟩
        case measure => simp [intOf]
      · obtain rfl : k = 0 := by omega
        rw [show ((0 : Nat) : Int) - 1 = -1 by omega]
        clear hk hp
        go_wp2_with (first | (go_at_call 70; refine (char_any _ _).mono ?_; rintro e w' ⟨rfl, rfl⟩; rw [HCH.out]) | (go_at_call 85; (with_reducible refine Calls.mono (HF0.out _) ?_); rintro e w' ⟨rfl, rfl⟩) | (go_at_call 85; (with_reducible refine Calls.mono (HF1.out _) ?_); rintro e w' ⟨rfl, rfl⟩) | (go_at_call 85; (with_reducible refine Calls.mono (HF2.out _) ?_); rintro e w' ⟨rfl, rfl⟩) | (go_at_call 85; (with_reducible refine Calls.mono (HF3.out _) ?_); rintro e w' ⟨rfl, rfl⟩))
        refine bodyPost_ret (results_cell_row rfl _ _ w.heap.size 84 #[.int .i64 44, .int .i64 (10), .int .i64 (0)] (0, 0) _ rfl (((HRES.out.set_ 0 _).set_ 1 _).set_ 2 _) Tryd.underlying84 rfl (by kernel_rfl)) rfl ?_
        exact ⟨by rw [HE.out.1, HE.out.2], ((HBX.out.setCell (p := ⟨w.heap.size, 0, none⟩) (Nat.le_refl _) _).setCell (p := ⟨w.heap.size, 1, none⟩) (Nat.le_refl _) _).setCell (p := ⟨w.heap.size, 2, none⟩) (Nat.le_refl _) _⟩
  · subst hc
    have HCH := hide hch
    have HE := hide (ent_lisp hch hp hl (show lispE 9 = (3, 0) by decide))
    have HF0 := hide (fun (y : World) => of_any ⟨#[40, 91]⟩ 9 (by decide) y)
    rw [show ofZ (strB ⟨#[40, 91]⟩) 9 = -1 by decide] at HF0
    have HF1 := hide (fun (y : World) => of_any ⟨#[41, 93]⟩ 9 (by decide) y)
    rw [show ofZ (strB ⟨#[41, 93]⟩) 9 = -1 by decide] at HF1
    have HF2 := hide (fun (y : World) => of_any ⟨#[39, 96, 44]⟩ 9 (by decide) y)
    rw [show ofZ (strB ⟨#[39, 96, 44]⟩) 9 = -1 by decide] at HF2
    have HF3 := hide (fun (y : World) => of_any ⟨#[45, 43, 42, 47, 60, 62, 61, 33, 63, 36, 37, 38, 95, 126, 94, 58, 123, 125, 124, 46, 64, 35]⟩ 9 (by decide) y)
    rw [show ofZ (strB ⟨#[45, 43, 42, 47, 60, 62, 61, 33, 63, 36, 37, 38, 95, 126, 94, 58, 123, 125, 124, 46, 64, 35]⟩) 9 = -1 by decide] at HF3
    obtain ⟨v, l, hb, hs, hown, hll, hok⟩ := h
    obtain ⟨A, cp, rfl, _⟩ := hs.form
    have HNO := hide (show ∀ x ∈ l, x.1 ≠ 9 from fun x hx => none_pick hp x (by rw [hown]; exact List.mem_reverse.2 hx))
    obtain ⟨n, hn⟩ : ∃ n, n = l.length := ⟨_, rfl⟩
    have hb0 := below_box w (.cells #[.int .i64 0, .int .i64 0, .int .i64 0] 84)
    have HBX := hide hb0
    have HRES := hide (Blk.new w 84 #[.int .i64 0, .int .i64 0, .int .i64 0])
    have hb1 := hb.below hb0 hb.lt
    have HBB := hide hb1
    rw [← hn] at hs hll hb1 HBB
    have HRD := hide (show Rd (w.alloc (.cells #[.int .i64 0, .int .i64 0, .int .i64 0] 84)) (.slice A n cp) 3 n (rows clE l) from (Sl.rd hs).belowN hb0)
    have hn9 : (n : Int) ≤ 1000 := by omega
    have HN := hide hn
    have wn : IntKind.i64.wrap ((n : Int) - 1) = (n : Int) - 1 := IntWalk.i64_in _ (by omega)
    have i1 := hb1.cell 1
    obtain ⟨w1, hw1⟩ : ∃ y : World, y = w.alloc (.cells #[.int .i64 0, .int .i64 0, .int .i64 0] 84) := ⟨_, rfl⟩
    have HW1 := hide hw1
    rw [← hw1] at HBX HRES HBB HRD
    have t0 := HRES.out.frozen 0
    have t1 := HRES.out.frozen 1
    have t2 := HRES.out.frozen 2
    have t3 := HRES.out.cell 0
    have t4 := HRES.out.cell 1
    have t5 := HRES.out.cell 2
    have b0 := HBB.out.cell 0
    have b1 := HBB.out.cell 1
    clear hs hn hb0 hb hb1 hown hok hll hw1
    rw [hl] at b0
    clear hl hp hch
    go_enter Tryd.func67, Tryd.ntmps67
    go_wp2_with fail
    go_loopw [5] (fun iv wr => ∃ k : Nat, iv = .int .i64 ((k : Int) - 1) ∧ k ≤ n ∧ w1 = wr) (fun iv _ => (intOf iv + 1).toNat)
    case atStart => exact ⟨n, rfl, Nat.le_refl _, HW1.out⟩
    case round =>
      clear i1
      obtain ⟨k, rfl, hk, rfl⟩ := hrel
      by_cases hp : 0 < k
      · obtain ⟨j, rfl⟩ : ∃ j, k = j + 1 := ⟨k - 1, by omega⟩
        rw [show (((j + 1 : Nat) : Int) - 1) = (j : Int) by omega]
        have hj9 : (j : Int) ≤ 1000 := by omega
        have wj : IntKind.i64.wrap ((j : Int) - 1) = (j : Int) - 1 := IntWalk.i64_in _ (by omega)
        have z0 : decide ((0 : Int) ≤ (j : Int)) = true := by simp
        have y0 : decide (j < n) = true := by simp; omega
        have y1 : decide ((j : Int) < (n : Int)) = true := by simp; omega
        have y2 : (j : Int) < (n : Int) := by omega
        obtain ⟨⟨xc, xk, xm⟩, hx⟩ : ∃ x, l[j]? = some x := ⟨_, List.getElem?_eq_getElem (by have := HN.out; omega)⟩
        obtain ⟨g, off, rfl, hc⟩ := HRD.out.cells (by omega)
        have d0 : w1.cell? ⟨g, off + j * 3, none⟩ = some (.int .i64 xc) := hc _ _ ((rows_at clE_len l j 0 _ hx (by omega)).trans rfl)
        have hne := HNO.out _ (List.mem_of_getElem? hx)
        have q0 : (xc == 9) = false := by simpa using hne
        have HJ := hide (show j + 1 ≤ n from hk)
        clear hk hp hx hc hne
        go_wp2_with fail
        go_roundw
        case rel => exact ⟨j, rfl, by have := HJ.out; omega, trivial⟩
        case measure => simp [intOf]
      · obtain rfl : k = 0 := by omega
        rw [show ((0 : Nat) : Int) - 1 = -1 by omega]
        clear hk hp
        go_wp2_with (first | (go_at_call 70; refine (char_any _ _).mono ?_; rintro e w' ⟨rfl, rfl⟩; rw [HCH.out]) | (go_at_call 85; (with_reducible refine Calls.mono (HF0.out _) ?_); rintro e w' ⟨rfl, rfl⟩) | (go_at_call 85; (with_reducible refine Calls.mono (HF1.out _) ?_); rintro e w' ⟨rfl, rfl⟩) | (go_at_call 85; (with_reducible refine Calls.mono (HF2.out _) ?_); rintro e w' ⟨rfl, rfl⟩) | (go_at_call 85; (with_reducible refine Calls.mono (HF3.out _) ?_); rintro e w' ⟨rfl, rfl⟩))
        refine bodyPost_ret (results_cell_row rfl _ _ w.heap.size 84 #[.int .i64 9, .int .i64 (3), .int .i64 (0)] (0, 0) _ rfl (((HRES.out.set_ 0 _).set_ 1 _).set_ 2 _) Tryd.underlying84 rfl (by kernel_rfl)) rfl ?_
        exact ⟨by rw [HE.out.1, HE.out.2], ((HBX.out.setCell (p := ⟨w.heap.size, 0, none⟩) (Nat.le_refl _) _).setCell (p := ⟨w.heap.size, 1, none⟩) (Nat.le_refl _) _).setCell (p := ⟨w.heap.size, 2, none⟩) (Nat.le_refl _) _⟩
  · subst hc
    have HCH := hide hch
    have HE := hide (ent_lisp hch hp hl (show lispE 12 = (3, 0) by decide))
    have HF0 := hide (fun (y : World) => of_any ⟨#[40, 91]⟩ 12 (by decide) y)
    rw [show ofZ (strB ⟨#[40, 91]⟩) 12 = -1 by decide] at HF0
    have HF1 := hide (fun (y : World) => of_any ⟨#[41, 93]⟩ 12 (by decide) y)
    rw [show ofZ (strB ⟨#[41, 93]⟩) 12 = -1 by decide] at HF1
    have HF2 := hide (fun (y : World) => of_any ⟨#[39, 96, 44]⟩ 12 (by decide) y)
    rw [show ofZ (strB ⟨#[39, 96, 44]⟩) 12 = -1 by decide] at HF2
    have HF3 := hide (fun (y : World) => of_any ⟨#[45, 43, 42, 47, 60, 62, 61, 33, 63, 36, 37, 38, 95, 126, 94, 58, 123, 125, 124, 46, 64, 35]⟩ 12 (by decide) y)
    rw [show ofZ (strB ⟨#[45, 43, 42, 47, 60, 62, 61, 33, 63, 36, 37, 38, 95, 126, 94, 58, 123, 125, 124, 46, 64, 35]⟩) 12 = -1 by decide] at HF3
    obtain ⟨v, l, hb, hs, hown, hll, hok⟩ := h
    obtain ⟨A, cp, rfl, _⟩ := hs.form
    have HNO := hide (show ∀ x ∈ l, x.1 ≠ 12 from fun x hx => none_pick hp x (by rw [hown]; exact List.mem_reverse.2 hx))
    obtain ⟨n, hn⟩ : ∃ n, n = l.length := ⟨_, rfl⟩
    have hb0 := below_box w (.cells #[.int .i64 0, .int .i64 0, .int .i64 0] 84)
    have HBX := hide hb0
    have HRES := hide (Blk.new w 84 #[.int .i64 0, .int .i64 0, .int .i64 0])
    have hb1 := hb.below hb0 hb.lt
    have HBB := hide hb1
    rw [← hn] at hs hll hb1 HBB
    have HRD := hide (show Rd (w.alloc (.cells #[.int .i64 0, .int .i64 0, .int .i64 0] 84)) (.slice A n cp) 3 n (rows clE l) from (Sl.rd hs).belowN hb0)
    have hn9 : (n : Int) ≤ 1000 := by omega
    have HN := hide hn
    have wn : IntKind.i64.wrap ((n : Int) - 1) = (n : Int) - 1 := IntWalk.i64_in _ (by omega)
    have i1 := hb1.cell 1
    obtain ⟨w1, hw1⟩ : ∃ y : World, y = w.alloc (.cells #[.int .i64 0, .int .i64 0, .int .i64 0] 84) := ⟨_, rfl⟩
    have HW1 := hide hw1
    rw [← hw1] at HBX HRES HBB HRD
    have t0 := HRES.out.frozen 0
    have t1 := HRES.out.frozen 1
    have t2 := HRES.out.frozen 2
    have t3 := HRES.out.cell 0
    have t4 := HRES.out.cell 1
    have t5 := HRES.out.cell 2
    have b0 := HBB.out.cell 0
    have b1 := HBB.out.cell 1
    clear hs hn hb0 hb hb1 hown hok hll hw1
    rw [hl] at b0
    clear hl hp hch
    go_enter Tryd.func67, Tryd.ntmps67
    go_wp2_with fail
    go_loopw [5] (fun iv wr => ∃ k : Nat, iv = .int .i64 ((k : Int) - 1) ∧ k ≤ n ∧ w1 = wr) (fun iv _ => (intOf iv + 1).toNat)
    case atStart => exact ⟨n, rfl, Nat.le_refl _, HW1.out⟩
    case round =>
      clear i1
      obtain ⟨k, rfl, hk, rfl⟩ := hrel
      by_cases hp : 0 < k
      · obtain ⟨j, rfl⟩ : ∃ j, k = j + 1 := ⟨k - 1, by omega⟩
        rw [show (((j + 1 : Nat) : Int) - 1) = (j : Int) by omega]
        have hj9 : (j : Int) ≤ 1000 := by omega
        have wj : IntKind.i64.wrap ((j : Int) - 1) = (j : Int) - 1 := IntWalk.i64_in _ (by omega)
        have z0 : decide ((0 : Int) ≤ (j : Int)) = true := by simp
        have y0 : decide (j < n) = true := by simp; omega
        have y1 : decide ((j : Int) < (n : Int)) = true := by simp; omega
        have y2 : (j : Int) < (n : Int) := by omega
        obtain ⟨⟨xc, xk, xm⟩, hx⟩ : ∃ x, l[j]? = some x := ⟨_, List.getElem?_eq_getElem (by have := HN.out; omega)⟩
        obtain ⟨g, off, rfl, hc⟩ := HRD.out.cells (by omega)
        have d0 : w1.cell? ⟨g, off + j * 3, none⟩ = some (.int .i64 xc) := hc _ _ ((rows_at clE_len l j 0 _ hx (by omega)).trans rfl)
        have hne := HNO.out _ (List.mem_of_getElem? hx)
        have q0 : (xc == 12) = false := by simpa using hne
        have HJ := hide (show j + 1 ≤ n from hk)
        clear hk hp hx hc hne
        go_wp2_with fail
        go_roundw
        case rel => exact ⟨j, rfl, by have := HJ.out; omega, trivial⟩
        case measure => simp [intOf]
      · obtain rfl : k = 0 := by omega
        rw [show ((0 : Nat) : Int) - 1 = -1 by omega]
        clear hk hp
        go_wp2_with (first | (go_at_call 70; refine (char_any _ _).mono ?_; rintro e w' ⟨rfl, rfl⟩; rw [HCH.out]) | (go_at_call 85; (with_reducible refine Calls.mono (HF0.out _) ?_); rintro e w' ⟨rfl, rfl⟩) | (go_at_call 85; (with_reducible refine Calls.mono (HF1.out _) ?_); rintro e w' ⟨rfl, rfl⟩) | (go_at_call 85; (with_reducible refine Calls.mono (HF2.out _) ?_); rintro e w' ⟨rfl, rfl⟩) | (go_at_call 85; (with_reducible refine Calls.mono (HF3.out _) ?_); rintro e w' ⟨rfl, rfl⟩))
        refine bodyPost_ret (results_cell_row rfl _ _ w.heap.size 84 #[.int .i64 12, .int .i64 (3), .int .i64 (0)] (0, 0) _ rfl (((HRES.out.set_ 0 _).set_ 1 _).set_ 2 _) Tryd.underlying84 rfl (by kernel_rfl)) rfl ?_
        exact ⟨by rw [HE.out.1, HE.out.2], ((HBX.out.setCell (p := ⟨w.heap.size, 0, none⟩) (Nat.le_refl _) _).setCell (p := ⟨w.heap.size, 1, none⟩) (Nat.le_refl _) _).setCell (p := ⟨w.heap.size, 2, none⟩) (Nat.le_refl _) _⟩
  · subst hc
    have HCH := hide hch
    have HE := hide (ent_lisp hch hp hl (show lispE 13 = (3, 0) by decide))
    have HF0 := hide (fun (y : World) => of_any ⟨#[40, 91]⟩ 13 (by decide) y)
    rw [show ofZ (strB ⟨#[40, 91]⟩) 13 = -1 by decide] at HF0
    have HF1 := hide (fun (y : World) => of_any ⟨#[41, 93]⟩ 13 (by decide) y)
    rw [show ofZ (strB ⟨#[41, 93]⟩) 13 = -1 by decide] at HF1
    have HF2 := hide (fun (y : World) => of_any ⟨#[39, 96, 44]⟩ 13 (by decide) y)
    rw [show ofZ (strB ⟨#[39, 96, 44]⟩) 13 = -1 by decide] at HF2
    have HF3 := hide (fun (y : World) => of_any ⟨#[45, 43, 42, 47, 60, 62, 61, 33, 63, 36, 37, 38, 95, 126, 94, 58, 123, 125, 124, 46, 64, 35]⟩ 13 (by decide) y)
    rw [show ofZ (strB ⟨#[45, 43, 42, 47, 60, 62, 61, 33, 63, 36, 37, 38, 95, 126, 94, 58, 123, 125, 124, 46, 64, 35]⟩) 13 = -1 by decide] at HF3
    obtain ⟨v, l, hb, hs, hown, hll, hok⟩ := h
    obtain ⟨A, cp, rfl, _⟩ := hs.form
    have HNO := hide (show ∀ x ∈ l, x.1 ≠ 13 from fun x hx => none_pick hp x (by rw [hown]; exact List.mem_reverse.2 hx))
    obtain ⟨n, hn⟩ : ∃ n, n = l.length := ⟨_, rfl⟩
    have hb0 := below_box w (.cells #[.int .i64 0, .int .i64 0, .int .i64 0] 84)
    have HBX := hide hb0
    have HRES := hide (Blk.new w 84 #[.int .i64 0, .int .i64 0, .int .i64 0])
    have hb1 := hb.below hb0 hb.lt
    have HBB := hide hb1
    rw [← hn] at hs hll hb1 HBB
    have HRD := hide (show Rd (w.alloc (.cells #[.int .i64 0, .int .i64 0, .int .i64 0] 84)) (.slice A n cp) 3 n (rows clE l) from (Sl.rd hs).belowN hb0)
    have hn9 : (n : Int) ≤ 1000 := by omega
    have HN := hide hn
    have wn : IntKind.i64.wrap ((n : Int) - 1) = (n : Int) - 1 := IntWalk.i64_in _ (by omega)
    have i1 := hb1.cell 1
    obtain ⟨w1, hw1⟩ : ∃ y : World, y = w.alloc (.cells #[.int .i64 0, .int .i64 0, .int .i64 0] 84) := ⟨_, rfl⟩
    have HW1 := hide hw1
    rw [← hw1] at HBX HRES HBB HRD
    have t0 := HRES.out.frozen 0
    have t1 := HRES.out.frozen 1
    have t2 := HRES.out.frozen 2
    have t3 := HRES.out.cell 0
    have t4 := HRES.out.cell 1
    have t5 := HRES.out.cell 2
    have b0 := HBB.out.cell 0
    have b1 := HBB.out.cell 1
    clear hs hn hb0 hb hb1 hown hok hll hw1
    rw [hl] at b0
    clear hl hp hch
    go_enter Tryd.func67, Tryd.ntmps67
    go_wp2_with fail
    go_loopw [5] (fun iv wr => ∃ k : Nat, iv = .int .i64 ((k : Int) - 1) ∧ k ≤ n ∧ w1 = wr) (fun iv _ => (intOf iv + 1).toNat)
    case atStart => exact ⟨n, rfl, Nat.le_refl _, HW1.out⟩
    case round =>
      clear i1
      obtain ⟨k, rfl, hk, rfl⟩ := hrel
      by_cases hp : 0 < k
      · obtain ⟨j, rfl⟩ : ∃ j, k = j + 1 := ⟨k - 1, by omega⟩
        rw [show (((j + 1 : Nat) : Int) - 1) = (j : Int) by omega]
        have hj9 : (j : Int) ≤ 1000 := by omega
        have wj : IntKind.i64.wrap ((j : Int) - 1) = (j : Int) - 1 := IntWalk.i64_in _ (by omega)
        have z0 : decide ((0 : Int) ≤ (j : Int)) = true := by simp
        have y0 : decide (j < n) = true := by simp; omega
        have y1 : decide ((j : Int) < (n : Int)) = true := by simp; omega
        have y2 : (j : Int) < (n : Int) := by omega
        obtain ⟨⟨xc, xk, xm⟩, hx⟩ : ∃ x, l[j]? = some x := ⟨_, List.getElem?_eq_getElem (by have := HN.out; omega)⟩
        obtain ⟨g, off, rfl, hc⟩ := HRD.out.cells (by omega)
        have d0 : w1.cell? ⟨g, off + j * 3, none⟩ = some (.int .i64 xc) := hc _ _ ((rows_at clE_len l j 0 _ hx (by omega)).trans rfl)
        have hne := HNO.out _ (List.mem_of_getElem? hx)
        have q0 : (xc == 13) = false := by simpa using hne
        have HJ := hide (show j + 1 ≤ n from hk)
        clear hk hp hx hc hne
        go_wp2_with fail
        go_roundw
        case rel => exact ⟨j, rfl, by have := HJ.out; omega, trivial⟩
        case measure => simp [intOf]
      · obtain rfl : k = 0 := by omega
        rw [show ((0 : Nat) : Int) - 1 = -1 by omega]
        clear hk hp
        go_wp2_with (first | (go_at_call 70; refine (char_any _ _).mono ?_; rintro e w' ⟨rfl, rfl⟩; rw [HCH.out]) | (go_at_call 85; (with_reducible refine Calls.mono (HF0.out _) ?_); rintro e w' ⟨rfl, rfl⟩) | (go_at_call 85; (with_reducible refine Calls.mono (HF1.out _) ?_); rintro e w' ⟨rfl, rfl⟩) | (go_at_call 85; (with_reducible refine Calls.mono (HF2.out _) ?_); rintro e w' ⟨rfl, rfl⟩) | (go_at_call 85; (with_reducible refine Calls.mono (HF3.out _) ?_); rintro e w' ⟨rfl, rfl⟩))
        refine bodyPost_ret (results_cell_row rfl _ _ w.heap.size 84 #[.int .i64 13, .int .i64 (3), .int .i64 (0)] (0, 0) _ rfl (((HRES.out.set_ 0 _).set_ 1 _).set_ 2 _) Tryd.underlying84 rfl (by kernel_rfl)) rfl ?_
        exact ⟨by rw [HE.out.1, HE.out.2], ((HBX.out.setCell (p := ⟨w.heap.size, 0, none⟩) (Nat.le_refl _) _).setCell (p := ⟨w.heap.size, 1, none⟩) (Nat.le_refl _) _).setCell (p := ⟨w.heap.size, 2, none⟩) (Nat.le_refl _) _⟩
  · subst hc
    have HCH := hide hch
    have HE := hide (ent_lisp hch hp hl (show lispE 32 = (3, 0) by decide))
    have HF0 := hide (fun (y : World) => of_any ⟨#[40, 91]⟩ 32 (by decide) y)
    rw [show ofZ (strB ⟨#[40, 91]⟩) 32 = -1 by decide] at HF0
    have HF1 := hide (fun (y : World) => of_any ⟨#[41, 93]⟩ 32 (by decide) y)
    rw [show ofZ (strB ⟨#[41, 93]⟩) 32 = -1 by decide] at HF1
    have HF2 := hide (fun (y : World) => of_any ⟨#[39, 96, 44]⟩ 32 (by decide) y)
    rw [show ofZ (strB ⟨#[39, 96, 44]⟩) 32 = -1 by decide] at HF2
    have HF3 := hide (fun (y : World) => of_any ⟨#[45, 43, 42, 47, 60, 62, 61, 33, 63, 36, 37, 38, 95, 126, 94, 58, 123, 125, 124, 46, 64, 35]⟩ 32 (by decide) y)
    rw [show ofZ (strB ⟨#[45, 43, 42, 47, 60, 62, 61, 33, 63, 36, 37, 38, 95, 126, 94, 58, 123, 125, 124, 46, 64, 35]⟩) 32 = -1 by decide] at HF3
    obtain ⟨v, l, hb, hs, hown, hll, hok⟩ := h
    obtain ⟨A, cp, rfl, _⟩ := hs.form
    have HNO := hide (show ∀ x ∈ l, x.1 ≠ 32 from fun x hx => none_pick hp x (by rw [hown]; exact List.mem_reverse.2 hx))
    obtain ⟨n, hn⟩ : ∃ n, n = l.length := ⟨_, rfl⟩
    have hb0 := below_box w (.cells #[.int .i64 0, .int .i64 0, .int .i64 0] 84)
    have HBX := hide hb0
    have HRES := hide (Blk.new w 84 #[.int .i64 0, .int .i64 0, .int .i64 0])
    have hb1 := hb.below hb0 hb.lt
    have HBB := hide hb1
    rw [← hn] at hs hll hb1 HBB
    have HRD := hide (show Rd (w.alloc (.cells #[.int .i64 0, .int .i64 0, .int .i64 0] 84)) (.slice A n cp) 3 n (rows clE l) from (Sl.rd hs).belowN hb0)
    have hn9 : (n : Int) ≤ 1000 := by omega
    have HN := hide hn
    have wn : IntKind.i64.wrap ((n : Int) - 1) = (n : Int) - 1 := IntWalk.i64_in _ (by omega)
    have i1 := hb1.cell 1
    obtain ⟨w1, hw1⟩ : ∃ y : World, y = w.alloc (.cells #[.int .i64 0, .int .i64 0, .int .i64 0] 84) := ⟨_, rfl⟩
    have HW1 := hide hw1
    rw [← hw1] at HBX HRES HBB HRD
    have t0 := HRES.out.frozen 0
    have t1 := HRES.out.frozen 1
    have t2 := HRES.out.frozen 2
    have t3 := HRES.out.cell 0
    have t4 := HRES.out.cell 1
    have t5 := HRES.out.cell 2
    have b0 := HBB.out.cell 0
    have b1 := HBB.out.cell 1
    clear hs hn hb0 hb hb1 hown hok hll hw1
    rw [hl] at b0
    clear hl hp hch
    go_enter Tryd.func67, Tryd.ntmps67
    go_wp2_with fail
    go_loopw [5] (fun iv wr => ∃ k : Nat, iv = .int .i64 ((k : Int) - 1) ∧ k ≤ n ∧ w1 = wr) (fun iv _ => (intOf iv + 1).toNat)
    case atStart => exact ⟨n, rfl, Nat.le_refl _, HW1.out⟩
    case round =>
      clear i1
      obtain ⟨k, rfl, hk, rfl⟩ := hrel
      by_cases hp : 0 < k
      · obtain ⟨j, rfl⟩ : ∃ j, k = j + 1 := ⟨k - 1, by omega⟩
        rw [show (((j + 1 : Nat) : Int) - 1) = (j : Int) by omega]
        have hj9 : (j : Int) ≤ 1000 := by omega
        have wj : IntKind.i64.wrap ((j : Int) - 1) = (j : Int) - 1 := IntWalk.i64_in _ (by omega)
        have z0 : decide ((0 : Int) ≤ (j : Int)) = true := by simp
        have y0 : decide (j < n) = true := by simp; omega
        have y1 : decide ((j : Int) < (n : Int)) = true := by simp; omega
        have y2 : (j : Int) < (n : Int) := by omega
        obtain ⟨⟨xc, xk, xm⟩, hx⟩ : ∃ x, l[j]? = some x := ⟨_, List.getElem?_eq_getElem (by have := HN.out; omega)⟩
        obtain ⟨g, off, rfl, hc⟩ := HRD.out.cells (by omega)
        have d0 : w1.cell? ⟨g, off + j * 3, none⟩ = some (.int .i64 xc) := hc _ _ ((rows_at clE_len l j 0 _ hx (by omega)).trans rfl)
        have hne := HNO.out _ (List.mem_of_getElem? hx)
        have q0 : (xc == 32) = false := by simpa using hne
        have HJ := hide (show j + 1 ≤ n from hk)
        clear hk hp hx hc hne
        go_wp2_with fail
        go_roundw
        case rel => exact ⟨j, rfl, by have := HJ.out; omega, trivial⟩
        case measure => simp [intOf]
      · obtain rfl : k = 0 := by omega
        rw [show ((0 : Nat) : Int) - 1 = -1 by omega]
        clear hk hp
        go_wp2_with (first | (go_at_call 70; refine (char_any _ _).mono ?_; rintro e w' ⟨rfl, rfl⟩; rw [HCH.out]) | (go_at_call 85; (with_reducible refine Calls.mono (HF0.out _) ?_); rintro e w' ⟨rfl, rfl⟩) | (go_at_call 85; (with_reducible refine Calls.mono (HF1.out _) ?_); rintro e w' ⟨rfl, rfl⟩) | (go_at_call 85; (with_reducible refine Calls.mono (HF2.out _) ?_); rintro e w' ⟨rfl, rfl⟩) | (go_at_call 85; (with_reducible refine Calls.mono (HF3.out _) ?_); rintro e w' ⟨rfl, rfl⟩))
        refine bodyPost_ret (results_cell_row rfl _ _ w.heap.size 84 #[.int .i64 32, .int .i64 (3), .int .i64 (0)] (0, 0) _ rfl (((HRES.out.set_ 0 _).set_ 1 _).set_ 2 _) Tryd.underlying84 rfl (by kernel_rfl)) rfl ?_
        exact ⟨by rw [HE.out.1, HE.out.2], ((HBX.out.setCell (p := ⟨w.heap.size, 0, none⟩) (Nat.le_refl _) _).setCell (p := ⟨w.heap.size, 1, none⟩) (Nat.le_refl _) _).setCell (p := ⟨w.heap.size, 2, none⟩) (Nat.le_refl _) _⟩
set_option maxRecDepth 100000 in
set_option maxHeartbeats 16000000 in
theorem find_lisp {w : World} {r : Nat} {T : Tb} {c : Int} (h : RT w r T) (hch : isCh c = true) (hp : pick c T.own = none) (hl : T.lisp = true) : Calls Tryd.prog 67 #[.pointer (some ⟨r, 0, none⟩), .int .i64 c] w fun e w' => e = .returned (.agg #[.int .i64 c, .int .i64 (T.cl c), .int .i64 (T.mate c)]) ∧ Below w.heap.size w w' := by
  by_cases hc0 : c = 40 ∨ c = 91 ∨ c = 41 ∨ c = 93 ∨ c = 34 ∨ c = 92 ∨ c = 59 ∨ c = 10 ∨ c = 39 ∨ c = 96 ∨ c = 44 ∨ c = 9 ∨ c = 12 ∨ c = 13 ∨ c = 32
  · exact find_special h hch hp hl hc0
  have hno : c ≠ 40 ∧ c ≠ 91 ∧ c ≠ 41 ∧ c ≠ 93 ∧ c ≠ 34 ∧ c ≠ 92 ∧ c ≠ 59 ∧ c ≠ 10 ∧ c ≠ 39 ∧ c ≠ 96 ∧ c ≠ 44 ∧ c ≠ 9 ∧ c ≠ 12 ∧ c ≠ 13 ∧ c ≠ 32 := by omega
  have hns : ∀ x ∈ special, x.1 ≠ c := by simp [special]; omega
  clear hc0
  by_cases hsy : c.toNat ∈ symbols ∧ 0 ≤ c
  · have HCH := hide hch
    have HF0 := hide (fun (y : World) => of_any ⟨#[40, 91]⟩ c (by decide) y)
    rw [show ofZ (strB ⟨#[40, 91]⟩) c = -1 from ofZ_miss (l := [40, 91]) (by simp; omega)] at HF0
    have HF1 := hide (fun (y : World) => of_any ⟨#[41, 93]⟩ c (by decide) y)
    rw [show ofZ (strB ⟨#[41, 93]⟩) c = -1 from ofZ_miss (l := [41, 93]) (by simp; omega)] at HF1
    have HF2 := hide (fun (y : World) => of_any ⟨#[39, 96, 44]⟩ c (by decide) y)
    rw [show ofZ (strB ⟨#[39, 96, 44]⟩) c = -1 from ofZ_miss (l := [39, 96, 44]) (by simp; omega)] at HF2
    obtain ⟨r4, hr4⟩ : ∃ z, z = ofZ symbols c := ⟨_, rfl⟩
    have h4 : 0 ≤ r4 := by rw [hr4]; exact ofZ_hit hsy.1 hsy.2
    have y4 : decide (0 ≤ r4) = true := by simpa using h4
    have HF3 := hide (fun (y : World) => of_any ⟨#[45, 43, 42, 47, 60, 62, 61, 33, 63, 36, 37, 38, 95, 126, 94, 58, 123, 125, 124, 46, 64, 35]⟩ c (by decide) y)
    rw [show ofZ (strB ⟨#[45, 43, 42, 47, 60, 62, 61, 33, 63, 36, 37, 38, 95, 126, 94, 58, 123, 125, 124, 46, 64, 35]⟩) c = r4 from hr4.symm] at HF3
    have HE := hide (ent_lisp hch hp hl (show lispE c = (2, 0) by unfold lispE; rw [pick_none hns, Option.getD_none, if_pos hsy]))
    obtain ⟨v, l, hb, hs, hown, hll, hok⟩ := h
    obtain ⟨A, cp, rfl, _⟩ := hs.form
    have HNO := hide (show ∀ x ∈ l, x.1 ≠ c from fun x hx => none_pick hp x (by rw [hown]; exact List.mem_reverse.2 hx))
    obtain ⟨n, hn⟩ : ∃ n, n = l.length := ⟨_, rfl⟩
    have hb0 := below_box w (.cells #[.int .i64 0, .int .i64 0, .int .i64 0] 84)
    have HBX := hide hb0
    have HRES := hide (Blk.new w 84 #[.int .i64 0, .int .i64 0, .int .i64 0])
    have hb1 := hb.below hb0 hb.lt
    have HBB := hide hb1
    rw [← hn] at hs hll hb1 HBB
    have HRD := hide (show Rd (w.alloc (.cells #[.int .i64 0, .int .i64 0, .int .i64 0] 84)) (.slice A n cp) 3 n (rows clE l) from (Sl.rd hs).belowN hb0)
    have hn9 : (n : Int) ≤ 1000 := by omega
    have HN := hide hn
    have wn : IntKind.i64.wrap ((n : Int) - 1) = (n : Int) - 1 := IntWalk.i64_in _ (by omega)
    have i1 := hb1.cell 1
    obtain ⟨w1, hw1⟩ : ∃ y : World, y = w.alloc (.cells #[.int .i64 0, .int .i64 0, .int .i64 0] 84) := ⟨_, rfl⟩
    have HW1 := hide hw1
    rw [← hw1] at HBX HRES HBB HRD
    have t0 := HRES.out.frozen 0
    have t1 := HRES.out.frozen 1
    have t2 := HRES.out.frozen 2
    have t3 := HRES.out.cell 0
    have t4 := HRES.out.cell 1
    have t5 := HRES.out.cell 2
    have b0 := HBB.out.cell 0
    have b1 := HBB.out.cell 1
    clear hs hn hb0 hb hb1 hown hok hll hw1
    rw [hl] at b0
    have n34 : (c == 34) = false := by simp; omega
    have n92 : (c == 92) = false := by simp; omega
    have n59 : (c == 59) = false := by simp; omega
    have n10 : (c == 10) = false := by simp; omega
    clear hl hp hch hns hno hsy hr4
    go_enter Tryd.func67, Tryd.ntmps67
    go_wp2_with fail
    go_loopw [5] (fun iv wr => ∃ k : Nat, iv = .int .i64 ((k : Int) - 1) ∧ k ≤ n ∧ w1 = wr) (fun iv _ => (intOf iv + 1).toNat)
    case atStart => exact ⟨n, rfl, Nat.le_refl _, HW1.out⟩
    case round =>
      clear i1
      obtain ⟨k, rfl, hk, rfl⟩ := hrel
      by_cases hp : 0 < k
      · obtain ⟨j, rfl⟩ : ∃ j, k = j + 1 := ⟨k - 1, by omega⟩
        rw [show (((j + 1 : Nat) : Int) - 1) = (j : Int) by omega]
        have hj9 : (j : Int) ≤ 1000 := by omega
        have wj : IntKind.i64.wrap ((j : Int) - 1) = (j : Int) - 1 := IntWalk.i64_in _ (by omega)
        have z0 : decide ((0 : Int) ≤ (j : Int)) = true := by simp
        have y0 : decide (j < n) = true := by simp; omega
        have y1 : decide ((j : Int) < (n : Int)) = true := by simp; omega
        have y2 : (j : Int) < (n : Int) := by omega
        obtain ⟨⟨xc, xk, xm⟩, hx⟩ : ∃ x, l[j]? = some x := ⟨_, List.getElem?_eq_getElem (by have := HN.out; omega)⟩
        obtain ⟨g, off, rfl, hc⟩ := HRD.out.cells (by omega)
        have d0 : w1.cell? ⟨g, off + j * 3, none⟩ = some (.int .i64 xc) := hc _ _ ((rows_at clE_len l j 0 _ hx (by omega)).trans rfl)
        have hne := HNO.out _ (List.mem_of_getElem? hx)
        have q0 : (xc == c) = false := by simpa using hne
        have HJ := hide (show j + 1 ≤ n from hk)
        clear hk hp hx hc hne
        go_wp2_with fail
        go_roundw
        case rel => exact ⟨j, rfl, by have := HJ.out; omega, trivial⟩
        case measure => simp [intOf]
      · obtain rfl : k = 0 := by omega
        rw [show ((0 : Nat) : Int) - 1 = -1 by omega]
        clear hk hp
        go_wp2_with (first | (go_at_call 70; refine (char_any _ _).mono ?_; rintro e w' ⟨rfl, rfl⟩; rw [HCH.out]) | (go_at_call 85; (with_reducible refine Calls.mono (HF0.out _) ?_); rintro e w' ⟨rfl, rfl⟩) | (go_at_call 85; (with_reducible refine Calls.mono (HF1.out _) ?_); rintro e w' ⟨rfl, rfl⟩) | (go_at_call 85; (with_reducible refine Calls.mono (HF2.out _) ?_); rintro e w' ⟨rfl, rfl⟩) | (go_at_call 85; (with_reducible refine Calls.mono (HF3.out _) ?_); rintro e w' ⟨rfl, rfl⟩))
        refine bodyPost_ret (results_cell_row rfl _ _ w.heap.size 84 #[.int .i64 c, .int .i64 (2), .int .i64 (0)] (0, 0) _ rfl (((HRES.out.set_ 0 _).set_ 1 _).set_ 2 _) Tryd.underlying84 rfl (by kernel_rfl)) rfl ?_
        exact ⟨by rw [HE.out.1, HE.out.2], ((HBX.out.setCell (p := ⟨w.heap.size, 0, none⟩) (Nat.le_refl _) _).setCell (p := ⟨w.heap.size, 1, none⟩) (Nat.le_refl _) _).setCell (p := ⟨w.heap.size, 2, none⟩) (Nat.le_refl _) _⟩
  have hsp : ¬ (c = 9 ∨ c = 10 ∨ c = 12 ∨ c = 13 ∨ c = 32) := by omega
  cases hw : isWord c with
  | true =>
    have HCH := hide hch
    have HF0 := hide (fun (y : World) => of_any ⟨#[40, 91]⟩ c (by decide) y)
    rw [show ofZ (strB ⟨#[40, 91]⟩) c = -1 from ofZ_miss (l := [40, 91]) (by simp; omega)] at HF0
    have HF1 := hide (fun (y : World) => of_any ⟨#[41, 93]⟩ c (by decide) y)
    rw [show ofZ (strB ⟨#[41, 93]⟩) c = -1 from ofZ_miss (l := [41, 93]) (by simp; omega)] at HF1
    have HF2 := hide (fun (y : World) => of_any ⟨#[39, 96, 44]⟩ c (by decide) y)
    rw [show ofZ (strB ⟨#[39, 96, 44]⟩) c = -1 from ofZ_miss (l := [39, 96, 44]) (by simp; omega)] at HF2
    have HF3 := hide (fun (y : World) => of_any ⟨#[45, 43, 42, 47, 60, 62, 61, 33, 63, 36, 37, 38, 95, 126, 94, 58, 123, 125, 124, 46, 64, 35]⟩ c (by decide) y)
    rw [show ofZ (strB ⟨#[45, 43, 42, 47, 60, 62, 61, 33, 63, 36, 37, 38, 95, 126, 94, 58, 123, 125, 124, 46, 64, 35]⟩) c = -1 from ofZ_miss (l := symbols) (fun x hx e => hsy ⟨by rw [← e, Int.toNat_natCast]; exact hx, by omega⟩)] at HF3
    have HW := hide (fun (y : World) => rword_any c y)
    rw [hw] at HW
    have HE := hide (ent_lisp hch hp hl (show lispE c = (1, 0) by unfold lispE; rw [pick_none hns, Option.getD_none, if_neg hsy]; unfold plainE; rw [if_neg hsp, hw]; rfl))
    obtain ⟨v, l, hb, hs, hown, hll, hok⟩ := h
    obtain ⟨A, cp, rfl, _⟩ := hs.form
    have HNO := hide (show ∀ x ∈ l, x.1 ≠ c from fun x hx => none_pick hp x (by rw [hown]; exact List.mem_reverse.2 hx))
    obtain ⟨n, hn⟩ : ∃ n, n = l.length := ⟨_, rfl⟩
    have hb0 := below_box w (.cells #[.int .i64 0, .int .i64 0, .int .i64 0] 84)
    have HBX := hide hb0
    have HRES := hide (Blk.new w 84 #[.int .i64 0, .int .i64 0, .int .i64 0])
    have hb1 := hb.below hb0 hb.lt
    have HBB := hide hb1
    rw [← hn] at hs hll hb1 HBB
    have HRD := hide (show Rd (w.alloc (.cells #[.int .i64 0, .int .i64 0, .int .i64 0] 84)) (.slice A n cp) 3 n (rows clE l) from (Sl.rd hs).belowN hb0)
    have hn9 : (n : Int) ≤ 1000 := by omega
    have HN := hide hn
    have wn : IntKind.i64.wrap ((n : Int) - 1) = (n : Int) - 1 := IntWalk.i64_in _ (by omega)
    have i1 := hb1.cell 1
    obtain ⟨w1, hw1⟩ : ∃ y : World, y = w.alloc (.cells #[.int .i64 0, .int .i64 0, .int .i64 0] 84) := ⟨_, rfl⟩
    have HW1 := hide hw1
    rw [← hw1] at HBX HRES HBB HRD
    have t0 := HRES.out.frozen 0
    have t1 := HRES.out.frozen 1
    have t2 := HRES.out.frozen 2
    have t3 := HRES.out.cell 0
    have t4 := HRES.out.cell 1
    have t5 := HRES.out.cell 2
    have b0 := HBB.out.cell 0
    have b1 := HBB.out.cell 1
    clear hs hn hb0 hb hb1 hown hok hll hw1
    rw [hl] at b0
    have n34 : (c == 34) = false := by simp; omega
    have n92 : (c == 92) = false := by simp; omega
    have n59 : (c == 59) = false := by simp; omega
    have n10 : (c == 10) = false := by simp; omega
    have n9 : (c == 9) = false := by simp; omega
    have n12 : (c == 12) = false := by simp; omega
    have n13 : (c == 13) = false := by simp; omega
    have n32 : (c == 32) = false := by simp; omega
    clear hl hp hch hns hno hsy hw hsp
    go_enter Tryd.func67, Tryd.ntmps67
    go_wp2_with fail
    go_loopw [5] (fun iv wr => ∃ k : Nat, iv = .int .i64 ((k : Int) - 1) ∧ k ≤ n ∧ w1 = wr) (fun iv _ => (intOf iv + 1).toNat)
    case atStart => exact ⟨n, rfl, Nat.le_refl _, HW1.out⟩
    case round =>
      clear i1
      obtain ⟨k, rfl, hk, rfl⟩ := hrel
      by_cases hp : 0 < k
      · obtain ⟨j, rfl⟩ : ∃ j, k = j + 1 := ⟨k - 1, by omega⟩
        rw [show (((j + 1 : Nat) : Int) - 1) = (j : Int) by omega]
        have hj9 : (j : Int) ≤ 1000 := by omega
        have wj : IntKind.i64.wrap ((j : Int) - 1) = (j : Int) - 1 := IntWalk.i64_in _ (by omega)
        have z0 : decide ((0 : Int) ≤ (j : Int)) = true := by simp
        have y0 : decide (j < n) = true := by simp; omega
        have y1 : decide ((j : Int) < (n : Int)) = true := by simp; omega
        have y2 : (j : Int) < (n : Int) := by omega
        obtain ⟨⟨xc, xk, xm⟩, hx⟩ : ∃ x, l[j]? = some x := ⟨_, List.getElem?_eq_getElem (by have := HN.out; omega)⟩
        obtain ⟨g, off, rfl, hc⟩ := HRD.out.cells (by omega)
        have d0 : w1.cell? ⟨g, off + j * 3, none⟩ = some (.int .i64 xc) := hc _ _ ((rows_at clE_len l j 0 _ hx (by omega)).trans rfl)
        have hne := HNO.out _ (List.mem_of_getElem? hx)
        have q0 : (xc == c) = false := by simpa using hne
        have HJ := hide (show j + 1 ≤ n from hk)
        clear hk hp hx hc hne
        go_wp2_with fail
        go_roundw
        case rel => exact ⟨j, rfl, by have := HJ.out; omega, trivial⟩
        case measure => simp [intOf]
      · obtain rfl : k = 0 := by omega
        rw [show ((0 : Nat) : Int) - 1 = -1 by omega]
        clear hk hp
        go_wp2_with (first | (go_at_call 70; refine (char_any _ _).mono ?_; rintro e w' ⟨rfl, rfl⟩; rw [HCH.out]) | (go_at_call 85; (with_reducible refine Calls.mono (HF0.out _) ?_); rintro e w' ⟨rfl, rfl⟩) | (go_at_call 85; (with_reducible refine Calls.mono (HF1.out _) ?_); rintro e w' ⟨rfl, rfl⟩) | (go_at_call 85; (with_reducible refine Calls.mono (HF2.out _) ?_); rintro e w' ⟨rfl, rfl⟩) | (go_at_call 85; (with_reducible refine Calls.mono (HF3.out _) ?_); rintro e w' ⟨rfl, rfl⟩) | (go_at_call 86; (with_reducible refine Calls.mono (HW.out _) ?_); rintro e w2 ⟨rfl, b2⟩; have HB2 := hide (HBX.out.trans (b2.mono HBX.out.size)); have HRS2 := hide (HRES.out.below b2 HRES.out.lt); have v0 := HRS2.out.frozen 0; have v1 := HRS2.out.frozen 1; have v2 := HRS2.out.frozen 2; have v3 := HRS2.out.cell 0; have v4 := HRS2.out.cell 1; have v5 := HRS2.out.cell 2; clear b2))
        refine bodyPost_ret (results_cell_row rfl _ _ w.heap.size 84 #[.int .i64 c, .int .i64 (1), .int .i64 (0)] (0, 0) _ rfl (((HRS2.out.set_ 0 _).set_ 1 _).set_ 2 _) Tryd.underlying84 rfl (by kernel_rfl)) rfl ?_
        exact ⟨by rw [HE.out.1, HE.out.2], ((HB2.out.setCell (p := ⟨w.heap.size, 0, none⟩) (Nat.le_refl _) _).setCell (p := ⟨w.heap.size, 1, none⟩) (Nat.le_refl _) _).setCell (p := ⟨w.heap.size, 2, none⟩) (Nat.le_refl _) _⟩
  | false =>
    have HCH := hide hch
    have HF0 := hide (fun (y : World) => of_any ⟨#[40, 91]⟩ c (by decide) y)
    rw [show ofZ (strB ⟨#[40, 91]⟩) c = -1 from ofZ_miss (l := [40, 91]) (by simp; omega)] at HF0
    have HF1 := hide (fun (y : World) => of_any ⟨#[41, 93]⟩ c (by decide) y)
    rw [show ofZ (strB ⟨#[41, 93]⟩) c = -1 from ofZ_miss (l := [41, 93]) (by simp; omega)] at HF1
    have HF2 := hide (fun (y : World) => of_any ⟨#[39, 96, 44]⟩ c (by decide) y)
    rw [show ofZ (strB ⟨#[39, 96, 44]⟩) c = -1 from ofZ_miss (l := [39, 96, 44]) (by simp; omega)] at HF2
    have HF3 := hide (fun (y : World) => of_any ⟨#[45, 43, 42, 47, 60, 62, 61, 33, 63, 36, 37, 38, 95, 126, 94, 58, 123, 125, 124, 46, 64, 35]⟩ c (by decide) y)
    rw [show ofZ (strB ⟨#[45, 43, 42, 47, 60, 62, 61, 33, 63, 36, 37, 38, 95, 126, 94, 58, 123, 125, 124, 46, 64, 35]⟩) c = -1 from ofZ_miss (l := symbols) (fun x hx e => hsy ⟨by rw [← e, Int.toNat_natCast]; exact hx, by omega⟩)] at HF3
    have HW := hide (fun (y : World) => rword_any c y)
    rw [hw] at HW
    have HE := hide (ent_lisp hch hp hl (show lispE c = (0, 0) by unfold lispE; rw [pick_none hns, Option.getD_none, if_neg hsy]; unfold plainE; rw [if_neg hsp, hw]; rfl))
    obtain ⟨v, l, hb, hs, hown, hll, hok⟩ := h
    obtain ⟨A, cp, rfl, _⟩ := hs.form
    have HNO := hide (show ∀ x ∈ l, x.1 ≠ c from fun x hx => none_pick hp x (by rw [hown]; exact List.mem_reverse.2 hx))
    obtain ⟨n, hn⟩ : ∃ n, n = l.length := ⟨_, rfl⟩
    have hb0 := below_box w (.cells #[.int .i64 0, .int .i64 0, .int .i64 0] 84)
    have HBX := hide hb0
    have HRES := hide (Blk.new w 84 #[.int .i64 0, .int .i64 0, .int .i64 0])
    have hb1 := hb.below hb0 hb.lt
    have HBB := hide hb1
    rw [← hn] at hs hll hb1 HBB
    have HRD := hide (show Rd (w.alloc (.cells #[.int .i64 0, .int .i64 0, .int .i64 0] 84)) (.slice A n cp) 3 n (rows clE l) from (Sl.rd hs).belowN hb0)
    have hn9 : (n : Int) ≤ 1000 := by omega
    have HN := hide hn
    have wn : IntKind.i64.wrap ((n : Int) - 1) = (n : Int) - 1 := IntWalk.i64_in _ (by omega)
    have i1 := hb1.cell 1
    obtain ⟨w1, hw1⟩ : ∃ y : World, y = w.alloc (.cells #[.int .i64 0, .int .i64 0, .int .i64 0] 84) := ⟨_, rfl⟩
    have HW1 := hide hw1
    rw [← hw1] at HBX HRES HBB HRD
    have t0 := HRES.out.frozen 0
    have t1 := HRES.out.frozen 1
    have t2 := HRES.out.frozen 2
    have t3 := HRES.out.cell 0
    have t4 := HRES.out.cell 1
    have t5 := HRES.out.cell 2
    have b0 := HBB.out.cell 0
    have b1 := HBB.out.cell 1
    clear hs hn hb0 hb hb1 hown hok hll hw1
    rw [hl] at b0
    have n34 : (c == 34) = false := by simp; omega
    have n92 : (c == 92) = false := by simp; omega
    have n59 : (c == 59) = false := by simp; omega
    have n10 : (c == 10) = false := by simp; omega
    have n9 : (c == 9) = false := by simp; omega
    have n12 : (c == 12) = false := by simp; omega
    have n13 : (c == 13) = false := by simp; omega
    have n32 : (c == 32) = false := by simp; omega
    clear hl hp hch hns hno hsy hw hsp
    go_enter Tryd.func67, Tryd.ntmps67
    go_wp2_with fail
    go_loopw [5] (fun iv wr => ∃ k : Nat, iv = .int .i64 ((k : Int) - 1) ∧ k ≤ n ∧ w1 = wr) (fun iv _ => (intOf iv + 1).toNat)
    case atStart => exact ⟨n, rfl, Nat.le_refl _, HW1.out⟩
    case round =>
      clear i1
      obtain ⟨k, rfl, hk, rfl⟩ := hrel
      by_cases hp : 0 < k
      · obtain ⟨j, rfl⟩ : ∃ j, k = j + 1 := ⟨k - 1, by omega⟩
        rw [show (((j + 1 : Nat) : Int) - 1) = (j : Int) by omega]
        have hj9 : (j : Int) ≤ 1000 := by omega
        have wj : IntKind.i64.wrap ((j : Int) - 1) = (j : Int) - 1 := IntWalk.i64_in _ (by omega)
        have z0 : decide ((0 : Int) ≤ (j : Int)) = true := by simp
        have y0 : decide (j < n) = true := by simp; omega
        have y1 : decide ((j : Int) < (n : Int)) = true := by simp; omega
        have y2 : (j : Int) < (n : Int) := by omega
        obtain ⟨⟨xc, xk, xm⟩, hx⟩ : ∃ x, l[j]? = some x := ⟨_, List.getElem?_eq_getElem (by have := HN.out; omega)⟩
        obtain ⟨g, off, rfl, hc⟩ := HRD.out.cells (by omega)
        have d0 : w1.cell? ⟨g, off + j * 3, none⟩ = some (.int .i64 xc) := hc _ _ ((rows_at clE_len l j 0 _ hx (by omega)).trans rfl)
        have hne := HNO.out _ (List.mem_of_getElem? hx)
        have q0 : (xc == c) = false := by simpa using hne
        have HJ := hide (show j + 1 ≤ n from hk)
        clear hk hp hx hc hne
        go_wp2_with fail
        go_roundw
        case rel => exact ⟨j, rfl, by have := HJ.out; omega, trivial⟩
        case measure => simp [intOf]
      · obtain rfl : k = 0 := by omega
        rw [show ((0 : Nat) : Int) - 1 = -1 by omega]
        clear hk hp
        go_wp2_with (first | (go_at_call 70; refine (char_any _ _).mono ?_; rintro e w' ⟨rfl, rfl⟩; rw [HCH.out]) | (go_at_call 85; (with_reducible refine Calls.mono (HF0.out _) ?_); rintro e w' ⟨rfl, rfl⟩) | (go_at_call 85; (with_reducible refine Calls.mono (HF1.out _) ?_); rintro e w' ⟨rfl, rfl⟩) | (go_at_call 85; (with_reducible refine Calls.mono (HF2.out _) ?_); rintro e w' ⟨rfl, rfl⟩) | (go_at_call 85; (with_reducible refine Calls.mono (HF3.out _) ?_); rintro e w' ⟨rfl, rfl⟩) | (go_at_call 86; (with_reducible refine Calls.mono (HW.out _) ?_); rintro e w2 ⟨rfl, b2⟩; have HB2 := hide (HBX.out.trans (b2.mono HBX.out.size)); have HRS2 := hide (HRES.out.below b2 HRES.out.lt); have v0 := HRS2.out.frozen 0; have v1 := HRS2.out.frozen 1; have v2 := HRS2.out.frozen 2; have v3 := HRS2.out.cell 0; have v4 := HRS2.out.cell 1; have v5 := HRS2.out.cell 2; clear b2))
        refine bodyPost_ret (results_cell_row rfl _ _ w.heap.size 84 #[.int .i64 c, .int .i64 (0), .int .i64 (0)] (0, 0) _ rfl (((HRS2.out.set_ 0 _).set_ 1 _).set_ 2 _) Tryd.underlying84 rfl (by kernel_rfl)) rfl ?_
        exact ⟨by rw [HE.out.1, HE.out.2], ((HB2.out.setCell (p := ⟨w.heap.size, 0, none⟩) (Nat.le_refl _) _).setCell (p := ⟨w.heap.size, 1, none⟩) (Nat.le_refl _) _).setCell (p := ⟨w.heap.size, 2, none⟩) (Nat.le_refl _) _⟩
theorem rfind_any {w : World} {r : Nat} {T : Tb} (h : RT w r T) (c : Int) : Calls Tryd.prog 67 #[.pointer (some ⟨r, 0, none⟩), .int .i64 c] w fun e w' => e = .returned (.agg #[.int .i64 c, .int .i64 (T.cl c), .int .i64 (T.mate c)]) ∧ Below w.heap.size w w' := by
  cases hch : isCh c with
  | false => exact find_out h hch
  | true =>
    cases hp : pick c T.own with
    | some x => exact find_own h hch hp
    | none =>
      cases hl : T.lisp with
      | false => exact find_plain h hch hp hl
      | true => exact find_lisp h hch hp hl
theorem field_cls1 (x y z : Int) (w : World) : (Instr.field 84 (.agg #[.int .i64 x, .int .i64 y, .int .i64 z]) 1).run Tryd.prog w = .ok (.int .i64 y) w := by kernel_rfl
theorem field_cls2 (x y z : Int) (w : World) : (Instr.field 84 (.agg #[.int .i64 x, .int .i64 y, .int .i64 z]) 2).run Tryd.prog w = .ok (.int .i64 z) w := by kernel_rfl
set_option maxRecDepth 100000 in
set_option maxHeartbeats 4000000 in
theorem rClass_any {w : World} {r : Nat} {T : Tb} (h : RT w r T) (c : Int) : Calls Tryd.prog 35 #[.pointer (some ⟨r, 0, none⟩), .int .i64 c] w fun e w' => e = .returned (.int .i64 (T.cl c)) ∧ Below w.heap.size w w' := by
  have HF := hide (rfind_any h c)
  have q1 := field_cls1 c (T.cl c) (T.mate c)
  clear h
  go_enter Tryd.func35, Tryd.ntmps35
  go_wp2_with (go_at_call 67; (with_reducible refine Calls.mono HF.out ?_); rintro e w2 ⟨rfl, b2⟩; have B2 := hide b2; clear b2)
  go_ret
  exact ⟨rfl, B2.out⟩
set_option maxRecDepth 100000 in
set_option maxHeartbeats 4000000 in
theorem rMate_any {w : World} {r : Nat} {T : Tb} (h : RT w r T) (c : Int) : Calls Tryd.prog 36 #[.pointer (some ⟨r, 0, none⟩), .int .i64 c] w fun e w' => e = .returned (.int .i64 (T.mate c)) ∧ Below w.heap.size w w' := by
  have HF := hide (rfind_any h c)
  have q1 := field_cls2 c (T.cl c) (T.mate c)
  clear h
  go_enter Tryd.func36, Tryd.ntmps36
  go_wp2_with (go_at_call 67; (with_reducible refine Calls.mono HF.out ?_); rintro e w2 ⟨rfl, b2⟩; have B2 := hide b2; clear b2)
  go_ret
  exact ⟨rfl, B2.out⟩
end Go.Proofs.YtdojcgefiekleaaDoor
namespace Go.Proofs.YtdojcgefiekleaaDoor
open Go.RowKit

/-- The reference's table, and a text's characters, in memory. -/
structure RSc (w : World) (r : Nat) (T : Tb) (v : Value) (L : List Nat) : Prop where
  tab : RT w r T
  row : Rd w v 1 L.length (ints L)
  len : L.length ≤ 1000000
section
variable {w w' : World} {r : Nat} {T : Tb} {v : Value} {L : List Nat} {i : Nat}
theorem RSc.below (h : RSc w r T v L) (hb : Below w.heap.size w w') : RSc w' r T v L := ⟨h.tab.below hb, h.row.belowN hb, h.len⟩
theorem RSc.form (h : RSc w r T v L) : ∃ A c, v = .slice A L.length c := by
  obtain ⟨A, c, rfl, _⟩ := h.row
  exact ⟨A, c, rfl⟩
theorem RSc.cell {A : Option Addr} {n c j : Nat} (h : RSc w r T (.slice A n c) L) (hl : j < L.length) : ∃ g off, A = some ⟨g, off, none⟩ ∧ w.cell? ⟨g, off + j, none⟩ = some (.int .i64 ((L.getD j 0 : Nat) : Int)) := by
  obtain ⟨A', c', e, _, hc⟩ := h.row
  injection e with e1 _ e2
  subst e1
  obtain ⟨g, off, e3, hx⟩ := hc (by omega)
  refine ⟨g, off, e3, hx j _ ?_⟩
  simp [ints, List.getD, List.getElem?_eq_getElem hl]
/-- A character that is read, and its class. -/
theorem RSc.look {A : Option Addr} {n c j : Nat} (h : RSc w r T (.slice A n c) L) (hl : j < L.length) : ∃ (g off : Nat) (ch kj : Int), A = some ⟨g, off, none⟩ ∧ (w.cell? ⟨g, off + j, none⟩ = some (.int .i64 ch)) ∧ Hid (kj = T.at_ L j) ∧ Hid (ch = ((L.getD j 0 : Nat) : Int)) ∧
    Hid (∀ y, Below w.heap.size w y → Calls Tryd.prog 35 #[.pointer (some ⟨r, 0, none⟩), .int .i64 ch] y fun e w' => e = .returned (.int .i64 kj) ∧ Below y.heap.size y w') := by
  obtain ⟨g, off, e, hc⟩ := h.cell hl
  exact ⟨g, off, _, _, e, hc, hide rfl, hide rfl, hide fun y hb => rClass_any (h.tab.below hb) _⟩
theorem min_lo (x y : Int) (h : x ≤ y) (w : World) : (Builtin.min_ #[3, 3] 3 #[.int .i64 x, .int .i64 y]).run Tryd.prog w = .ok (.int .i64 x) w := by
  rw [run_min_int2, if_neg (by omega)]
theorem min_hi (x y : Int) (h : y ≤ x) (w : World) : (Builtin.min_ #[3, 3] 3 #[.int .i64 x, .int .i64 y]).run Tryd.prog w = .ok (.int .i64 y) w := by
  rw [run_min_int2]
  split
  · rfl
  · rw [show x = y by omega]
set_option maxRecDepth 100000 in
set_option maxHeartbeats 4000000 in
theorem rcomment_any (h : RSc w r T v L) (hi : i ≤ L.length) : Calls Tryd.prog 84 #[.pointer (some ⟨r, 0, none⟩), v, .int .i64 (i : Int)] w fun e w' => e = .returned (.int .i64 (cmtF T L i : Int)) ∧ Below w.heap.size w w' := by
  obtain ⟨A, c, rfl⟩ := h.form
  have hlen := h.len
  have HS := hide h
  obtain ⟨n, hn⟩ : ∃ n, n = L.length := ⟨_, rfl⟩
  have HN := hide hn
  rw [← hn] at HS hi hlen ⊢
  have hn9 : (n : Int) ≤ 1000000 := by omega
  have HI := hide hi
  clear h hn hi hlen
  go_enter Tryd.func84, Tryd.ntmps84
  go_wp2_with fail
  go_loopw [2] (fun t wr => ∃ j : Nat, t = .int .i64 (j : Int) ∧ j ≤ n ∧ cmtF T L j = cmtF T L i ∧ Below w.heap.size w wr) (fun t _ => n - (intOf t).toNat)
  case atStart => exact ⟨i, rfl, HI.out, rfl, Below.refl _ _⟩
  case round =>
    obtain ⟨j, rfl, hj, he, hb⟩ := hrel
    have HB := hide hb
    have HE := hide he
    have hj9 : (j : Int) ≤ 1000000 := by omega
    have wj : IntKind.i64.wrap ((j : Int) + 1) = ((j + 1 : Nat) : Int) := by rw [IntWalk.i64_in _ (by omega)]; omega
    by_cases hl : j < n
    · have y1 : decide (j < n) = true := by simpa using hl
      have y2 : decide ((j : Int) < (n : Int)) = true := by simp; omega
      have y3 : (j : Int) < (n : Int) := by omega
      obtain ⟨g, off, ch, kj, rfl, d0, hk, hc, HC⟩ := (HS.out.below hb).look (j := j) (by have := HN.out; omega)
      have HL := hide hl
      by_cases h9 : kj = 9
      · have z1 : (kj != 9) = false := by simpa using h9
        have HF := hide (show cmtF T L i = j + 1 by rw [← HE.out, cmtF_stop (by have := HN.out; have := HL.out; omega) (by rw [← hk.out]; exact h9)])
        clear hj he hb hl h9
        go_wp2_with (go_at_call 35; (with_reducible refine Calls.mono (HC.out _ (Below.refl _ _)) ?_); rintro e w2 ⟨rfl, b2⟩; have HK := hide (HB.out.trans (b2.mono HB.out.size)); clear b2)
        go_ret
        refine ⟨ret_int ?_, HK.out⟩
        rw [HF.out]
        omega
      · have z1 : (kj != 9) = true := by simpa using h9
        have HF := hide ((cmtF_step (T := T) (L := L) (i := j) (by have := HN.out; have := HL.out; omega) (by rw [← hk.out]; exact h9)).symm.trans HE.out)
        clear hj he hb hl h9
        go_wp2_with (go_at_call 35; (with_reducible refine Calls.mono (HC.out _ (Below.refl _ _)) ?_); rintro e w2 ⟨rfl, b2⟩; have HK := hide (HB.out.trans (b2.mono HB.out.size)); clear b2)
        go_roundw
        case rel => exact ⟨j + 1, rfl, HL.out, HF.out, HK.out⟩
        case measure => have := HL.out; simp [intOf]; omega
    · have y1 : decide (j < n) = false := by simpa using hl
      have y2 : decide ((j : Int) < (n : Int)) = false := by simp; omega
      have y3 : ¬ (j : Int) < (n : Int) := by omega
      have HF := hide (show cmtF T L i = n by rw [← HE.out, cmtF_end (by have := HN.out; omega)]; omega)
      clear hj he hb hl
      go_wp2_with fail
      go_ret
      refine ⟨ret_int ?_, HB.out⟩
      rw [HF.out]
      omega
set_option maxRecDepth 100000 in
set_option maxHeartbeats 4000000 in
theorem rpass_any (h : RSc w r T v L) (hi : i ≤ L.length) : Calls Tryd.prog 80 #[.pointer (some ⟨r, 0, none⟩), v, .int .i64 (i : Int)] w fun e w' => e = .returned (.int .i64 (gapA T L i : Int)) ∧ Below w.heap.size w w' := by
  obtain ⟨A, c, rfl⟩ := h.form
  have hlen := h.len
  have HS := hide h
  obtain ⟨n, hn⟩ : ∃ n, n = L.length := ⟨_, rfl⟩
  have HN := hide hn
  have HCM := hide (fun (y : World) (hb : Below w.heap.size w y) (j : Nat) (hj : j ≤ L.length) => rcomment_any (h.below hb) hj)
  rw [← hn] at HS HCM hi hlen ⊢
  have hn9 : (n : Int) ≤ 1000000 := by omega
  have HI := hide hi
  clear h hn hi hlen
  go_enter Tryd.func80, Tryd.ntmps80
  go_wp2_with fail
  go_loopw [2] (fun t wr => ∃ j : Nat, t = .int .i64 (j : Int) ∧ j ≤ n ∧ gapA T L j = gapA T L i ∧ Below w.heap.size w wr) (fun t _ => n - (intOf t).toNat)
  case atStart => exact ⟨i, rfl, HI.out, rfl, Below.refl _ _⟩
  case round =>
    obtain ⟨j, rfl, hj, he, hb⟩ := hrel
    have HB := hide hb
    have HE := hide he
    have hj9 : (j : Int) ≤ 1000000 := by omega
    have wj : IntKind.i64.wrap ((j : Int) + 1) = ((j + 1 : Nat) : Int) := by rw [IntWalk.i64_in _ (by omega)]; omega
    by_cases hl : j < n
    · have y1 : decide (j < n) = true := by simpa using hl
      have y2 : decide ((j : Int) < (n : Int)) = true := by simp; omega
      have y3 : (j : Int) < (n : Int) := by omega
      have hlL : j < L.length := by have := HN.out; omega
      obtain ⟨g, off, ch, kj, rfl, d0, hk, hc, HC⟩ := (HS.out.below hb).look hlL
      have HL := hide hl
      by_cases hg : kj = 3 ∨ kj = 9 ∨ kj = 0 ∨ kj = 10
      · have HF := hide ((gapA_step (T := T) (L := L) (i := j) hlL (by rw [← hk.out]; exact hg)).symm.trans HE.out)
        clear hj he hb hl hlL hk
        rcases hg with rfl | rfl | rfl | rfl
        all_goals
          go_wp2_with (go_at_call 35; (with_reducible refine Calls.mono (HC.out _ (Below.refl _ _)) ?_); rintro e w2 ⟨rfl, b2⟩; have HK := hide (HB.out.trans (b2.mono HB.out.size)); clear b2)
          go_roundw
          case rel => exact ⟨j + 1, rfl, HL.out, HF.out, HK.out⟩
          case measure => have := HL.out; simp [intOf]; omega
      · have g3 : (kj == 3) = false := by simp; omega
        have g9 : (kj == 9) = false := by simp; omega
        have g0 : (kj == 0) = false := by simp; omega
        have g10 : (kj == 10) = false := by simp; omega
        by_cases h8 : kj = 8
        · have HF := hide (show gapA T L (cmtF T L j) = gapA T L i by
            rw [← HE.out, gapA_cmt hlL (by rw [← hk.out]; exact h8), cmtA_eq, cmtF_step hlL (by rw [← hk.out]; omega)])
          have HG := hide (show j < cmtF T L j ∧ cmtF T L j ≤ n by
            have h1 := cmtF_le (T := T) (L := L) (i := j + 1) (by omega)
            rw [cmtF_step hlL (by rw [← hk.out]; omega)]
            have := HN.out
            omega)
          obtain ⟨m, hm⟩ : ∃ m, m = cmtF T L j := ⟨_, rfl⟩
          have HCJ := hide (fun (y : World) (hy : Below w.heap.size w y) => HCM.out y hy j (Nat.le_of_lt hl))
          rw [← hm] at HF HG HCJ
          clear hj he hb hl hlL hk hg hm g3 g9 g0 g10
          subst h8
          go_wp2_with (first | (go_at_call 35; (with_reducible refine Calls.mono (HC.out _ (Below.refl _ _)) ?_); rintro e w2 ⟨rfl, b2⟩; have HK := hide (HB.out.trans (b2.mono HB.out.size)); clear b2) | (go_at_call 84; (with_reducible refine Calls.mono (HCJ.out _ HK.out) ?_); rintro e w3 ⟨rfl, b3⟩; have HM := hide (HK.out.trans (b3.mono HK.out.size)); clear b3))
          go_roundw
          case rel => exact ⟨m, rfl, HG.out.2, HF.out, HM.out⟩
          case measure => have := HG.out; simp [intOf]; omega
        · have g8 : (kj == 8) = false := by simpa using h8
          have HF := hide (show gapA T L i = j by rw [← HE.out, gapA_stop hlL (by rw [← hk.out]; exact h8) (by rw [← hk.out]; exact hg)])
          clear hj he hb hl hlL hk hg h8
          go_wp2_with (go_at_call 35; (with_reducible refine Calls.mono (HC.out _ (Below.refl _ _)) ?_); rintro e w2 ⟨rfl, b2⟩; have HK := hide (HB.out.trans (b2.mono HB.out.size)); clear b2)
          go_ret
          exact ⟨by rw [HF.out]; rfl, HK.out⟩
    · have y1 : decide (j < n) = false := by simpa using hl
      have y2 : decide ((j : Int) < (n : Int)) = false := by simp; omega
      have y3 : ¬ (j : Int) < (n : Int) := by omega
      have HF := hide (show gapA T L i = j by rw [← HE.out, gapA_end (by have := HN.out; omega)])
      clear hj he hb hl
      go_wp2_with fail
      go_ret
      exact ⟨by rw [HF.out]; rfl, HB.out⟩
def isName (k : Int) : Bool := decide (k = 1 ∨ k = 2 ∨ k = 7 ∨ k = 10)
set_option maxRecDepth 100000 in
set_option maxHeartbeats 4000000 in
theorem rname_any (k : Int) (w : World) : Calls Tryd.prog 90 #[.int .i64 k] w fun e w' => e = .returned (.bool (isName k)) ∧ w = w' := by
  by_cases h1 : k = 1
  · subst h1
    go_enter Tryd.func90, Tryd.ntmps90
    go_wp2_with fail
    go_ret
    exact ⟨rfl, rfl⟩
  by_cases h2 : k = 2
  · subst h2
    go_enter Tryd.func90, Tryd.ntmps90
    go_wp2_with fail
    go_ret
    exact ⟨rfl, rfl⟩
  by_cases h7 : k = 7
  · subst h7
    go_enter Tryd.func90, Tryd.ntmps90
    go_wp2_with fail
    go_ret
    exact ⟨rfl, rfl⟩
  by_cases h10 : k = 10
  · subst h10
    go_enter Tryd.func90, Tryd.ntmps90
    go_wp2_with fail
    go_ret
    exact ⟨rfl, rfl⟩
  have g1 : (k == 1) = false := by simpa using h1
  have g2 : (k == 2) = false := by simpa using h2
  have g7 : (k == 7) = false := by simpa using h7
  have g10 : (k == 10) = false := by simpa using h10
  have HE := hide (show isName k = false by unfold isName; simp; omega)
  clear h1 h2 h7 h10
  go_enter Tryd.func90, Tryd.ntmps90
  go_wp2_with fail
  go_ret
  exact ⟨by rw [HE.out]; rfl, rfl⟩
set_option maxRecDepth 100000 in
set_option maxHeartbeats 4000000 in
theorem rword_scan (h : RSc w r T v L) (hi : i ≤ L.length) : Calls Tryd.prog 83 #[.pointer (some ⟨r, 0, none⟩), v, .int .i64 (i : Int)] w fun e w' => e = .returned (.int .i64 (nameA T L i : Int)) ∧ Below w.heap.size w w' := by
  obtain ⟨A, c, rfl⟩ := h.form
  have hlen := h.len
  have HS := hide h
  obtain ⟨n, hn⟩ : ∃ n, n = L.length := ⟨_, rfl⟩
  have HN := hide hn
  rw [← hn] at HS hi hlen ⊢
  have hn9 : (n : Int) ≤ 1000000 := by omega
  have HI := hide hi
  clear h hn hi hlen
  go_enter Tryd.func83, Tryd.ntmps83
  go_wp2_with fail
  go_loopw [2] (fun t wr => ∃ j : Nat, t = .int .i64 (j : Int) ∧ j ≤ n + 1 ∧ min (nameA T L j) n = nameA T L i ∧ Below w.heap.size w wr) (fun t _ => n + 2 - (intOf t).toNat)
  case atStart => exact ⟨i, rfl, by have := HI.out; omega, by have := nameA_le (T := T) (L := L) (i := i) (by have := HN.out; have := HI.out; omega); have := HN.out; omega, Below.refl _ _⟩
  case round =>
    obtain ⟨j, rfl, hj, he, hb⟩ := hrel
    have HB := hide hb
    have HE := hide he
    have hj9 : (j : Int) ≤ 1000001 := by omega
    have wj : IntKind.i64.wrap ((j : Int) + 1) = ((j + 1 : Nat) : Int) := by rw [IntWalk.i64_in _ (by omega)]; omega
    have wj2 : IntKind.i64.wrap (((j + 1 : Nat) : Int) + 1) = ((j + 2 : Nat) : Int) := by rw [IntWalk.i64_in _ (by omega)]; omega
    by_cases hl : j < n
    · have y1 : decide (j < n) = true := by simpa using hl
      have y2 : decide ((j : Int) < (n : Int)) = true := by simp; omega
      have y3 : (j : Int) < (n : Int) := by omega
      have hlL : j < L.length := by have := HN.out; omega
      obtain ⟨g, off, ch, kj, rfl, d0, hk, hc, HC⟩ := (HS.out.below hb).look hlL
      have HL := hide hl
      have HNM := hide (fun (y : World) => rname_any kj y)
      by_cases h7 : kj = 7
      · subst h7
        rw [show isName 7 = true from rfl] at HNM
        have HF := hide (show min (nameA T L (j + 2)) n = nameA T L i by
          rw [← HE.out]
          by_cases h2 : j + 1 < L.length
          · rw [nameA_esc h2 hk.out.symm]
          · have := HN.out
            rw [nameA_last (by omega) hk.out.symm, nameA_end (by omega)]
            omega)
        clear hj he hb hl hlL hk
        go_wp2_with (first | (go_at_call 35; (with_reducible refine Calls.mono (HC.out _ (Below.refl _ _)) ?_); rintro e w2 ⟨rfl, b2⟩; have HK := hide b2; have d1 := cell_keep d0 b2; clear b2) | (go_at_call 35; (with_reducible refine Calls.mono (HC.out _ HK.out) ?_); rintro e w3 ⟨rfl, b3⟩; have HM := hide ((HB.out.trans (HK.out.mono HB.out.size)).trans (b3.mono (Nat.le_trans HB.out.size HK.out.size))); clear b3) | (go_at_call 90; (with_reducible refine Calls.mono (HNM.out _) ?_); rintro e w4 ⟨rfl, rfl⟩))
        go_roundw
        case rel => exact ⟨j + 2, rfl, by have := HL.out; omega, HF.out, HM.out⟩
        case measure => have := HL.out; simp [intOf]; omega
      · have g7 : (kj == 7) = false := by simpa using h7
        by_cases hp : kj = 1 ∨ kj = 2 ∨ kj = 10
        · rw [show isName kj = true by unfold isName; simp; omega] at HNM
          have HF := hide (show min (nameA T L (j + 1)) n = nameA T L i by rw [← HE.out, nameA_step hlL (by rw [← hk.out]; exact hp)])
          clear hj he hb hl hlL hk hp h7
          go_wp2_with (first | (go_at_call 35; (with_reducible refine Calls.mono (HC.out _ (Below.refl _ _)) ?_); rintro e w2 ⟨rfl, b2⟩; have HK := hide b2; have d1 := cell_keep d0 b2; clear b2) | (go_at_call 35; (with_reducible refine Calls.mono (HC.out _ HK.out) ?_); rintro e w3 ⟨rfl, b3⟩; have HM := hide ((HB.out.trans (HK.out.mono HB.out.size)).trans (b3.mono (Nat.le_trans HB.out.size HK.out.size))); clear b3) | (go_at_call 90; (with_reducible refine Calls.mono (HNM.out _) ?_); rintro e w4 ⟨rfl, rfl⟩))
          go_roundw
          case rel => exact ⟨j + 1, rfl, by have := HL.out; omega, HF.out, HM.out⟩
          case measure => have := HL.out; simp [intOf]; omega
        · rw [show isName kj = false by unfold isName; simp; omega] at HNM
          have HF := hide (show nameA T L i = j by
            have h1 := HE.out
            rw [nameA_stop hlL (by rw [← hk.out]; exact h7) (by rw [← hk.out]; exact hp)] at h1
            have := HL.out
            omega)
          clear hj he hb hl hlL hk hp h7
          go_wp2_with (first | (go_at_call 35; (with_reducible refine Calls.mono (HC.out _ (Below.refl _ _)) ?_); rintro e w2 ⟨rfl, b2⟩; have HK := hide (HB.out.trans (b2.mono HB.out.size)); clear b2) | (go_at_call 90; (with_reducible refine Calls.mono (HNM.out _) ?_); rintro e w4 ⟨rfl, rfl⟩))
          go_ret
          refine ⟨ret_int ?_, HK.out⟩
          rw [HF.out]
          omega
    · have y1 : decide (j < n) = false := by simpa using hl
      have y2 : decide ((j : Int) < (n : Int)) = false := by simp; omega
      have y3 : ¬ (j : Int) < (n : Int) := by omega
      have HF := hide (show nameA T L i = n by
        have h1 := HE.out
        rw [nameA_end (by have := HN.out; omega)] at h1
        omega)
      clear hj he hb hl
      go_wp2_with fail
      go_ret
      refine ⟨ret_int ?_, HB.out⟩
      rw [HF.out]
      omega
set_option maxRecDepth 100000 in
set_option maxHeartbeats 4000000 in
theorem rquoted_any (h : RSc w r T v L) (hi : i < L.length) : Calls Tryd.prog 81 #[.pointer (some ⟨r, 0, none⟩), v, .int .i64 (i : Int)] w fun e w' => e = .returned (quoR (quoA T L i)) ∧ Below w.heap.size w w' := by
  obtain ⟨A, c, rfl⟩ := h.form
  have hlen := h.len
  have HS := hide h
  obtain ⟨g, off, rfl, _⟩ := h.cell hi
  have HCE := hide (fun (y : World) (hb : Below w.heap.size w y) (j : Nat) (hj : j < L.length) => (show y.cell? ⟨g, off + j, none⟩ = some (.int .i64 ((L.getD j 0 : Nat) : Int)) from by
    obtain ⟨g', off', e, hc⟩ := (h.below hb).cell hj
    injection e with e
    injection e with e1 e2
    subst e1 e2
    exact hc))
  obtain ⟨n, hn⟩ : ∃ n, n = L.length := ⟨_, rfl⟩
  have HN := hide hn
  rw [← hn] at HS hi hlen HCE ⊢
  have hn9 : (n : Int) ≤ 1000000 := by omega
  have HI := hide hi
  have hi9 : (i : Int) < (n : Int) := by omega
  have x1 : decide (i < n) = true := by simpa using hi
  have x2 : decide ((i : Int) < (n : Int)) = true := by simp; omega
  obtain ⟨ci, hci⟩ : ∃ ci : Int, ci = ((L.getD i 0 : Nat) : Int) := ⟨_, rfl⟩
  have HCI := hide hci
  clear h hn hi hlen hci
  go_enter Tryd.func81, Tryd.ntmps81
  go_wp2_with fail
  go_loopw [8] (fun t wr => ∃ j : Nat, t = .int .i64 (j : Int) ∧ j ≤ n + 1 ∧ quoF T L (L.getD i 0) j = quoA T L i ∧ Below w.heap.size w wr) (fun t _ => n + 2 - (intOf t).toNat)
  case atStart => exact ⟨i + 1, by go_num, by have := HI.out; omega, rfl, Below.refl _ _⟩
  case round =>
    obtain ⟨j, rfl, hj, he, hb⟩ := hrel
    have HB := hide hb
    have HE := hide he
    have hj9 : (j : Int) ≤ 1000001 := by omega
    have wj : IntKind.i64.wrap ((j : Int) + 1) = ((j + 1 : Nat) : Int) := by rw [IntWalk.i64_in _ (by omega)]; omega
    have wj2 : IntKind.i64.wrap (((j + 1 : Nat) : Int) + 1) = ((j + 2 : Nat) : Int) := by rw [IntWalk.i64_in _ (by omega)]; omega
    by_cases hl : j < n
    · have y1 : decide (j < n) = true := by simpa using hl
      have y2 : decide ((j : Int) < (n : Int)) = true := by simp; omega
      have y3 : (j : Int) < (n : Int) := by omega
      have hlL : j < L.length := by have := HN.out; omega
      obtain ⟨g', off', ch, kj, e, d0, hk, hc, HC⟩ := (HS.out.below hb).look hlL
      injection e with e
      injection e with e1 e2
      subst e1 e2
      have HL := hide hl
      by_cases h7 : kj = 7
      · have HF := hide (show quoF T L (L.getD i 0) (j + 2) = quoA T L i by rw [← HE.out, quoF_esc hlL (by rw [← hk.out]; exact h7)])
        subst h7
        clear hj he hb hl hlL hk
        go_wp2_with (go_at_call 35; (with_reducible refine Calls.mono (HC.out _ (Below.refl _ _)) ?_); rintro e w2 ⟨rfl, b2⟩; have HK := hide (HB.out.trans (b2.mono HB.out.size)); clear b2)
        go_roundw
        case rel => exact ⟨j + 2, rfl, by have := HL.out; omega, HF.out, HK.out⟩
        case measure => have := HL.out; simp [intOf]; omega
      · have g7 : (kj == 7) = false := by simpa using h7
        by_cases hq : ch = ci
        · have q1 : (ch == ci) = true := by simpa using hq
          have HF := hide (show quoA T L i = some (j + 1) by
            rw [← HE.out]
            refine quoF_hit hlL (by rw [← hk.out]; exact h7) ?_
            rw [hc.out, HCI.out] at hq
            exact Int.ofNat.inj hq)
          clear hj he hb hl hlL hk h7 hq
          go_upto_region 6 with (go_at_call 35; (with_reducible refine Calls.mono (HC.out _ (Below.refl _ _)) ?_); rintro e w2 ⟨rfl, b2⟩; have HK := hide (HB.out.trans (b2.mono HB.out.size)); have e0 := cell_keep d0 b2; have e1 := HCE.out _ HK.out i HI.out; rw [← HCI.out] at e1; clear b2)
          go_region
          go_wp2_with fail
          go_ret2
          refine ⟨?_, HK.out.drew⟩
          rw [HF.out]
          simp [quoR]
        · have q1 : (ch == ci) = false := by simpa using hq
          have HF := hide (show quoF T L (L.getD i 0) (j + 1) = quoA T L i by
            rw [← HE.out]
            refine (quoF_step hlL (by rw [← hk.out]; exact h7) fun h => ?_).symm
            exact hq (by rw [hc.out, HCI.out, h]))
          clear hj he hb hl hlL hk h7 hq
          go_upto_region 6 with (go_at_call 35; (with_reducible refine Calls.mono (HC.out _ (Below.refl _ _)) ?_); rintro e w2 ⟨rfl, b2⟩; have HK := hide (HB.out.trans (b2.mono HB.out.size)); have e0 := cell_keep d0 b2; have e1 := HCE.out _ HK.out i HI.out; rw [← HCI.out] at e1; clear b2)
          go_region
          go_wp2_with fail
          go_roundw
          case rel => exact ⟨j + 1, rfl, by have := HL.out; omega, HF.out, HK.out.drew⟩
          case measure => have := HL.out; simp [intOf]; omega
    · have y1 : decide (j < n) = false := by simpa using hl
      have y2 : decide ((j : Int) < (n : Int)) = false := by simp; omega
      have y3 : ¬ (j : Int) < (n : Int) := by omega
      have HF := hide (show quoA T L i = none by rw [← HE.out, quoF_end (by have := HN.out; omega)])
      clear hj he hb hl
      go_wp2_with fail
      go_ret2
      refine ⟨?_, HB.out⟩
      rw [HF.out]
      rfl
end
end Go.Proofs.YtdojcgefiekleaaDoor
