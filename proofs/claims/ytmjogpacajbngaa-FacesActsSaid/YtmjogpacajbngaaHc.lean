/- The reference: reaches. No condition but those written. -/
import Derived.Test.YtmjogpacajbngaaHb
namespace Go.Proofs.Ytmjogpacajbngaa
open Go.RowKit

theorem plc_look (L : Fm) (s : ByteArray) : (∃ i a, plc (L.map (·.1)) s = some i ∧ L[i]? = some (s, a) ∧ look L s = some a) ∨ (plc (L.map (·.1)) s = none ∧ look L s = none) := by
  induction L with
  | nil => exact .inr ⟨rfl, rfl⟩
  | cons x L ih =>
    rw [look_cons]
    by_cases h : s = x.1
    · refine .inl ⟨0, x.2, ?_, ?_, by rw [if_pos h]⟩
      · unfold plc
        rw [List.map_cons, List.findIdx?_cons, ← h, beq_ba]
        rfl
      · rw [h]
        rfl
    · rw [if_neg h]
      have h2 : (x.1 == s) = false := bne_ba fun e => h e.symm
      have h3 : plc ((x :: L).map (·.1)) s = (plc (L.map (·.1)) s).map (· + 1) := by
        unfold plc
        rw [List.map_cons, List.findIdx?_cons, h2]
        rfl
      rcases ih with ⟨i, a, h4, h5, h6⟩ | ⟨h4, h5⟩
      · exact .inl ⟨i + 1, a, by rw [h3, h4]; rfl, h5, h6⟩
      · exact .inr ⟨by rw [h3, h4]; rfl, h5⟩
theorem len_le_of_sub {α : Type} [DecidableEq α] : ∀ {l m : List α}, l.Nodup → (∀ x ∈ l, x ∈ m) → l.length ≤ m.length
  | [], _, _, _ => Nat.zero_le _
  | x :: l, m, hn, hs => by
    have hx : x ∈ m := hs x (List.mem_cons_self ..)
    rw [List.nodup_cons] at hn
    have := len_le_of_sub (m := m.erase x) hn.2 fun y hy => (List.mem_erase_of_ne (fun (e : y = x) => hn.1 (by rw [← e]; exact hy))).2 (hs y (List.mem_cons_of_mem _ hy))
    rw [List.length_erase_of_mem hx] at this
    have h0 : 0 < m.length := List.length_pos_of_mem hx
    rw [List.length_cons]
    omega
theorem Chain.suffix {D : Fm} {s t : ByteArray} {xs : List ByteArray} (h : Chain D s xs) (ht : t ∈ xs) : ∃ ys, Chain D t ys ∧ ys.length ≤ xs.length := by
  induction h with
  | nil => cases ht
  | @cons s l hs hc ih =>
    rcases List.mem_cons.1 ht with rfl | ht
    · exact ⟨_, .cons hs hc, Nat.le_refl _⟩
    · obtain ⟨ys, h1, h2⟩ := ih ht
      exact ⟨ys, h1, Nat.le_succ_of_le h2⟩
theorem Chain.nodup {D : Fm} {s : ByteArray} {xs : List ByteArray} (h : Chain D s xs) : xs.Nodup := by
  induction h with
  | nil => exact List.nodup_nil
  | @cons s l hs hc ih =>
    refine List.nodup_cons.2 ⟨fun hm => ?_, ih⟩
    obtain ⟨ys, h1, h2⟩ := hc.suffix hm
    have := (Chain.cons hs hc).uniq h1
    rw [← this, List.length_cons] at h2
    omega
theorem lookZ_of {D : Fm} {s : ByteArray} {a : Att} (h : look D s = some a) : lookZ D s = a := by
  unfold lookZ
  rw [h]
  rfl
theorem Chain.inside {D : Fm} (hG : GoodF D) {s : ByteArray} {xs : List ByteArray} (h : Chain D s xs) (hs : s = ⟨#[]⟩ ∨ (look D s).isSome = true) : ∀ t ∈ xs, (look D t).isSome = true := by
  induction h with
  | nil => exact fun t ht => by cases ht
  | @cons s l hne hc ih =>
    have h1 := hs.resolve_left hne
    intro t ht
    rcases List.mem_cons.1 ht with rfl | ht
    · exact h1
    · refine ih ?_ t ht
      obtain ⟨b, hb⟩ := Option.isSome_iff_exists.1 h1
      rw [lookZ_of hb]
      rcases hG.up _ (look_in hb) with h | h
      · exact .inl h
      · exact .inr h.2
theorem Chain.len_le {D : Fm} (hG : GoodF D) {s : ByteArray} {xs : List ByteArray} (h : Chain D s xs) (hs : s = ⟨#[]⟩ ∨ (look D s).isSome = true) : xs.length ≤ D.length := by
  have := len_le_of_sub (m := D.map (·.1)) h.nodup fun t ht => (look_key D t).1 (h.inside hG hs t ht)
  rwa [List.length_map] at this
theorem rd_att {w : World} {A : Option Addr} {n c i : Nat} {av : List Att} {a : Att} (h : Rd w (.slice A n c) 6 n (rows Att.cells av)) (hi : av[i]? = some a) : ∃ g off, A = some ⟨g, off, none⟩ ∧ w.cell? ⟨g, off + i * 6, none⟩ = some (.int .i64 a.fo) ∧ w.cell? ⟨g, off + i * 6 + 1, none⟩ = some (.int .i64 a.ba) ∧ w.cell? ⟨g, off + i * 6 + 2, none⟩ = some (.int .i64 a.bo) ∧ w.cell? ⟨g, off + i * 6 + 3, none⟩ = some (.int .i64 a.un) ∧ w.cell? ⟨g, off + i * 6 + 4, none⟩ = some (.int .i64 a.iv) ∧ w.cell? ⟨g, off + i * 6 + 5, none⟩ = some (.string a.inh) := by
  have hml : n = av.length := by
    obtain ⟨_, _, _, hl, _⟩ := h
    rw [rows_len att_len] at hl
    omega
  subst hml
  obtain ⟨g', off', c', hv, hc⟩ := h.fld att_len (by have := (List.getElem?_eq_some_iff.1 hi).1; omega)
  injection hv with e1 _ _
  subst e1
  exact ⟨g', off', rfl, hc i a 0 _ hi rfl, hc i a 1 _ hi rfl, hc i a 2 _ hi rfl, hc i a 3 _ hi rfl, hc i a 4 _ hi rfl, hc i a 5 _ hi rfl⟩
theorem plcZ_some {ns : List ByteArray} {s : ByteArray} {i : Nat} (h : plc ns s = some i) : plcZ ns s = (i : Int) := by
  unfold plcZ
  rw [h]
theorem plcZ_none {ns : List ByteArray} {s : ByteArray} (h : plc ns s = none) : plcZ ns s = -1 := by
  unfold plcZ
  rw [h]
set_option maxRecDepth 100000 in
set_option maxHeartbeats 8000000 in
theorem reaches_any {w : World} {rb n c d : Nat} {A B : Option Addr} {L : Fm} (hG : GoodF L) (hb : Blk w rb 43 #[.slice A n c, .slice B n d]) (hr : Rd w (.slice A n c) 1 n (strs (L.map (·.1)))) (ha : Rd w (.slice B n d) 6 n (rows Att.cells (L.map (·.2)))) (hn : L.length = n) (s t : ByteArray) (hs : (look L s).isSome = true) {xs : List ByteArray} (hx : Chain L s xs) :
    Calls Try.prog 46 #[.pointer (some ⟨rb, 0, none⟩), .string s, .string t] w fun e w' => e = .returned (.bool (xs.any fun y => y == t)) ∧ w = w' := by
  have c0 : w.cell? ⟨rb, 0, none⟩ = some (.slice A n c) := by rw [hb.cell]; rfl
  have c1 : w.cell? ⟨rb, 1, none⟩ = some (.slice B n d) := by rw [hb.cell]; rfl
  have hn2 : n ≤ 256 := hn ▸ hG.le
  have HLE := hide (show xs.length ≤ n from hn ▸ hx.len_le hG (.inr hs))
  have HP := hide (fun y => place_any hb hr y (by omega))
  have HA := hide ha
  have hsne : s ≠ ⟨#[]⟩ := by
    obtain ⟨b, hb⟩ := Option.isSome_iff_exists.1 hs
    exact validF_ne (hG.ok _ (look_in hb))
  have HX := hide hx
  have HSN := hide hsne
  clear hb hr ha hx hs hG hsne
  go_enter Try.func46, Try.ntmps46
  go_wp2
  go_loop [1, 7] (fun u v => ∃ (k : Nat) (y : ByteArray) (pre ys : List ByteArray), u = .string y ∧ v = .int .i64 (k : Int) ∧ y ≠ ⟨#[]⟩ ∧ Chain L y ys ∧ xs = pre ++ ys ∧ pre.length = k ∧ (pre.any fun y => y == t) = false) (fun _ v => n + 1 - (intOf v).toNat)
  case atStart => exact ⟨0, s, [], xs, rfl, rfl, HSN.out, HX.out, rfl, rfl, rfl⟩
  case round =>
    obtain ⟨k, y, pre, ys, rfl, rfl, hyne, hy, hxs, hpl, hpa⟩ := hrel
    cases hy with
    | nil => exact absurd rfl hyne
    | @cons _ zs _ hz =>
      have hkn : k < n := by
        have := HLE.out
        rw [hxs, List.length_append, List.length_cons] at this
        omega
      have y1 : decide (k ≤ n) = true := by simp; omega
      have y2 : decide ((k : Int) ≤ (n : Int)) = true := by simp; omega
      have HK := hide hkn
      have HZ := hide hz
      have HXS := hide hxs
      have HPL := hide hpl
      have HPA := hide hpa
      clear hz hxs hpl hpa hyne
      cases he : y == t with
      | true =>
        have z1 : (y.toList == t.toList) = true := by rw [toList_beq]; exact he
        have HR := hide (show (xs.any fun y => y == t) = true by rw [HXS.out, List.any_append, List.any_cons, he]; simp)
        clear he
        go_wp2
        go_ret
        exact ⟨by rw [HR.out]; rfl, rfl⟩
      | false =>
        have z1 : (y.toList == t.toList) = false := by rw [toList_beq]; exact he
        have HE := hide he
        clear he
        rcases plc_look L y with ⟨i, a, h1, h2, h3⟩ | ⟨h1, h2⟩
        · have HPy := hide (HP.out y)
          rw [plcZ_some h1] at HPy
          have hil : i < n := by
            have := (List.getElem?_eq_some_iff.1 h2).1
            omega
          obtain ⟨g, off, rfl, p0, p1, p2, p3, p4, p5⟩ := rd_att HA.out (i := i) (a := a) (by rw [List.getElem?_map, h2]; rfl)
          have HZ2 := hide (show Chain L a.inh zs by have := HZ.out; rwa [lookZ_of h3] at this)
          have q1 : decide (i < n) = true := by simpa using hil
          have q2 : decide ((i : Int) < (n : Int)) = true := decide_eq_true (by omega)
          have q3 : decide ((i : Int) < 0) = false := decide_eq_false (by omega)
          clear h1 h2 h3
          by_cases hi : a.inh = ⟨#[]⟩
          · have z2 := empty_is hi
            have z3 : (a.inh.toList == []) = true := by
              cases hl : a.inh.toList with
              | nil => rfl
              | cons _ _ => rw [hl] at z2; cases z2
            have HR := hide (show (xs.any fun y => y == t) = false by
              have hz := HZ2.out
              rw [hi] at hz
              cases hz with
              | nil => rw [HXS.out, List.any_append, HPA.out, List.any_cons, HE.out]; rfl
              | cons h _ => exact absurd rfl h)
            clear hi
            go_wp2_with fail
            refine Calls.mono HPy.out ?_
            rintro r w2 ⟨rfl, rfl⟩
            go_wp2
            go_ret
            exact ⟨by rw [HR.out]; rfl, rfl⟩
          · have z2 := ne_empty hi
            have z3 : (a.inh.toList == []) = false := by
              cases hl : a.inh.toList with
              | nil => rw [hl] at z2; cases z2
              | cons _ _ => rfl
            have HI := hide hi
            clear hi
            go_wp2_with fail
            refine Calls.mono HPy.out ?_
            rintro r w2 ⟨rfl, rfl⟩
            go_wp2
            go_round
            case rel => exact ⟨k + 1, a.inh, pre ++ [y], zs, rfl, by go_num, HI.out, HZ2.out, by rw [HXS.out]; simp, by rw [List.length_append, HPL.out]; rfl, by rw [List.any_append, HPA.out, List.any_cons, HE.out]; rfl⟩
            case measure => have := HK.out; simp [intOf]; omega
        · have HPy := hide (HP.out y)
          rw [plcZ_none h1] at HPy
          have HR := hide (show (xs.any fun y => y == t) = false by
            have hz := HZ.out
            have e : (lookZ L y).inh = ⟨#[]⟩ := by
              unfold lookZ
              rw [h2]
              rfl
            rw [e] at hz
            cases hz with
            | nil => rw [HXS.out, List.any_append, HPA.out, List.any_cons, HE.out]; rfl
            | cons h _ => exact absurd rfl h)
          clear h1 h2
          go_wp2_with fail
          refine Calls.mono HPy.out ?_
          rintro r w2 ⟨rfl, rfl⟩
          go_wp2
          go_ret
          exact ⟨by rw [HR.out]; rfl, rfl⟩
end Go.Proofs.Ytmjogpacajbngaa
