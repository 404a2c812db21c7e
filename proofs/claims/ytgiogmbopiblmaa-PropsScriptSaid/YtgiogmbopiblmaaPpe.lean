/- Pieces in memory; a piece put behind others. No condition but those written. -/
import Derived.Test.YtgiogmbopiblmaaPpb
namespace Go.Proofs.Ytgiogmbopiblmaa
open Go.RowKit

theorem info_pc : (Try.prog.info? 73).map (fun i => (i.zero, i.size, i.bytes)) = some (some (.agg #[.int .i64 0, .int .i64 0, .slice none 0 0]), 3, 40) := by kernel_rfl
/-- A piece's cells: it and where its properties lie. -/
def pcC (p : Pc × Value) : List Value := [.int .i64 (p.1.fr : Int), .int .i64 (p.1.to : Int), p.2]
theorem pcC_len (p : Pc × Value) : (pcC p).length = 3 := rfl
/-- Pieces in memory. -/
structure PcsAt (W : World) (sv : Value) (L : List (Pc × Value)) : Prop where
  row : Sl W 73 3 sv L.length (rows pcC L)
  inn : ∀ p ∈ L, PrS W p.2 p.1.pr
def pcs (L : List (Pc × Value)) : List Pc := L.map (·.1)
theorem Sl.apart {w : World} {T T' : TypeId} {k k' n n' : Nat} {v v' : Value} {xs xs' : List Value} (h : Sl w T k v n xs) (h' : Sl w T' k' v' n' xs') (hne : T ≠ T') : ∀ g, v.ownBlock = some g → ¬ v'.ownBlock = some g := fun g hg => by
  rcases h.2 with ⟨e, _⟩ | ⟨g1, o1, c1, cs1, e, hh, _⟩
  · rw [e] at hg
    cases hg
  · rw [e] at hg
    cases hg
    exact Sl.ne_blk h' hh (fun e => hne e.symm)
theorem PrS.one {W : World} {v : Value} {q : List Pr} (h : PrS W v q) : v.oneCell' = true := by
  obtain ⟨A, c, rfl, _⟩ := Sl.form h
  rfl
theorem PrS.apart {w w' : World} {v sv : Value} {q : List Pr} {n : Nat} {xs : List Value} (h : PrS w v q) (hs : Sl w 73 3 sv n xs) (ho : Only (fun g => sv.ownBlock = some g) w w') : PrS w' v q :=
  Sl.only h ho (Sl.apart h hs (by decide))
section
variable {W w w' : World} {sv v : Value} {L : List (Pc × Value)} {q : List Pr}
theorem PcsAt.nil (W : World) : PcsAt W (.slice none 0 0) [] := ⟨Sl.nil _ _ _, fun p hp => by cases hp⟩
theorem PcsAt.below (h : PcsAt w sv L) (hb : Below w.heap.size w w') : PcsAt w' sv L := ⟨h.row.only (Only.of_below (F := fun _ => False) hb) fun _ _ f => f, fun p hp => (h.inn p hp).below hb⟩
theorem PcsAt.drewN (h : PcsAt w sv L) (n : Nat) : PcsAt (w.drewN n) sv L := ⟨h.row.drewN n, fun p hp => Sl.drewN (h.inn p hp) n⟩
theorem PcsAt.one (h : PcsAt w sv L) : ∀ u ∈ rows pcC L, u.oneCell' = true := by
  intro u hu
  obtain ⟨p, hp, hu⟩ := List.mem_flatMap.1 hu
  simp only [pcC, List.mem_cons, List.not_mem_nil, or_false] at hu
  rcases hu with rfl | rfl | rfl
  · rfl
  · rfl
  · exact (h.inn p hp).one
/-- What a change of the row leaves. -/
theorem PcsAt.turn {sv' : Value} {L' : List (Pc × Value)} (h : PcsAt w sv L) (hs : Sl w' 73 3 sv' L'.length (rows pcC L')) (ho : Only (fun g => sv.ownBlock = some g) w w') (hi : ∀ p ∈ L', PrS w p.2 p.1.pr) : PcsAt w' sv' L' :=
  ⟨hs, fun p hp => (hi p hp).apart h.row ho⟩
/-- Behind a change: the pieces, the frame. -/
def PcsRes (w : World) (sv : Value) (l : List Pc) (e : Ending) (w' : World) : Prop := ∃ sv' L', e = .returned sv' ∧ PcsAt w' sv' L' ∧ pcs L' = l ∧ Only (fun g => sv.ownBlock = some g) w w' ∧ (sv'.ownBlock = sv.ownBlock ∨ ∃ g, sv'.ownBlock = some g ∧ w.heap.size ≤ g)
theorem rd_pc (w : World) (p : Pc × Value) : Rd (w.alloc (.cells (pcC p).toArray 73)) (.slice (some ⟨w.heap.size, 0, none⟩) 1 1) 3 1 (pcC p) := rd_elem w 73 3 (pcC p) rfl
set_option maxRecDepth 100000 in
set_option maxHeartbeats 8000000 in
theorem add_any (h : PcsAt w sv L) (hq : PrS w v q) (a b : Int) (hl : L.length ≤ 1000000) (hql : q.length ≤ 1000000) (hpl1 : ∀ p ∈ L, p.1.pr.length ≤ 1000000) (ha : a < b → 0 ≤ a) :
    Calls Try.prog 56 #[sv, .int .i64 a, .int .i64 b, v] w (PcsRes w sv (addP (pcs L) a.toNat b.toNat q)) := by
  obtain ⟨A, c, rfl, hx1⟩ := h.row.form
  obtain ⟨Aq, cq, rfl, hx2⟩ := Sl.form hq
  clear hx1 hx2
  have hl2 : (L.length : Int) ≤ 1000000 := by omega
  by_cases hab : b ≤ a
  · have z1 : decide (b ≤ a) = true := by simpa using hab
    have HR := hide (addP_skip (l := pcs L) (q := q) (.inl (show b.toNat ≤ a.toNat by omega)))
    have H := hide h
    clear h hq hab ha hpl1
    go_enter Try.func56, Try.ntmps56
    go_wp2
    go_ret
    exact ⟨_, L, rfl, H.out, HR.out.symm, Only.refl _ _, .inl rfl⟩
  have z1 : decide (b ≤ a) = false := by simpa using hab
  obtain ⟨an, rfl⟩ : ∃ n : Nat, a = (n : Int) := ⟨a.toNat, by have := ha (by omega); omega⟩
  obtain ⟨bn, rfl⟩ : ∃ n : Nat, b = (n : Int) := ⟨b.toNat, by omega⟩
  have HAB := hide (show an < bn by omega)
  rw [Int.toNat_natCast, Int.toNat_natCast]
  by_cases hq0 : q = []
  · subst hq0
    have HR := hide (addP_skip (l := pcs L) (a := an) (b := bn) (q := []) (.inr rfl))
    have H := hide h
    clear h hq hab ha hpl1
    have z2 : ((([] : List Pr).length : Int) == 0) = true := rfl
    go_enter Try.func56, Try.ntmps56
    go_wp2
    go_ret
    exact ⟨_, L, rfl, H.out, HR.out.symm, Only.refl _ _, .inl rfl⟩
  obtain ⟨i0, hi, hz0, hz1, hz2⟩ := info_parts info_pc
  have hqp : 0 < q.length := List.length_pos_iff.2 hq0
  have z2 : ((q.length : Int) == 0) = false := by simp; omega
  have z3 : ¬ (q.length : Int) = 0 := by omega
  have hq0c := hide hq0
  -- how a new piece joins
  have HAPP := hide (fun (w1 w2 : World) (v' : Value) (hb : ∃ n, w1 = w.drewN n) (hadd : addP (pcs L) an bn q = pcs L ++ [⟨an, bn, q⟩]) (hs : Sl w2 73 3 v' (L.length + 1) (rows pcC L ++ pcC (⟨an, bn, q⟩, .slice Aq q.length cq))) (ho : Only (fun g => (Value.slice A L.length c).ownBlock = some g) (w1.alloc (.cells (pcC (⟨an, bn, q⟩, .slice Aq q.length cq)).toArray 73)) w2) (hv : v'.ownBlock = (Value.slice A L.length c).ownBlock ∨ ∃ g, v'.ownBlock = some g ∧ w.heap.size ≤ g) =>
    (show PcsRes w (.slice A L.length c) (addP (pcs L) an bn q) (.returned v') w2 from by
      obtain ⟨n, rfl⟩ := hb
      have ho2 : Only (fun g => (Value.slice A L.length c).ownBlock = some g) w w2 := (((Only.refl _ w).drewN n).alloc _).trans ho
      refine ⟨v', L ++ [(⟨an, bn, q⟩, .slice Aq q.length cq)], rfl, h.turn ?_ ho2 ?_, by rw [hadd]; simp [pcs], ho2, ?_⟩
      · rw [List.length_append, rows_append, rows_one]
        exact hs
      · intro p hp
        rcases List.mem_append.1 hp with hp | hp
        · exact h.inn p hp
        · have : p = (⟨an, bn, q⟩, .slice Aq q.length cq) := by simpa using hp
          subst this
          exact hq
      · exact hv))
  rcases List.eq_nil_or_concat L with rfl | ⟨K, p, hLp⟩
  · have HADD := hide (show addP (pcs []) an bn q = pcs [] ++ [⟨an, bn, q⟩] from addP_nil HAB.out hq0)
    have HS := hide (show Sl (w.alloc (.cells (pcC (⟨an, bn, q⟩, .slice Aq q.length cq)).toArray 73)) 73 3 (.slice A 0 c) 0 [] from h.row.alloc _)
    have HONE := hide (show ∀ u ∈ pcC (⟨an, bn, q⟩, .slice Aq q.length cq), u.oneCell' = true from by
      intro u hu
      simp only [pcC, List.mem_cons, List.not_mem_nil, or_false] at hu
      rcases hu with rfl | rfl | rfl <;> rfl)
    clear h hq hab ha hpl1 hq0 hqp hl hql
    go_enter Try.func56, Try.ntmps56
    go_wp2_with (at_builtin; refine wpList_append_sl rfl (.tmp 51) (.tmp 57) 67 rfl 73 i0 (.agg #[.int .i64 0, .int .i64 0, .slice none 0 0]) 3 40 Try.underlying67 hi hz0 hz1 hz2 rfl _ 0 [] rfl HS.out _ rfl 1 _ (rd_pc w (⟨an, bn, q⟩, .slice Aq q.length cq)) HONE.out ?b1 ?b2 ?_)
    case b1 => unfold maxLen; omega
    case b2 => omega
    intro v2 w2 hs2 ho2 hv2
    have HF := hide (HAPP.out w w2 v2 ⟨0, rfl⟩ HADD.out hs2 ho2 (hv2.imp id fun e => ⟨_, e, by simp⟩))
    clear hs2 ho2 hv2
    go_wp2
    go_ret
    exact HF.out
  · rw [List.concat_eq_append] at hLp
    obtain ⟨⟨f, t, q0⟩, pv⟩ := p
    obtain ⟨m, hm⟩ : ∃ m, m = K.length := ⟨_, rfl⟩
    have hL : L.length = m + 1 := by rw [hLp, List.length_append, hm]; rfl
    have hLm : L[m]? = some (⟨f, t, q0⟩, pv) := by rw [hLp, hm, List.getElem?_append_right (Nat.le_refl _)]; simp
    have hpv : PrS w pv q0 := h.inn (⟨f, t, q0⟩, pv) (by rw [hLp]; simp)
    obtain ⟨Ap, cp, rfl, hx3⟩ := Sl.form hpv
    clear hx3
    obtain ⟨g, off, c', hv1, hc1⟩ := Rd.fld pcC_len h.row.rd (by omega)
    obtain ⟨rfl, rfl⟩ : A = some ⟨g, off, none⟩ ∧ c = c' := by
      injection hv1 with e1 _ e2
      exact ⟨e1, e2⟩
    have c1 : w.cell? ⟨g, off + m * 3 + 1, none⟩ = some (.int .i64 (t : Int)) := hc1 m _ 1 _ hLm rfl
    have c2 : w.cell? ⟨g, off + m * 3 + 2, none⟩ = some (.slice Ap q0.length cp) := hc1 m _ 2 _ hLm rfl
    have hpl : pcs L = pcs K ++ [⟨f, t, q0⟩] := by rw [hLp]; simp [pcs]
    obtain ⟨n, hn⟩ : ∃ n, n = L.length := ⟨_, rfl⟩
    rw [← hn] at h HAPP hl2 hl hL ⊢
    have hn1 : (n : Int) - 1 = (m : Int) := by omega
    have hn2 : decide ((0 : Int) ≤ (m : Int)) = true := by simp
    have hn3 : (m : Int) < (n : Int) := by omega
    have hn4 : decide ((m : Int) < (n : Int)) = true := by simp; omega
    have hn5 : decide (m < n) = true := by simp; omega
    have HNN := hide hn
    have hml : (m : Int) ≤ 1000000 := by omega
    have HONE := hide (show ∀ u ∈ pcC (⟨an, bn, q⟩, .slice Aq q.length cq), u.oneCell' = true from by
      intro u hu
      simp only [pcC, List.mem_cons, List.not_mem_nil, or_false] at hu
      rcases hu with rfl | rfl | rfl <;> rfl)
    by_cases hta : t = an
    · have y1 : ((t : Int) == (an : Int)) = true := by simp [hta]
      have y2 : (t == an) = true := by simp [hta]
      have HLM := hide hLm
      have HN := hide hn
      have HNM := hide hL
      have HROW := hide (show Sl w 73 3 (.slice (some ⟨g, off, none⟩) n c) n (rows pcC L) from by have h2 := h.row; rwa [← hn] at h2)
      have HLP := hide hLp
      have HINN := hide h.inn
      have HH := hide h
      by_cases hqq : q0 = q
      · have HEQ := hide (show Calls Try.prog 60 #[.slice Ap q0.length cp, .slice Aq q.length cq] w (fun e w' => e = .returned (.bool true) ∧ ∃ n, w' = w.drewN n) from by
          have h1 := equal_props q0 q (.slice Ap q0.length cp) (.slice Aq q.length cq) w (Sl.rd hpv) (Sl.rd hq) (by rw [hqq]; exact hql) hql
          rw [decide_eq_true hqq] at h1
          exact h1)
        have HADD := hide (show addP (pcs L) an bn q = pcs K ++ [⟨f, bn, q⟩] from by rw [hpl]; exact addP_join HAB.out hq0 hta hqq)
        have HQQ := hide hqq
        have HM := hide hm
        clear h hq hab ha hpl1 hq0 hqp hl hql hpv hta hLm hc1 hv1 hLp hm hL hn hpl hqq
        go_enter Try.func56, Try.ntmps56
        go_wp2_with (go_at_call 60; (with_reducible refine Calls.mono HEQ.out ?_); rintro r w2 ⟨rfl, nd, rfl⟩; have k1 : (w.drewN nd).cell? ⟨g, off + m * 3 + 1, none⟩ = some (.int .i64 (t : Int)) := c1; have k2 : (w.drewN nd).frozen? ⟨g, off + m * 3 + 1, none⟩ = false := (HROW.out.at_ (by have := HNM.out; omega)).elim fun g' h1 => h1.elim fun o' h2 => h2.elim fun c2' h3 => by obtain ⟨e1, _, _, _, e5, _⟩ := h3; injection e1 with e1 _ _; injection e1 with e1; injection e1 with e3 _; subst e3; exact e5 _)
        go_ret
        have hs := Sl.set (HROW.out.drewN nd) (m * 3 + 1) (by rw [rows_len pcC_len, ← HN.out]; have := HNM.out; omega) (.int .i64 (bn : Int))
        rw [rows_set pcC_len (⟨f, bn, q0⟩, .slice Ap q0.length cp) 1 (.int .i64 (bn : Int)) L m _ HLM.out (by omega) rfl, ← Nat.add_assoc] at hs
        have ho : Only (fun b => (Value.slice (some ⟨g, off, none⟩) n c).ownBlock = some b) w ((w.drewN nd).setCell ⟨g, off + m * 3 + 1, none⟩ (.int .i64 (bn : Int))) := ((Only.refl (fun b => (Value.slice (some ⟨g, off, none⟩) n c).ownBlock = some b) w).drewN nd).setCell (p := ⟨g, off + m * 3 + 1, none⟩) (.inl rfl) _
        refine ⟨_, L.set m (⟨f, bn, q0⟩, .slice Ap q0.length cp), rfl, HH.out.turn ?_ ho ?_, ?_, ho, .inl rfl⟩
        · rw [List.length_set, ← HN.out]
          exact hs
        · intro p hp
          rcases List.mem_or_eq_of_mem_set hp with hp | rfl
          · exact HINN.out p hp
          · exact HINN.out (⟨f, t, q0⟩, .slice Ap q0.length cp) (List.mem_of_getElem? HLM.out)
        · have e : L.set m (⟨f, bn, q0⟩, .slice Ap q0.length cp) = K ++ [(⟨f, bn, q0⟩, .slice Ap q0.length cp)] := by
            rw [HLP.out, HM.out, List.set_append_right _ _ (Nat.le_refl _)]
            simp
          rw [HADD.out, e]
          simp [pcs]
          exact HQQ.out
      · have HEQ := hide (show Calls Try.prog 60 #[.slice Ap q0.length cp, .slice Aq q.length cq] w (fun e w' => e = .returned (.bool false) ∧ ∃ n, w' = w.drewN n) from by
          by_cases hlen : q0.length ≤ 1000000
          · have h1 := equal_props q0 q (.slice Ap q0.length cp) (.slice Aq q.length cq) w (Sl.rd hpv) (Sl.rd hq) hlen hql
            rw [decide_eq_false hqq] at h1
            exact h1
          · exact absurd (hpl1 (⟨f, t, q0⟩, .slice Ap q0.length cp) (by rw [hLp]; simp)) hlen)
        have HADD := hide (show addP (pcs L) an bn q = pcs L ++ [⟨an, bn, q⟩] from by rw [hpl]; exact addP_more HAB.out hq0 fun e => hqq e.2)
        clear h hq hab ha hpl1 hq0 hqp hl hql hpv hta hLm hc1 hv1 hLp hm hL hn hpl hqq
        go_enter Try.func56, Try.ntmps56
        go_wp2_with (first | (go_at_call 60; (with_reducible refine Calls.mono HEQ.out ?_); rintro r w2 ⟨rfl, nd, rfl⟩) | (at_builtin; refine wpList_append_sl rfl (.tmp 51) (.tmp 57) 67 rfl 73 i0 (.agg #[.int .i64 0, .int .i64 0, .slice none 0 0]) 3 40 Try.underlying67 hi hz0 hz1 hz2 rfl _ n (rows pcC L) rfl ((HROW.out.drewN nd).alloc _) _ rfl 1 _ (rd_pc (w.drewN nd) (⟨an, bn, q⟩, .slice Aq q.length cq)) HONE.out ?b1 ?b2 ?_))
        case b1 => unfold maxLen; omega
        case b2 => omega
        intro v2 w2 hs2 ho2 hv2
        have HF := hide (HAPP.out _ w2 v2 ⟨_, rfl⟩ HADD.out hs2 ho2 (hv2.imp id fun e => ⟨_, e, by simp⟩))
        clear hs2 ho2 hv2
        go_wp2
        go_ret
        exact HF.out
    · have y1 : ((t : Int) == (an : Int)) = false := by simp; omega
      have y2 : (t == an) = false := by simp [hta]
      have HADD := hide (show addP (pcs L) an bn q = pcs L ++ [⟨an, bn, q⟩] from by rw [hpl]; exact addP_more HAB.out hq0 fun e => hta e.1)
      have HS := hide (show Sl (w.alloc (.cells (pcC (⟨an, bn, q⟩, .slice Aq q.length cq)).toArray 73)) 73 3 (.slice (some ⟨g, off, none⟩) n c) n (rows pcC L) from by have h2 := h.row.alloc (.cells (pcC (⟨an, bn, q⟩, .slice Aq q.length cq)).toArray 73); rwa [← hn] at h2)
      clear h hq hab ha hpl1 hq0 hqp hl hql hpv hta hLm hc1 hv1 hLp hm hL hn hpl
      go_enter Try.func56, Try.ntmps56
      go_wp2_with (at_builtin; refine wpList_append_sl rfl (.tmp 51) (.tmp 57) 67 rfl 73 i0 (.agg #[.int .i64 0, .int .i64 0, .slice none 0 0]) 3 40 Try.underlying67 hi hz0 hz1 hz2 rfl _ n (rows pcC L) rfl HS.out _ rfl 1 _ (rd_pc w (⟨an, bn, q⟩, .slice Aq q.length cq)) HONE.out ?b1 ?b2 ?_)
      case b1 => unfold maxLen; omega
      case b2 => omega
      intro v2 w2 hs2 ho2 hv2
      have HF := hide (HAPP.out w w2 v2 ⟨0, rfl⟩ HADD.out hs2 ho2 (hv2.imp id fun e => ⟨_, e, by simp⟩))
      clear hs2 ho2 hv2
      go_wp2
      go_ret
      exact HF.out
end
end Go.Proofs.Ytgiogmbopiblmaa
