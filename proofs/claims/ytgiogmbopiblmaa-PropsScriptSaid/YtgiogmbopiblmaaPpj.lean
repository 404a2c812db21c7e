/- The properties at a position; the value of a name there; a copy of them. No condition but those written. -/
import Derived.Test.YtgiogmbopiblmaaPpi
import Derived.Test.YtgiogmbopiblmaaPre
namespace Go.Proofs.Ytgiogmbopiblmaa
open Go.RowKit

theorem den_first_none : ∀ {P : List Pc} {x : Nat}, P[firstP P x]? = none → den P x = []
  | [], _, _ => rfl
  | p :: P, x, h => by
      unfold firstP at h
      split at h
      · rename_i hp
        unfold den
        rw [if_neg (by omega)]
        exact den_first_none (by simpa using h)
      · simp at h
theorem den_first_some : ∀ {P : List Pc} {b x : Nat} {q : List Pr} {z : Pc}, Nf b q P → P[firstP P x]? = some z → den P x = if z.fr ≤ x then z.pr else []
  | [], _, _, _, _, _, h => by simp at h
  | p :: P, b, x, q, z, hn, h => by
      obtain ⟨h1, h2, h3, h4, h5⟩ := hn
      unfold firstP at h
      split at h
      · rename_i hp
        unfold den
        rw [if_neg (by omega)]
        exact den_first_some h5 (by simpa using h)
      · rename_i hp
        simp at h
        subst h
        unfold den
        by_cases hf : p.fr ≤ x
        · rw [if_pos ⟨hf, by omega⟩, if_pos hf]
        · rw [if_neg (by omega), if_neg hf, den_low h5 (by omega)]
theorem den_below {P : List Pc} {b x : Nat} {q : List Pr} {z : Pc} (hn : Nf b q P) (h : P[firstP P x]? = some z) (hz : x < z.fr) : den P x = [] := by
  rw [den_first_some hn h, if_neg (by omega)]
/-- Pieces that may be read. -/
structure PcsRd (W : World) (sv : Value) (L : List (Pc × Value)) : Prop where
  row : Rd W sv 3 L.length (rows pcC L)
  inn : ∀ p ∈ L, PrS W p.2 p.1.pr
theorem PcsAt.rd {W : World} {sv : Value} {L : List (Pc × Value)} (h : PcsAt W sv L) : PcsRd W sv L := ⟨h.row.rd, h.inn⟩
theorem PcsRd.below {w w' : World} {sv : Value} {L : List (Pc × Value)} (h : PcsRd w sv L) (hb : Below w.heap.size w w') : PcsRd w' sv L := ⟨h.row.belowN hb, fun p hp => (h.inn p hp).below hb⟩
theorem PcsRd.at_ {w : World} {A : Option Addr} {n c i f t : Nat} {q : List Pr} {pv : Value} {L : List (Pc × Value)} (h : PcsRd w (.slice A n c) L) (hn : n = L.length) (hi : L[i]? = some (⟨f, t, q⟩, pv)) :
    ∃ g off Ap cp, A = some ⟨g, off, none⟩ ∧ pv = .slice Ap q.length cp ∧ w.cell? ⟨g, off + i * 3, none⟩ = some (.int .i64 (f : Int)) ∧ w.cell? ⟨g, off + i * 3 + 1, none⟩ = some (.int .i64 (t : Int)) ∧ w.cell? ⟨g, off + i * 3 + 2, none⟩ = some (.slice Ap q.length cp) := by
  have hlt := (List.getElem?_eq_some_iff.1 hi).1
  obtain ⟨Ap, cp, rfl, hx3⟩ := Sl.form (show PrS w pv q from h.inn (⟨f, t, q⟩, pv) (List.mem_of_getElem? hi))
  obtain ⟨g, off, c', hv1, hc1⟩ := Rd.fld pcC_len h.row (by omega)
  obtain ⟨rfl, rfl⟩ : A = some ⟨g, off, none⟩ ∧ c = c' := by
    injection hv1 with e1 _ e2
    exact ⟨e1, e2⟩
  exact ⟨g, off, Ap, cp, rfl, rfl, hc1 i _ 0 _ hi rfl, hc1 i _ 1 _ hi rfl, hc1 i _ 2 _ hi rfl⟩
section
variable {w : World} {b : Nat} {sv : Value} {L : List (Pc × Value)}
theorem PropsAt.below {w' : World} (h : PropsAt w b sv L) (hb : Below w.heap.size w w') : PropsAt w' b sv L := ⟨h.box.below hb h.box.lt, h.inn.below hb, h.nf⟩
/-- A list of properties is handed back. -/
def ListRes (w : World) (q : List Pr) (e : Ending) (w' : World) : Prop := ∃ v, e = .returned v ∧ PrS w' v q ∧ Below w.heap.size w w'
set_option maxRecDepth 100000 in
set_option maxHeartbeats 4000000 in
theorem list_at (h : PropsAt w b sv L) (x : Int) (hl : L.length ≤ 1000000) : Calls Try.prog 51 #[.pointer (some ⟨b, 0, none⟩), .int .i64 x] w (ListRes w (denI (pcs L) x)) := by
  have HF := hide (first_any h.inn h.nf x hl)
  have HNo := hide (none_at h)
  have HP := hide h
  obtain ⟨A, c, rfl, hx1⟩ := h.inn.row.form
  clear hx1
  have b0 : w.cell? ⟨b, 0, none⟩ = some (.slice A L.length c) := (h.box.cell 0).trans rfl
  have hpl : (pcs L).length = L.length := by simp [pcs]
  obtain ⟨i, hi⟩ : ∃ i, i = firstP (pcs L) x.toNat := ⟨_, rfl⟩
  rw [← hi] at HF
  obtain ⟨n, hn⟩ : ∃ n, n = L.length := ⟨_, rfl⟩
  rw [← hn] at HF HP hl b0
  have hl2 : (n : Int) ≤ 1000000 := by omega
  by_cases hin : i < n
  · have z1 : decide ((i : Int) < (n : Int)) = true := by simp; omega
    have z2 : (i : Int) < (n : Int) := by omega
    have z3 : decide (i < n) = true := by simpa using hin
    obtain ⟨⟨⟨f, t, q⟩, pv⟩, hp⟩ : ∃ p, L[i]? = some p := ⟨_, List.getElem?_eq_getElem (by omega)⟩
    have hpp : (pcs L)[i]? = some ⟨f, t, q⟩ := by unfold pcs; rw [List.getElem?_map, hp]; rfl
    have hpv : PrS w pv q := h.inn.inn (⟨f, t, q⟩, pv) (List.mem_of_getElem? hp)
    have hden : denI (pcs L) x = if (f : Int) ≤ x then q else [] := by
      unfold denI
      have e1 := den_first_some h.nf (hi ▸ hpp)
      by_cases hx : x < 0
      · rw [if_pos hx, if_neg (by omega)]
      · rw [if_neg hx, e1]
        by_cases hf : (f : Int) ≤ x
        · rw [if_pos hf, if_pos (by simp only []; omega)]
        · rw [if_neg hf, if_neg (by simp only []; omega)]
    rw [hden]
    have hrd := h.inn.rd
    rw [← hn] at hrd
    have HRD := hide (fun w' (hb : Below w.heap.size w w') => (hrd.below hb).at_ hn hp)
    have HPV := hide (fun w' (hb : Below w.heap.size w w') => hpv.below hb)
    clear h hi hn hl hpl hin hp hpp hpv hden hrd
    by_cases hfx : (f : Int) ≤ x
    · rw [if_pos hfx]
      have z4 : decide ((f : Int) ≤ x) = true := by simpa using hfx
      go_enter Try.func51, Try.ntmps51
      go_wp2_with (first | (go_at_call 52; (with_reducible refine Calls.mono HNo.out ?_); rintro r w2 ⟨rfl, rfl⟩) | (go_at_call 72; (with_reducible refine Calls.mono HF.out ?_); rintro r w2 ⟨rfl, hb2⟩; obtain ⟨g, off, Ap, cp, rfl, rfl, c0, c1, c2⟩ := HRD.out _ hb2; have d0 := (HP.out.below hb2).box.cell 0; have HB2 := hide hb2; clear hb2))
      go_ret
      exact ⟨_, rfl, HPV.out _ HB2.out, HB2.out⟩
    · rw [if_neg hfx]
      have z4 : decide ((f : Int) ≤ x) = false := by simpa using hfx
      go_enter Try.func51, Try.ntmps51
      go_wp2_with (first | (go_at_call 52; (with_reducible refine Calls.mono HNo.out ?_); rintro r w2 ⟨rfl, rfl⟩) | (go_at_call 72; (with_reducible refine Calls.mono HF.out ?_); rintro r w2 ⟨rfl, hb2⟩; obtain ⟨g, off, Ap, cp, rfl, rfl, c0, c1, c2⟩ := HRD.out _ hb2; have d0 := (HP.out.below hb2).box.cell 0; have HB2 := hide hb2; clear hb2))
      go_ret
      exact ⟨_, rfl, Sl.nil _ _ _, HB2.out⟩
  · have z1 : decide ((i : Int) < (n : Int)) = false := by simp; omega
    have z3 : decide (i < n) = false := by simpa using hin
    have hden : denI (pcs L) x = [] := by
      unfold denI
      rw [den_first_none (P := pcs L) (x := x.toNat) (by rw [← hi]; exact List.getElem?_eq_none (by omega))]
      split <;> rfl
    rw [hden]
    clear h hi hn hl hpl hin hden
    go_enter Try.func51, Try.ntmps51
    go_wp2_with (first | (go_at_call 52; (with_reducible refine Calls.mono HNo.out ?_); rintro r w2 ⟨rfl, rfl⟩) | (go_at_call 72; (with_reducible refine Calls.mono HF.out ?_); rintro r w2 ⟨rfl, hb2⟩; have d0 := (HP.out.below hb2).box.cell 0; have HB2 := hide hb2; clear hb2))
    go_ret
    exact ⟨_, rfl, Sl.nil _ _ _, HB2.out⟩
theorem list_nil (x : Int) (w : World) : Calls Try.prog 51 #[.pointer none, .int .i64 x] w fun e w' => e = .returned (.slice none 0 0) ∧ w = w' := by
  go_enter Try.func51, Try.ntmps51
  go_wp2_with (go_at_call 52; (with_reducible refine Calls.mono (none_nil _) ?_); rintro r w2 ⟨rfl, rfl⟩)
  go_ret
  exact ⟨rfl, rfl⟩
end
end Go.Proofs.Ytgiogmbopiblmaa
