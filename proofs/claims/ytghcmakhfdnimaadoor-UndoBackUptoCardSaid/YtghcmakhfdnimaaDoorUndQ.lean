/- Two logs with the same changes, one of a small limit: plain laws; two logs in memory; the acts that came in. No condition but those written. -/
import Derived.Test.YtghcmakhfdnimaaDoorUndN
namespace Go.Proofs.YtghcmakhfdnimaaDoor
open Go.RowKit

theorem add0_small {s : Lg} {c : Chg} {n : Nat} (hg : Good s) (hs : Sized s n) (hn : n ≤ 4000) (hc : c.tx.size ≤ 200) : s.add0 c = if s.joins c then { s with O := lengthen s.O c.t } else s.push c := by
  have h1 := hg.now
  have h2 := hg.cost
  have h3 := hs.cost
  have h4 := price_le c
  unfold Lg.add0
  split
  · rfl
  · rw [if_neg (by omega)]
theorem add_small {s : Lg} {c : Chg} {n : Nat} (hg : Good s) (hs : Sized s n) (hn : n ≤ 4000) (hc : c.tx.size ≤ 200) : s.add c = if c.check = 0 then (if s.joins c then { s with O := lengthen s.O c.t } else s.push c) else s := by
  unfold Lg.add
  rw [add0_small hg hs hn hc]
/-- The log u of a small limit and the log v of the greatest one, behind n changes. -/
structure Sync (lim : Int) (u v : Lg) (n : Nat) : Prop where
  gu : Good u
  gv : Good v
  su : Sized u n
  sv : Sized v n
  lu : u.lim = lim
  lv : v.lim = 1048576
  O : u.O = v.O
  suf : u.G <:+ v.G
  ne : v.G ≠ [] → u.G ≠ []
theorem Sync.start {lim : Int} (h1 : 1 ≤ lim) (h2 : lim ≤ 1048576) : Sync lim (Lg.new lim) (Lg.new 1048576) 0 :=
  ⟨Good.new h1 h2, Good.new (by omega) (by omega), Sized.new _, Sized.new _, rfl, rfl, rfl, List.suffix_refl _, fun h => h⟩
theorem joins_same {u v : Lg} (h : u.O = v.O) (c : Chg) : u.joins c = v.joins c := by
  unfold Lg.joins
  rw [h]
theorem Sync.add {lim : Int} {u v : Lg} {n : Nat} (h : Sync lim u v n) (hn : n ≤ 4000) {c : Chg} (hc : c.tx.size ≤ 200) : Sync lim (u.add c) (v.add c) (n + 1) := by
  have e1 := add_small h.gu h.su hn hc
  have e2 := add_small h.gv h.sv hn hc
  have ej := joins_same h.O c
  have g1 := h.gu.add c
  have g2 := h.gv.add c
  have s1 := h.su.add hc
  have s2 := h.sv.add hc
  rw [e1, ej] at g1 s1 ⊢
  rw [e2] at g2 s2 ⊢
  by_cases hk : c.check = 0
  · simp only [if_pos hk] at g1 g2 s1 s2 ⊢
    by_cases hj : v.joins c = true
    · simp only [if_pos hj] at g1 g2 s1 s2 ⊢
      exact ⟨g1, g2, s1, s2, h.lu, h.lv, by show lengthen u.O c.t = lengthen v.O c.t; rw [h.O], h.suf, h.ne⟩
    · simp only [if_neg hj] at g1 g2 s1 s2 ⊢
      exact ⟨g1, g2, s1, s2, h.lu, h.lv, by show u.O ++ [c] = v.O ++ [c]; rw [h.O], h.suf, h.ne⟩
  · simp only [if_neg hk] at g1 g2 s1 s2 ⊢
    exact ⟨g1, g2, s1, s2, h.lu, h.lv, h.O, h.suf, h.ne⟩
theorem Sync.all_suf {lim : Int} {u v : Lg} {n : Nat} (h : Sync lim u v n) : u.all <:+ v.all := by
  unfold Lg.all
  rw [h.O]
  split
  · exact h.suf
  · obtain ⟨t, ht⟩ := h.suf
    exact ⟨t, by rw [← ht, List.append_assoc]⟩
theorem Sync.all_ne {lim : Int} {u v : Lg} {n : Nat} (h : Sync lim u v n) (hv : v.all ≠ []) : u.all ≠ [] := by
  unfold Lg.all at hv ⊢
  rw [h.O]
  split at hv <;> rename_i hO
  · rw [if_pos hO]
    exact h.ne hv
  · rw [if_neg hO]
    simp
/-- A log far below its limit keeps all groups. -/
theorem close_keeps {s : Lg} (hg : Good s) (hc : s.cost ≤ s.lim) : s.close.G = s.all := by
  rw [close_eq hg]
  show (trim s.lim s.all s.cost s.ch).1 = s.all
  rw [trim_stop (.inl hc)]
theorem Sync.close {lim : Int} {u v : Lg} {n : Nat} (h : Sync lim u v n) (hn : n ≤ 4000) : Sync lim u.close v.close n := by
  obtain ⟨_, _, _, h4, _, _, h7⟩ := close_facts h.gu
  have hv := close_keeps h.gv (by have := h.sv.cost; rw [h.lv]; omega)
  refine ⟨h.gu.close, h.gv.close, h.su.close h.gu, h.sv.close h.gv, by rw [close_lim h.gu]; exact h.lu, by rw [close_lim h.gv]; exact h.lv, by rw [close_O h.gu, close_O h.gv], ?_, ?_⟩
  · rw [hv]; exact h4.trans h.all_suf
  · rw [hv]; exact fun hne => h7 (h.all_ne hne)
theorem Sync.fits {lim : Int} {u v : Lg} {n : Nat} (h : Sync lim u v n) : u.close.cost ≤ lim ∨ u.close.all.length ≤ 1 := by
  obtain ⟨_, _, _, _, _, h6, _⟩ := close_facts h.gu
  rw [h.lu] at h6
  rw [close_all h.gu]
  exact h6

/-! ### Two logs in memory -/
structure LbOk (b : Lb) (s : Lg) : Prop where
  grp : s.G = b.gs.map (·.2)
  okG : RowOk b.gv b.gs.length
  okO : RowOk b.ov s.O.length
  okg : ∀ x ∈ b.gs, RowOk x.1 x.2.length
section
variable {W w w' : World} {b b2 : Lb} {s s2 : Lg} {R : Heap}
theorem LogAt.ok (h : LogAt W w b s R) : LbOk b s := ⟨h.grp, h.okG, h.okO, h.okg⟩
theorem LogAt.flip (h : LogAt W w b s (b2.heap s2 ++ R)) (k : LbOk b2 s2) : LogAt W w b2 s2 (b.heap s ++ R) := by
  refine ⟨h.own.perm ?_, k.grp, k.okG, k.okO, k.okg⟩
  classical
  rw [List.perm_iff_count]
  intro x
  simp only [List.count_append]
  omega
theorem LogAt.ofOwn (h : Own W w (b.heap s ++ R)) (k : LbOk b s) : LogAt W w b s R := ⟨h, k.grp, k.okG, k.okO, k.okg⟩
theorem new_lbok (g : Nat) (lim : Int) : LbOk ⟨g, .slice none 0 0, .slice none 0 0, []⟩ (Lg.new lim) := ⟨rfl, RowOk.nil, RowOk.nil, fun x hx => by cases hx⟩
end

/-! ### The acts -/
structure AtA (w : World) (g o : Nat) (a : Acn) : Prop where
  p0 : w.cell? ⟨g, o, none⟩ = some (.int .i64 a.kd)
  p1 : w.cell? ⟨g, o + 1, none⟩ = some (.int .i64 a.c.k)
  p2 : w.cell? ⟨g, o + 2, none⟩ = some (.int .i64 a.c.a)
  p3 : w.cell? ⟨g, o + 3, none⟩ = some (.int .i64 a.c.t)
  p4 : w.cell? ⟨g, o + 4, none⟩ = some (.int .i64 a.c.id)
  p5 : w.cell? ⟨g, o + 5, none⟩ = some (.int .i64 a.c.nm)
  p6 : w.cell? ⟨g, o + 6, none⟩ = some (.string a.c.tx)
  p7 : w.cell? ⟨g, o + 7, none⟩ = some (.int .i64 a.c.vk)
  p8 : w.cell? ⟨g, o + 8, none⟩ = some (.int .i64 a.c.vn)
  p9 : w.cell? ⟨g, o + 9, none⟩ = some (.bool a.c.had)
  p10 : w.cell? ⟨g, o + 10, none⟩ = some (.bool a.ag)
theorem AtA.nine {w : World} {g o : Nat} {a : Acn} (h : AtA w g o a) : w.cell? ⟨g, o + 1, none⟩ = some (.int .i64 a.c.k) ∧ w.cell? ⟨g, o + 2, none⟩ = some (.int .i64 a.c.a) ∧ w.cell? ⟨g, o + 3, none⟩ = some (.int .i64 a.c.t) ∧ w.cell? ⟨g, o + 4, none⟩ = some (.int .i64 a.c.id) ∧ w.cell? ⟨g, o + 5, none⟩ = some (.int .i64 a.c.nm) ∧ w.cell? ⟨g, o + 6, none⟩ = some (.string a.c.tx) ∧ w.cell? ⟨g, o + 7, none⟩ = some (.int .i64 a.c.vk) ∧ w.cell? ⟨g, o + 8, none⟩ = some (.int .i64 a.c.vn) ∧ w.cell? ⟨g, o + 9, none⟩ = some (.bool a.c.had) :=
  ⟨h.p1, h.p2, h.p3, h.p4, h.p5, h.p6, h.p7, h.p8, h.p9⟩
theorem Rd.atA {w : World} {g off n c m : Nat} {l : List Acn} (h : Rd w (.slice (some ⟨g, off, none⟩) n c) 11 m (rows Acn.cells l)) {i : Nat} {a : Acn} (ha : l[i]? = some a) : AtA w g (off + i * 11) a := by
  have hml : m = l.length := by
    obtain ⟨_, _, _, hl, _⟩ := h
    rw [rows_len act_len] at hl
    omega
  subst hml
  obtain ⟨g', off', c', hv, hc⟩ := h.fld act_len (by have := (List.getElem?_eq_some_iff.1 ha).1; omega)
  injection hv with e1 _ _
  injection e1 with e1
  injection e1 with e2 e3
  subst e2 e3
  exact ⟨hc i a 0 _ ha rfl, hc i a 1 _ ha rfl, hc i a 2 _ ha rfl, hc i a 3 _ ha rfl, hc i a 4 _ ha rfl, hc i a 5 _ ha rfl, hc i a 6 _ ha rfl, hc i a 7 _ ha rfl, hc i a 8 _ ha rfl, hc i a 9 _ ha rfl, hc i a 10 _ ha rfl⟩
theorem Rd.some_ {w : World} {A : Option Addr} {n c k m : Nat} {xs : List Value} (h : Rd w (.slice A n c) k m xs) (hm : 0 < m) : ∃ g off, A = some ⟨g, off, none⟩ := by
  obtain ⟨A', c', e, _, hc⟩ := h
  injection e with e1 _ _
  obtain ⟨g, off, e2, _⟩ := hc hm
  exact ⟨g, off, e1.trans e2⟩
/-- The tail of a list of groups. -/
theorem RdG.drop_ {w : World} {g off c d : Nat} {hs : List (Value × List Chg)} (h : RdG w (.slice (some ⟨g, off, none⟩) hs.length c) hs) (hd : d < hs.length) : RdG w (.slice (some ⟨g, off + d, none⟩) (hs.drop d).length (c - d)) (hs.drop d) := by
  refine ⟨⟨_, _, rfl, by simp, fun hp => ⟨g, off + d, rfl, fun j u hu => ?_⟩⟩, fun x hx => h.el x (List.mem_of_mem_drop hx)⟩
  obtain ⟨b, o, e, hc⟩ := Rd.cells h.hd (by omega)
  injection e with e
  injection e with e1 e2
  subst e1 e2
  rw [Nat.add_assoc]
  refine hc (d + j) u ?_
  rw [List.getElem?_map, List.getElem?_drop] at hu
  rw [List.getElem?_map]
  exact hu
end Go.Proofs.YtghcmakhfdnimaaDoor
