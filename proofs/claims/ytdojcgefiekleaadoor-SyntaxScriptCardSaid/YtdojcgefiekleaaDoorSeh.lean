/- The reference's levels of lists: where they lie; what they are of the plain move. No condition but those written. -/
import Derived.Test.YtdojcgefiekleaaDoorSeg
namespace Go.Proofs.YtdojcgefiekleaaDoor
open Go.RowKit

def nints (l : List Int) : List Value := l.map (Value.int .i64)
theorem nints_snoc (l : List Int) (x : Int) : nints (l ++ [x]) = nints l ++ [.int .i64 x] := by simp [nints]
theorem Sl.apart {w : World} {T T' : TypeId} {k k' n n' : Nat} {v v' : Value} {xs xs' : List Value} (h : Sl w T k v n xs) (h' : Sl w T' k' v' n' xs') (hne : T ≠ T') : ∀ g, v.ownBlock = some g → ¬ v'.ownBlock = some g := fun g hg => by
  rcases h'.2 with ⟨rfl, _⟩ | ⟨g', off, c, cs, rfl, hh, _⟩
  · intro e; cases e
  · intro e
    cases e
    exact h.ne_blk hh hne hg
/-- Rows of integers that a call has made, no two in one block. -/
structure Rz (W0 w : World) (R : List (Value × List Int)) : Prop where
  bel : Below W0.heap.size W0 w
  sl : ∀ x ∈ R, Sl w 3 1 x.1 x.2.length (nints x.2) ∧ ∀ k, x.1.ownBlock = some k → W0.heap.size ≤ k
  dis : R.Pairwise fun x y => ∀ k, x.1.ownBlock = some k → y.1.ownBlock ≠ some k
section
variable {W0 w w' : World} {R A B : List (Value × List Int)}
theorem Rz.below (h : Rz W0 w R) (hb : Below w.heap.size w w') : Rz W0 w' R :=
  ⟨h.bel.trans (hb.mono h.bel.size), fun x hx => ⟨(h.sl x hx).1.only (Only.of_below (F := fun _ => False) hb) fun _ _ f => f, (h.sl x hx).2⟩, h.dis⟩
theorem Rz.turn {v v' : Value} {xs xs' : List Int} (h : Rz W0 w (A ++ (v, xs) :: B)) (hs : Sl w' 3 1 v' xs'.length (nints xs')) (ho : Only (fun b => v.ownBlock = some b) w w') (hv : v'.ownBlock = v.ownBlock ∨ ∃ g, v'.ownBlock = some g ∧ w.heap.size ≤ g) : Rz W0 w' (A ++ (v', xs') :: B) := by
  obtain ⟨h1, h2, h3⟩ := h
  have hm : (v, xs) ∈ A ++ (v, xs) :: B := by simp
  have hg : ∀ k, v'.ownBlock = some k → W0.heap.size ≤ k := fun k hk => by
    rcases hv with e | ⟨g, e, hg⟩
    · exact (h2 _ hm).2 k (e ▸ hk)
    · rw [e] at hk
      cases hk
      exact Nat.le_trans h1.size hg
  rw [List.pairwise_append, List.pairwise_cons] at h3
  obtain ⟨d1, ⟨d2, d3⟩, d4⟩ := h3
  have hne : ∀ x, (x ∈ A ∨ x ∈ B) → ∀ k, x.1.ownBlock = some k → v.ownBlock ≠ some k ∧ v'.ownBlock ≠ some k := fun x hx k hk => by
    have hx2 : x ∈ A ++ (v, xs) :: B := by rcases hx with hx | hx <;> simp [hx]
    have hvk : v.ownBlock ≠ some k := fun e => by
      rcases hx with hx | hx
      · exact d4 x hx (v, xs) (List.mem_cons_self ..) k hk e
      · exact d2 x hx k e hk
    refine ⟨hvk, fun e => ?_⟩
    rcases hv with e2 | ⟨g, e2, hg⟩
    · exact hvk (e2 ▸ e)
    · have := (h2 x hx2).1.lt k hk
      rw [e2] at e
      cases e
      omega
  refine ⟨h1.trans (ho.below h1.size fun i hi => (h2 _ hm).2 i hi), fun x hx => ?_, ?_⟩
  · rcases List.mem_append.1 hx with hx | hx
    · exact ⟨(h2 x (by simp [hx])).1.only ho fun k hk => (hne x (.inl hx) k hk).1, (h2 x (by simp [hx])).2⟩
    · rcases List.mem_cons.1 hx with rfl | hx
      · exact ⟨hs, hg⟩
      · exact ⟨(h2 x (by simp [hx])).1.only ho fun k hk => (hne x (.inr hx) k hk).1, (h2 x (by simp [hx])).2⟩
  · rw [List.pairwise_append, List.pairwise_cons]
    refine ⟨d1, ⟨fun x hx k hk e => (hne x (.inr hx) k e).2 hk, d3⟩, fun x hx y hy k hk e => ?_⟩
    rcases List.mem_cons.1 hy with rfl | hy
    · exact (hne x (.inl hx) k hk).2 e
    · exact d4 x hx y (List.mem_cons_of_mem _ hy) k hk e
theorem Rz.only {F : Nat → Prop} (h : Rz W0 w R) (ho : Only F w w') (hF : ∀ x ∈ R, ∀ k, x.1.ownBlock = some k → ¬ F k) (hW : ∀ k, F k → W0.heap.size ≤ k) : Rz W0 w' R :=
  ⟨h.bel.trans (ho.below h.bel.size hW), fun x hx => ⟨(h.sl x hx).1.only ho (hF x hx), (h.sl x hx).2⟩, h.dis⟩
end
/-- A level. -/
structure Lv where
  op : Int
  bar : Int
  st : List Int
  sv : Value
def lvC (x : Lv) : List Value := [.int .i64 x.op, .int .i64 x.bar, x.sv]
theorem lvC_len (x : Lv) : (lvC x).length = 3 := rfl
def lvR (x : Lv) : Value × List Int := (x.sv, x.st)
theorem info_lv : (Tryd.prog.info? 99).map (fun i => (i.zero, i.size, i.bytes)) = some (some (.agg #[.int .i64 0, .int .i64 0, .slice none 0 0]), 3, 40) := by kernel_rfl
theorem info_nt : (Tryd.prog.info? 3).map (fun i => (i.zero, i.size, i.bytes)) = some (some (.int .i64 0), 1, 8) := by kernel_rfl
/-- Levels in memory. -/
structure ZSt (W0 w : World) (v : Value) (G : List Lv) : Prop where
  rs : Rz W0 w (G.map lvR)
  row : Sl w 99 3 v G.length (rows lvC G)
  own : ∀ g, v.ownBlock = some g → W0.heap.size ≤ g
section
variable {W0 w w' : World} {v : Value} {G A B : List Lv} {x : Lv}
theorem ZSt.below (h : ZSt W0 w v G) (hb : Below w.heap.size w w') : ZSt W0 w' v G := ⟨h.rs.below hb, h.row.only (Only.of_below (F := fun _ => False) hb) fun _ _ f => f, h.own⟩
theorem ZSt.one (h : ZSt W0 w v G) : ∀ u ∈ rows lvC G, u.oneCell' = true := by
  intro u hu
  obtain ⟨y, hy, hu⟩ := List.mem_flatMap.1 hu
  have hs := (h.rs.sl (lvR y) (List.mem_map_of_mem hy)).1
  obtain ⟨A, c, e, _⟩ := hs.form
  have e2 : y.sv = .slice A y.st.length c := e
  simp [lvC] at hu
  rcases hu with rfl | rfl | rfl
  · rfl
  · rfl
  · rw [e2]
    rfl
theorem ZSt.at_ {g off c N : Nat} (h : ZSt W0 w (.slice (some ⟨g, off, none⟩) N c) (A ++ x :: B)) : w.cell? ⟨g, off + A.length * 3, none⟩ = some (.int .i64 x.op) ∧ w.cell? ⟨g, off + A.length * 3 + 1, none⟩ = some (.int .i64 x.bar) ∧ w.cell? ⟨g, off + A.length * 3 + 2, none⟩ = some x.sv ∧ ∀ j, w.frozen? ⟨g, j, none⟩ = false := by
  obtain ⟨g', off', c', e, _, _, _, hf, hc⟩ := Sl.fld lvC_len h.row (by simp; omega)
  cases e
  have hx : (A ++ x :: B)[A.length]? = some x := by simp
  have h0 := hc A.length x 0 _ hx rfl
  have h1 := hc A.length x 1 _ hx rfl
  have h2 := hc A.length x 2 _ hx rfl
  exact ⟨h0, h1, h2, hf⟩
theorem rows_set2 : ∀ (A : List Lv) (x : Lv) (B : List Lv) (v : Value), (rows lvC (A ++ x :: B)).set (A.length * 3 + 2) v = rows lvC (A ++ { x with sv := v } :: B)
  | [], x, B, v => rfl
  | a :: A, x, B, v => by
      have ih := rows_set2 A x B v
      rw [List.cons_append, List.cons_append, rows_cons, rows_cons, ← ih, List.length_cons, show (A.length + 1) * 3 + 2 = (lvC a).length + (A.length * 3 + 2) by rw [lvC_len]; omega, List.set_append_right (h := by omega)]
      congr 2
      omega
/-- Between an append to a level's list and its store. -/
structure ZMid (W0 w : World) (v : Value) (A B : List Lv) (x : Lv) (sv : Value) (st : List Int) : Prop where
  rs : Rz W0 w (A.map lvR ++ (sv, st) :: B.map lvR)
  row : Sl w 99 3 v (A ++ x :: B).length (rows lvC (A ++ x :: B))
  own : ∀ g, v.ownBlock = some g → W0.heap.size ≤ g
theorem ZMid.below {sv : Value} {st : List Int} (h : ZMid W0 w v A B x sv st) (hb : Below w.heap.size w w') : ZMid W0 w' v A B x sv st := ⟨h.rs.below hb, h.row.only (Only.of_below (F := fun _ => False) hb) fun _ _ f => f, h.own⟩
theorem ZSt.append (h : ZSt W0 w v (A ++ x :: B)) {sv' : Value} {st' : List Int} (hs : Sl w' 3 1 sv' st'.length (nints st')) (ho : Only (fun b => x.sv.ownBlock = some b) w w') (hv : x.sv.ownBlock = sv'.ownBlock ∨ ∃ g, sv'.ownBlock = some g ∧ w.heap.size ≤ g) : ZMid W0 w' v A B x sv' st' := by
  have h1 := h.rs
  rw [List.map_append, List.map_cons] at h1
  have hx := (h.rs.sl (lvR x) (List.mem_map_of_mem (by simp))).1
  exact ⟨h1.turn hs ho (hv.imp Eq.symm id), h.row.only ho fun k hk => Sl.apart h.row hx (by decide) k hk, h.own⟩
theorem ZMid.store {g off c N : Nat} {sv : Value} {st : List Int} (h : ZMid W0 w (.slice (some ⟨g, off, none⟩) N c) A B x sv st) (hN : N = (A ++ x :: B).length) : ZSt W0 (w.setCell ⟨g, off + A.length * 3 + 2, none⟩ sv) (.slice (some ⟨g, off, none⟩) N c) (A ++ { x with st := st, sv := sv } :: B) := by
  subst hN
  have hst : Only (fun i => (Value.slice (some ⟨g, off, none⟩) (A ++ x :: B).length c).ownBlock = some i) w (w.setCell ⟨g, off + (A.length * 3 + 2), none⟩ sv) := (Only.refl (fun i => (Value.slice (some ⟨g, off, none⟩) (A ++ x :: B).length c).ownBlock = some i) w).setCell (p := ⟨g, off + (A.length * 3 + 2), none⟩) (.inl rfl) _
  have hs := h.row.set (A.length * 3 + 2) (by rw [rows_len lvC_len]; simp; omega) sv
  rw [rows_set2] at hs
  rw [Nat.add_assoc]
  refine ⟨?_, ?_, h.own⟩
  · rw [List.map_append, List.map_cons]
    exact h.rs.only hst (fun y hy k hk => Sl.apart (h.rs.sl y hy).1 h.row (by decide) k hk) h.own
  · have e : (A ++ { x with st := st, sv := sv } :: B).length = (A ++ x :: B).length := by simp
    rw [e]
    have e2 : rows lvC (A ++ { x with st := st, sv := sv } :: B) = rows lvC (A ++ { x with sv := sv } :: B) := by
      rw [rows_append, rows_append, rows_cons, rows_cons]
      rfl
    rw [e2]
    exact hs
/-- A level put on top. -/
theorem ZSt.push {v2 : Value} {o b : Int} (h : ZSt W0 w v G) (ob : Obj) (hs : Sl w' 99 3 v2 (G.length + 1) (rows lvC G ++ lvC ⟨o, b, [], .slice none 0 0⟩)) (ho : Only (fun g => v.ownBlock = some g) (w.alloc ob) w') (hv : v2.ownBlock = v.ownBlock ∨ v2.ownBlock = some (w.alloc ob).heap.size) : ZSt W0 w' v2 (G ++ [⟨o, b, [], .slice none 0 0⟩]) := by
  have hb1 := below_box w ob
  have h1 := h.below hb1
  have hr := h1.rs.only ho (fun y hy k hk => Sl.apart (h1.rs.sl y hy).1 h1.row (by decide) k hk) h.own
  refine ⟨⟨hr.bel, fun y hy => ?_, ?_⟩, ?_, fun g hg => ?_⟩
  · rw [List.map_append] at hy
    rcases List.mem_append.1 hy with hy | hy
    · exact hr.sl y hy
    · obtain rfl : y = (.slice none 0 0, []) := by simpa [lvR] using hy
      exact ⟨Sl.nil _ _ _, fun k hk => by cases hk⟩
  · rw [List.map_append, List.pairwise_append]
    refine ⟨hr.dis, by simp, fun y _ z hz k _ e => ?_⟩
    obtain rfl : z = (.slice none 0 0, []) := by simpa [lvR] using hz
    cases e
  · rw [List.length_append, rows_append, rows_one]
    exact hs
  · rcases hv with e | e
    · exact h.own g (e ▸ hg)
    · rw [e] at hg
      cases hg
      exact h1.rs.bel.size
theorem ZSt.fresh (hb : Below W0.heap.size W0 w) (o b : Int) : ZSt W0 (w.alloc (.cells (lvC ⟨o, b, [], .slice none 0 0⟩).toArray 99)) (.slice (some ⟨w.heap.size, 0, none⟩) 1 1) [⟨o, b, [], .slice none 0 0⟩] := by
  refine ⟨⟨hb.alloc hb.size _, fun y hy => ?_, by simp⟩, ?_, fun g hg => ?_⟩
  · obtain rfl : y = (.slice none 0 0, []) := by simpa [lvR] using hy
    exact ⟨Sl.nil _ _ _, fun k hk => by cases hk⟩
  · have := Sl.new w 99 3 (lvC ⟨o, b, [], .slice none 0 0⟩).toArray 1 1 (Nat.le_refl _) (by simp [maxLen]) (by simp [lvC])
    simpa [rows, lvC] using this
  · cases hg
    exact hb.size
theorem ZSt.cut {A' : Option Addr} {c n m : Nat} (h : ZSt W0 w (.slice A' n c) G) (hn : n = G.length) (hm : m ≤ n) : ZSt W0 w (.slice A' m c) (G.take m) := by
  subst hn
  have h1 := h.row.cut hm
  rw [rows_take lvC_len] at h1
  refine ⟨⟨h.rs.bel, fun y hy => h.rs.sl y ?_, ?_⟩, ?_, fun g hg => h.own g (by cases A' <;> exact hg)⟩
  · rw [List.map_take] at hy
    exact List.mem_of_mem_take hy
  · rw [List.map_take]
    exact h.rs.dis.sublist (List.take_sublist _ _)
  · rw [List.length_take, Nat.min_eq_left hm]
    exact h1
end
/-- The last of them, or -1. -/
def ends (l : List Int) : Int := l.getLast?.getD (-1)
theorem ends_snoc (l : List Int) (x : Int) : ends (l ++ [x]) = x := by simp [ends]
theorem ends_nil : ends [] = -1 := rfl
def lvK (x : Lv) : Lvl := (x.op, x.bar, ends x.st)
/-- The levels, as the plain move has them. -/
structure Gh (G : List Lv) (S : List Lvl) (top bar : Int) : Prop where
  ex : ∃ g0 G', G = g0 :: G' ∧ g0.op = -1 ∧ g0.bar = bar ∧ ends g0.st = top ∧ S = (G'.map lvK).reverse
  pos : ∀ x ∈ G, ∀ y ∈ x.st, (0 : Int) ≤ y
section
variable {G A : List Lv} {x : Lv} {S : List Lvl} {top bar : Int}
theorem Gh.len (h : Gh G S top bar) : G.length = S.length + 1 := by
  obtain ⟨⟨g0, G', rfl, _, _, _, rfl⟩, _⟩ := h
  simp
theorem Gh.start (b : Int) : Gh [⟨-1, b, [], .slice none 0 0⟩] [] (-1) b := ⟨⟨_, [], rfl, rfl, rfl, rfl, rfl⟩, fun x hx y hy => by
  obtain rfl : x = ⟨-1, b, [], .slice none 0 0⟩ := by simpa using hx
  cases hy⟩
theorem Gh.push (h : Gh G S top bar) (o b : Int) : Gh (G ++ [⟨o, b, [], .slice none 0 0⟩]) ((o, b, -1) :: S) top bar := by
  obtain ⟨⟨g0, G', rfl, h1, h2, h3, rfl⟩, h4⟩ := h
  refine ⟨⟨g0, G' ++ [⟨o, b, [], .slice none 0 0⟩], rfl, h1, h2, h3, by simp [lvK, ends_nil]⟩, fun x hx y hy => ?_⟩
  rcases List.mem_append.1 hx with hx | hx
  · exact h4 x hx y hy
  · obtain rfl : x = ⟨o, b, [], .slice none 0 0⟩ := by simpa using hx
    cases hy
/-- An expression ends in the innermost level. -/
theorem Gh.put (h : Gh (A ++ [x]) S top bar) {p : Int} (hp : 0 ≤ p) (sv : Value) : Gh (A ++ [{ x with st := x.st ++ [p], sv := sv }]) (laidIn S top p).1 (laidIn S top p).2 bar := by
  obtain ⟨⟨g0, G', e, h1, h2, h3, rfl⟩, h4⟩ := h
  have hpos : ∀ z ∈ A ++ [{ x with st := x.st ++ [p], sv := sv }], ∀ y ∈ z.st, (0 : Int) ≤ y := fun z hz y hy => by
    rcases List.mem_append.1 hz with hz | hz
    · exact h4 z (by simp [hz]) y hy
    · obtain rfl : z = { x with st := x.st ++ [p], sv := sv } := by simpa using hz
      rcases List.mem_append.1 hy with hy | hy
      · exact h4 x (by simp) y hy
      · obtain rfl : y = p := by simpa using hy
        exact hp
  cases A with
  | nil =>
    simp only [List.nil_append, List.cons.injEq] at e
    obtain ⟨rfl, rfl⟩ := e
    exact ⟨⟨_, [], rfl, h1, h2, by simp [laidIn, ends_snoc], by simp [laidIn]⟩, hpos⟩
  | cons a A' =>
    simp only [List.cons_append, List.cons.injEq] at e
    obtain ⟨rfl, rfl⟩ := e
    refine ⟨⟨a, A' ++ [{ x with st := x.st ++ [p], sv := sv }], rfl, h1, h2, ?_, ?_⟩, hpos⟩
    · simp [laidIn, h3]
    · simp [laidIn, lvK, ends_snoc]
theorem Gh.drop (h : Gh (A ++ [x]) S top bar) (hA : A ≠ []) : ∃ S', S = (x.op, x.bar, ends x.st) :: S' ∧ Gh A S' top bar := by
  obtain ⟨⟨g0, G', e, h1, h2, h3, rfl⟩, h4⟩ := h
  cases A with
  | nil => exact absurd rfl hA
  | cons a A' =>
    simp only [List.cons_append, List.cons.injEq] at e
    obtain ⟨rfl, rfl⟩ := e
    exact ⟨(A'.map lvK).reverse, by simp [lvK], ⟨⟨a, A', rfl, h1, h2, h3, rfl⟩, fun z hz => h4 z (by
      rcases List.mem_cons.1 hz with rfl | hz
      · simp
      · simp [hz])⟩⟩
theorem Gh.none (h : Gh [x] S top bar) : S = [] ∧ x.op = -1 ∧ x.bar = bar ∧ ends x.st = top := by
  obtain ⟨⟨g0, G', e, h1, h2, h3, rfl⟩, _⟩ := h
  simp only [List.cons.injEq] at e
  obtain ⟨rfl, rfl⟩ := e
  exact ⟨rfl, h1, h2, h3⟩
/-- What the end answers. -/
theorem Gh.out (h : Gh (A ++ [x]) S top bar) {i : Nat} (hk : BckOk S top bar i) : bckOut 13 5 S top bar = (if x.st ≠ [] then ((ends x.st).toNat, 0, 0) else if 0 ≤ x.op then (0, 5, x.op) else if 0 ≤ x.bar then (0, 5, x.bar) else (0, 13, 0)) := by
  have he : 0 ≤ ends x.st ↔ x.st ≠ [] := by
    rcases List.eq_nil_or_concat x.st with e | ⟨l, y, e⟩
    · rw [e]
      simp [ends_nil]
    · rw [e, List.concat_eq_append, ends_snoc]
      have := h.pos x (by simp) y (by rw [e]; simp)
      simp [this]
  cases A with
  | nil =>
    obtain ⟨rfl, h1, h2, h3⟩ := h.none
    rw [h1, h2, ← h3]
    unfold bckOut
    simp only []
    by_cases c : x.st = []
    · have hn : ¬ 0 ≤ ends x.st := by rw [he]; simp [c]
      rw [if_neg hn, if_neg (not_not_intro c), if_neg (show ¬ (0 : Int) ≤ -1 by omega)]
    · rw [if_pos (he.2 c), if_pos c]
  | cons a A' =>
    obtain ⟨S', rfl, _⟩ := h.drop (by simp)
    have hl := hk.1 _ (List.mem_cons_self ..)
    unfold LvlOk at hl
    simp only [] at hl
    unfold bckOut
    simp only []
    by_cases c : x.st = []
    · have hn : ¬ 0 ≤ ends x.st := by rw [he]; simp [c]
      rw [if_neg hn, if_neg (not_not_intro c), if_pos hl.1]
    · rw [if_pos (he.2 c), if_pos c]
end
end Go.Proofs.YtdojcgefiekleaaDoor
