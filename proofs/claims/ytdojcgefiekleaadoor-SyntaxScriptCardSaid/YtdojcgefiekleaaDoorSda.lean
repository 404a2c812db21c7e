/- Over of a table: its boxes and closures; slices.Clone at integers. No condition but those written. -/
import Derived.Test.YtdojcgefiekleaaDoorSct
namespace Go.Proofs.YtdojcgefiekleaaDoor
open Go.RowKit

theorem eql_intsl (w : World) (a : Option Addr) (n c : Nat) : (binOp .eql 24 (.slice a n c) (.slice none 0 0)).run Tryd.prog w = .ok (.bool a.isNone) w := Lib.run_eql_slice_nil w _ _ a n c 0 0 Tryd.underlying24
attribute [local go_sem] eql_intsl
/-- A slice of the call's own is handed back. -/
def FreshI (w : World) (T n : Nat) (xs : List Value) (e : Ending) (w' : World) : Prop := ∃ v, e = .returned v ∧ Sl w' T 1 v n xs ∧ (∀ g, v.ownBlock = some g → w.heap.size ≤ g) ∧ Below w.heap.size w w'
set_option maxRecDepth 100000 in
set_option maxHeartbeats 2000000 in
theorem clone_ints_some (a : Addr) (n c : Nat) (xs : List Value) (w : World) (h : Rd w (.slice (some a) n c) 1 n xs) (hx : ∀ u ∈ xs, u.oneCell' = true) (hN : n ≤ 1000000) :
    Calls Tryd.prog 53 #[.slice (some a) n c] w (FreshI w 3 n xs) := by
  obtain ⟨i0, hi, hz0, hz1, hz2⟩ := info_parts info_int
  have he := Sl.new w 3 1 #[] 0 0 (Nat.le_refl _) (by simp [maxLen]) (by simp)
  have he2 : Sl (w.alloc (.cells #[] 3)) 3 1 (.slice (some ⟨w.heap.size, 0, none⟩) 0 0) 0 [] := by simpa using he
  have hB : Below w.heap.size w (w.alloc (.cells #[] 3)) := (Below.refl _ _).alloc (Nat.le_refl _) _
  have hr : Rd (w.alloc (.cells #[] 3)) (.slice (some a) n c) 1 n xs := h.only (Only.of_below hB) fun _ _ f => f
  go_enter Tryd.func53, Tryd.ntmps53
  go_wp2_with (at_builtin; go_loud (refine wpList_append_sl rfl (.tmp 5) (.tmp 6) 24 rfl 3 i0 _ 1 8 Tryd.underlying24 hi hz0 hz1 hz2 rfl _ 0 [] rfl he2 _ rfl n xs hr hx ?b1 ?b2 ?_))
  case b1 => unfold maxLen; omega
  case b2 => omega
  intro v' w' hsl honly hv'
  have HB := hide (hB.trans (honly.below (B := w.heap.size) (by simp) fun i hi => by simp [Value.ownBlock] at hi; omega))
  have HS := hide (show Sl w' 3 1 v' n xs by simpa using hsl)
  have HG := hide (show ∀ g, v'.ownBlock = some g → w.heap.size ≤ g from fun g hg => by
    rcases hv' with e | e <;> rw [e] at hg <;> simp [Value.ownBlock] at hg <;> omega)
  clear hsl honly hv' hB he h
  go_wp2
  go_ret
  exact ⟨_, rfl, HS.out, HG.out, HB.out⟩
set_option maxRecDepth 100000 in
set_option maxHeartbeats 4000000 in
theorem clone_ints_none (c : Nat) (w : World) : Calls Tryd.prog 53 #[.slice none 0 c] w (FreshI w 3 0 []) := by
  have HF := hide (show FreshI w 3 0 [] (.returned (.slice none 0 0)) w from ⟨_, rfl, Sl.nil _ _ _, fun g hg => by simp [Value.ownBlock] at hg, Below.refl _ _⟩)
  go_enter Tryd.func53, Tryd.ntmps53
  go_wp2
  go_ret
  exact HF.out
theorem clone_ints (v : Value) (n : Nat) (xs : List Value) (w : World) (h : Rd w v 1 n xs) (hx : ∀ u ∈ xs, u.oneCell' = true) (hN : n ≤ 1000000) :
    Calls Tryd.prog 53 #[v] w (FreshI w 3 n xs) := by
  obtain ⟨A, c, rfl, hl, hr⟩ := id h
  cases A with
  | some a => exact clone_ints_some a n c xs w h hx hN
  | none =>
    have h0 : n = 0 := by
      rcases Nat.eq_zero_or_pos n with h0 | h0
      · exact h0
      · obtain ⟨b, off, hA, _⟩ := hr h0
        cases hA
    subst h0
    have := List.eq_nil_of_length_eq_zero (by simpa using hl)
    subst this
    exact clone_ints_none c w


def zints (l : List Int) : List Value := l.map (Value.int .i64)
theorem zints_one (l : List Int) : ∀ u ∈ zints l, u.oneCell' = true := by
  intro u hu
  obtain ⟨c, _, rfl⟩ := List.mem_map.1 hu
  rfl
theorem zints_snoc (l : List Int) (x : Int) : zints (l ++ [x]) = zints l ++ [.int .i64 x] := by simp [zints]
/-- A state's cells. -/
def staC (sv : Value) (S : Sta) : Array Value := #[sv, .int .i64 S.under, .int .i64 S.inn, .bool S.comment, .int .i64 S.start, .bool S.quoted]
/-- The functions that Over keeps for each class. -/
def fnC (st ix ch : Nat) : Array Value := #[.func (.func 54) #[] #[], .nilFunc, .nilFunc, .nilFunc, .func (.func 58) #[] #[.pointer (some ⟨st, 0, none⟩), .pointer (some ⟨ix, 0, none⟩)], .func (.func 59) #[] #[.pointer (some ⟨st, 0, none⟩)], .func (.func 56) #[] #[.pointer (some ⟨ch, 0, none⟩), .pointer (some ⟨ix, 0, none⟩), .pointer (some ⟨st, 0, none⟩)], .func (.func 55) #[] #[.pointer (some ⟨st, 0, none⟩)], .func (.func 57) #[] #[.pointer (some ⟨ix, 0, none⟩), .pointer (some ⟨st, 0, none⟩)], .nilFunc, .func (.func 60) #[] #[]]
/-- Within Over: the boxes of the state, of the answer, of the characters (ch), of the index (ix); the functions (fb). -/
structure OSt (w0 w : World) (ch ix fb : Nat) (v : Value) (L : List Nat) (i : Int) (sv : Value) (S : Sta) : Prop where
  bel : Below w0.heap.size w0 w
  st : Blk w w0.heap.size 50 (staC sv S)
  res : Blk w (w0.heap.size + 1) 50 stZ
  cl : Blk w ch 24 #[v]
  ci : Blk w ix 3 #[.int .i64 i]
  fn : Blk w fb 79 (fnC w0.heap.size ix ch)
  row : Sl w 3 1 v L.length (ints L)
  op : Sl w 3 1 sv S.opens.length (zints S.opens)
  o1 : w0.heap.size + 2 ≤ ch
  o2 : ch < ix
  o3 : ix < fb
  rown : ∀ k, v.ownBlock = some k → w0.heap.size + 2 ≤ k ∧ k < ch
  opn : ∀ k, sv.ownBlock = some k → ch < k ∧ k ≠ ix
section
variable {w0 w w' : World} {ch ix fb : Nat} {v sv : Value} {L : List Nat} {i : Int} {S : Sta}
theorem OSt.below (h : OSt w0 w ch ix fb v L i sv S) (hb : Below w.heap.size w w') : OSt w0 w' ch ix fb v L i sv S :=
  ⟨h.bel.trans (hb.mono h.bel.size), h.st.below hb h.st.lt, h.res.below hb h.res.lt, h.cl.below hb h.cl.lt, h.ci.below hb h.ci.lt, h.fn.below hb h.fn.lt, h.row.only (Only.of_below (F := fun _ => False) hb) fun _ _ f => f, h.op.only (Only.of_below (F := fun _ => False) hb) fun _ _ f => f, h.o1, h.o2, h.o3, h.rown, h.opn⟩
/-- Cells of the state are stored. -/
theorem OSt.put (h : OSt w0 w ch ix fb v L i sv S) {S' : Sta} (hk : Blk w' w0.heap.size 50 (staC sv S')) (ho : Only (· = w0.heap.size) w w') (hop : S'.opens = S.opens) : OSt w0 w' ch ix fb v L i sv S' := by
  have o1 := h.o1
  have o2 := h.o2
  have o3 := h.o3
  refine ⟨h.bel.trans (ho.below h.bel.size fun i e => Nat.le_of_eq e.symm), hk, h.res.only ho (by omega), h.cl.only ho (by omega), h.ci.only ho (by omega), h.fn.only ho (by omega), h.row.only ho fun k hk e => by have := (h.rown k hk).1; omega, ?_, o1, o2, o3, h.rown, h.opn⟩
  rw [hop]
  exact h.op.only ho fun k hk e => by have := (h.opn k hk).1; omega
theorem only_set (w : World) (g n : Nat) (x : Value) : Only (· = g) w (w.setCell ⟨g, n, none⟩ x) := (Only.refl (· = g) w).setCell (p := ⟨g, n, none⟩) (.inl rfl) _
theorem OSt.under (h : OSt w0 w ch ix fb v L i sv S) (x : Int) : OSt w0 (w.setCell ⟨w0.heap.size, 1, none⟩ (.int .i64 x)) ch ix fb v L i sv { S with under := x } := h.put (h.st.set_ 1 _) (only_set _ _ _ _) rfl
theorem OSt.inn (h : OSt w0 w ch ix fb v L i sv S) (x : Int) : OSt w0 (w.setCell ⟨w0.heap.size, 2, none⟩ (.int .i64 x)) ch ix fb v L i sv { S with inn := x } := h.put (h.st.set_ 2 _) (only_set _ _ _ _) rfl
theorem OSt.comment (h : OSt w0 w ch ix fb v L i sv S) (x : Bool) : OSt w0 (w.setCell ⟨w0.heap.size, 3, none⟩ (.bool x)) ch ix fb v L i sv { S with comment := x } := h.put (h.st.set_ 3 _) (only_set _ _ _ _) rfl
theorem OSt.start (h : OSt w0 w ch ix fb v L i sv S) (x : Int) : OSt w0 (w.setCell ⟨w0.heap.size, 4, none⟩ (.int .i64 x)) ch ix fb v L i sv { S with start := x } := h.put (h.st.set_ 4 _) (only_set _ _ _ _) rfl
theorem OSt.quoted (h : OSt w0 w ch ix fb v L i sv S) (x : Bool) : OSt w0 (w.setCell ⟨w0.heap.size, 5, none⟩ (.bool x)) ch ix fb v L i sv { S with quoted := x } := h.put (h.st.set_ 5 _) (only_set _ _ _ _) rfl
theorem OSt.ix_ (h : OSt w0 w ch ix fb v L i sv S) (x : Int) : OSt w0 (w.setCell ⟨ix, 0, none⟩ (.int .i64 x)) ch ix fb v L x sv S := by
  have o1 := h.o1
  have o2 := h.o2
  have o3 := h.o3
  exact ⟨h.bel.setCell (by simp only []; omega) _, h.st.far (by simp only []; omega) _, h.res.far (by simp only []; omega) _, h.cl.far (by simp only []; omega) _, h.ci.set_ 0 _, h.fn.far (by simp only []; omega) _, h.row.far (fun e => by have := (h.rown _ e).2; simp only [] at this; omega) _, h.op.far (fun e => (h.opn _ e).2 rfl) _, o1, o2, o3, h.rown, h.opn⟩
/-- The open lists change. -/
theorem OSt.opens (h : OSt w0 w ch ix fb v L i sv S) {sv' : Value} {l : List Int} (hs : Sl w' 3 1 sv' l.length (zints l)) (ho : Only (fun b => sv.ownBlock = some b) w w') (hv : sv'.ownBlock = sv.ownBlock ∨ ∃ g, sv'.ownBlock = some g ∧ w.heap.size ≤ g) : OSt w0 (w'.setCell ⟨w0.heap.size, 0, none⟩ sv') ch ix fb v L i sv' { S with opens := l } := by
  have o1 := h.o1
  have o2 := h.o2
  have o3 := h.o3
  have hix := h.ci.lt
  have hnot : ∀ k, k ≤ ch ∨ k = ix → ¬ sv.ownBlock = some k := fun k hk e => by have := h.opn k e; omega
  have hfb : ¬ sv.ownBlock = some fb := fun e => h.op.ne_blk h.fn (by decide) e
  have hst := h.st.only ho (hnot _ (.inl (by omega)))
  have hopn : ∀ k, sv'.ownBlock = some k → ch < k ∧ k ≠ ix := fun k hk => by
    rcases hv with e | ⟨g, e, hg⟩
    · exact h.opn k (e ▸ hk)
    · rw [e] at hk
      injection hk with hk
      omega
  refine ⟨(h.bel.trans (ho.below h.bel.size fun k e => by have := h.opn k e; omega)).setCell (Nat.le_refl _) _, hst.set_ 0 _, (h.res.only ho (hnot _ (.inl (by omega)))).far (by simp only []; omega) _, (h.cl.only ho (hnot _ (.inl (by omega)))).far (by simp only []; omega) _, (h.ci.only ho (hnot _ (.inr rfl))).far (by simp only []; omega) _, (h.fn.only ho hfb).far (by simp only []; omega) _, (h.row.only ho fun k hk => hnot k (.inl (by have := h.rown k hk; omega))).far (fun e => by have := (h.rown _ e).1; simp only [] at this; omega) _, hs.far (fun e => by have := (hopn _ e).1; simp only [] at this; omega) _, o1, o2, o3, h.rown, hopn⟩
theorem OSt.s0 (h : OSt w0 w ch ix fb v L i sv S) : w.cell? ⟨w0.heap.size, 0, none⟩ = some sv := (h.st.cell 0).trans rfl
theorem OSt.s1 (h : OSt w0 w ch ix fb v L i sv S) : w.cell? ⟨w0.heap.size, 1, none⟩ = some (.int .i64 S.under) := (h.st.cell 1).trans rfl
theorem OSt.s2 (h : OSt w0 w ch ix fb v L i sv S) : w.cell? ⟨w0.heap.size, 2, none⟩ = some (.int .i64 S.inn) := (h.st.cell 2).trans rfl
theorem OSt.s3 (h : OSt w0 w ch ix fb v L i sv S) : w.cell? ⟨w0.heap.size, 3, none⟩ = some (.bool S.comment) := (h.st.cell 3).trans rfl
theorem OSt.s4 (h : OSt w0 w ch ix fb v L i sv S) : w.cell? ⟨w0.heap.size, 4, none⟩ = some (.int .i64 S.start) := (h.st.cell 4).trans rfl
theorem OSt.s5 (h : OSt w0 w ch ix fb v L i sv S) : w.cell? ⟨w0.heap.size, 5, none⟩ = some (.bool S.quoted) := (h.st.cell 5).trans rfl
theorem OSt.fz (h : OSt w0 w ch ix fb v L i sv S) (n : Nat) : w.frozen? ⟨w0.heap.size, n, none⟩ = false := h.st.frozen n
theorem OSt.cx (h : OSt w0 w ch ix fb v L i sv S) : w.cell? ⟨ix, 0, none⟩ = some (.int .i64 i) := (h.ci.cell 0).trans rfl
theorem OSt.cv (h : OSt w0 w ch ix fb v L i sv S) : w.cell? ⟨ch, 0, none⟩ = some v := (h.cl.cell 0).trans rfl
theorem OSt.fx (h : OSt w0 w ch ix fb v L i sv S) : w.frozen? ⟨ix, 0, none⟩ = false := h.ci.frozen 0
theorem Sl.cellI {w : World} {T : TypeId} {b off n c j : Nat} {xs : List Value} {u : Value} (h : Sl w T 1 (.slice (some ⟨b, off, none⟩) n c) n xs) (hj : xs[j]? = some u) : w.cell? ⟨b, off + j, none⟩ = some u := by
  have hl := h.1
  have := (List.getElem?_eq_some_iff.1 hj).1
  obtain ⟨b', off', c', e, _, _, h3, _⟩ := h.at_ (by omega)
  injection e with e1 _ _
  injection e1 with e1
  injection e1 with e4 e5
  subst e4 e5
  exact h3 j u hj
/-- What a function of Over does. -/
def OFn (w0 : World) (ch ix fb : Nat) (v : Value) (L : List Nat) (i : Int) (S' : Sta) (e : Ending) (w' : World) : Prop := e = .returned (.tuple #[]) ∧ ∃ sv', OSt w0 w' ch ix fb v L i sv' S'
end
section
variable {w0 w w' : World} {ch ix fb : Nat} {v sv : Value} {L : List Nat} {i : Int} {S : Sta}
theorem over1_any (h : OSt w0 w ch ix fb v L i sv S) : Calls Tryd.prog 54 #[] w (OFn w0 ch ix fb v L i S) := by
  have HH := hide h
  clear h
  go_enter Tryd.func54, Tryd.ntmps54
  go_wp2
  go_end0
  exact ⟨rfl, _, HH.out⟩
theorem over7_any (h : OSt w0 w ch ix fb v L i sv S) : Calls Tryd.prog 60 #[] w (OFn w0 ch ix fb v L i S) := by
  have HH := hide h
  clear h
  go_enter Tryd.func60, Tryd.ntmps60
  go_wp2
  go_end0
  exact ⟨rfl, _, HH.out⟩
theorem over2_any (h : OSt w0 w ch ix fb v L i sv S) : Calls Tryd.prog 55 #[.pointer (some ⟨w0.heap.size, 0, none⟩)] w (OFn w0 ch ix fb v L i { S with quoted := true }) := by
  have HH := hide h
  have c0 := h.s5
  have c1 := h.fz 5
  clear h
  go_enter Tryd.func55, Tryd.ntmps55
  go_wp2
  go_end0
  exact ⟨rfl, _, HH.out.quoted true⟩
theorem over4_any (h : OSt w0 w ch ix fb v L i sv S) : Calls Tryd.prog 57 #[.pointer (some ⟨ix, 0, none⟩), .pointer (some ⟨w0.heap.size, 0, none⟩)] w (OFn w0 ch ix fb v L i { S with comment := true, start := i }) := by
  have HH := hide h
  have c0 := h.s3
  have c1 := h.fz 3
  have c2 := h.cx
  have c3 := (h.comment true).s4
  have c4 := (h.comment true).fz 4
  have c5 := (h.comment true).cx
  have c6 := h.s4
  have c7 := h.fz 4
  clear h
  go_enter Tryd.func57, Tryd.ntmps57
  go_wp2
  go_end0
  exact ⟨rfl, _, (HH.out.comment true).start i⟩
set_option maxRecDepth 100000 in
set_option maxHeartbeats 4000000 in
theorem over3_any {j : Nat} (h : OSt w0 w ch ix fb v L (j : Int) sv S) (hj : j < L.length) (hl : L.length ≤ 1000000000000) : Calls Tryd.prog 56 #[.pointer (some ⟨ch, 0, none⟩), .pointer (some ⟨ix, 0, none⟩), .pointer (some ⟨w0.heap.size, 0, none⟩)] w (OFn w0 ch ix fb v L (j : Int) { S with inn := ((L.getD j 0 : Nat) : Int), start := (j : Int) }) := by
  have HH := hide h
  obtain ⟨b, off, c, rfl, _⟩ := h.row.at_ (by omega)
  obtain ⟨cj, hcj⟩ : ∃ cj : Int, cj = ((L.getD j 0 : Nat) : Int) := ⟨_, rfl⟩
  have d0 : w.cell? ⟨b, off + j, none⟩ = some (.int .i64 cj) := h.row.cellI (by rw [hcj]; simp [ints, List.getD, List.getElem?_eq_getElem hj])
  have d1 := (h.inn cj).row.cellI (j := j) (u := .int .i64 cj) (by rw [hcj]; simp [ints, List.getD, List.getElem?_eq_getElem hj])
  have d2 := ((h.inn cj).start (j : Int)).row.cellI (j := j) (u := .int .i64 cj) (by rw [hcj]; simp [ints, List.getD, List.getElem?_eq_getElem hj])
  rw [← hcj]
  have c0 := h.cv
  have c1 := h.cx
  have c2 := h.s2
  have c3 := h.fz 2
  have c4 := h.s4
  have c5 := h.fz 4
  have c6 := (h.inn cj).s4
  have c7 := (h.inn cj).fz 4
  have y1 : decide ((j : Int) < (L.length : Int)) = true := by simp; omega
  have y2 : (j : Int) < (L.length : Int) := by omega
  have y3 : (0 : Int) ≤ (j : Int) := by omega
  have HK1 := hide (And.intro (h.inn cj).cv (And.intro (h.inn cj).cx d1))
  have HK2 := hide (And.intro ((h.inn cj).start (j : Int)).cv (And.intro ((h.inn cj).start (j : Int)).cx d2))
  clear h d1 d2 hcj
  go_enter Tryd.func56, Tryd.ntmps56
  go_wp2
  go_region_held3 (fun w' => w'.cell? ⟨ch, 0, none⟩ = some (.slice (some ⟨b, off, none⟩) L.length c) ∧ w'.cell? ⟨ix, 0, none⟩ = some (.int .i64 (j : Int)) ∧ w'.cell? ⟨b, off + j, none⟩ = some (.int .i64 cj))
    (first | exact ⟨c0, c1, d0⟩ | exact HK1.out | exact HK2.out)
    (fail)
  all_goals go_wp2
  all_goals go_end0
  all_goals exact ⟨rfl, _, ((HH.out.inn cj).start (j : Int)).below (Below.refl _ _).drew⟩
set_option maxRecDepth 100000 in
set_option maxHeartbeats 4000000 in
theorem over5_any (h : OSt w0 w ch ix fb v L i sv S) (hl : S.opens.length ≤ 1000000) : Calls Tryd.prog 58 #[.pointer (some ⟨w0.heap.size, 0, none⟩), .pointer (some ⟨ix, 0, none⟩)] w (OFn w0 ch ix fb v L i { S with opens := S.opens ++ [i] }) := by
  have HH := hide h
  obtain ⟨i0, hi0, hz0, hz1, hz2⟩ := info_parts info_int
  obtain ⟨A, c, rfl, _⟩ := h.op.form
  obtain ⟨n, hn⟩ : ∃ n, n = S.opens.length := ⟨_, rfl⟩
  have c0 := h.s0
  have c1 := h.cx
  have HO := hide (show Sl w 3 1 (.slice A n c) n (zints S.opens) from by rw [hn]; exact h.op)
  rw [← hn] at c0
  have HN := hide hn
  have hnl : (n : Int) ≤ 1000000 := by omega
  clear h hn hl
  go_enter Tryd.func58, Tryd.ntmps58
  go_wp2_with (at_builtin; refine wpList_append_sl rfl (.tmp 3) (.tmp 5) 24 rfl 3 i0 (.int .i64 0) 1 8 Tryd.underlying24 hi0 hz0 hz1 hz2 rfl _ n (zints S.opens) rfl (HO.out.alloc _) _ rfl 1 [_] (rd_one _ _ _) ?one ?b1 ?b2 ?_)
  case one => intro u hu; simp at hu; subst hu; rfl
  case b1 => unfold maxLen; omega
  case b2 => omega
  intro v' w2 hs2 ho2 hv2
  have hO2 : Only (fun b => (Value.slice A n c).ownBlock = some b) w w2 := ((Only.refl _ _).alloc _).trans ho2
  have hh := HH.out
  rw [← HN.out] at hh
  have hnot : ¬ (Value.slice A n c).ownBlock = some w0.heap.size := fun e => by have := hh.opn _ e; have := hh.o1; omega
  have hb := hh.st.only hO2 hnot
  obtain ⟨A2, c2, rfl, _⟩ := hs2.form
  have e0 := hb.cell 0
  have e1 := hb.frozen 0
  have HF := hide (hh.opens (l := S.opens ++ [i]) (by rw [List.length_append, zints_snoc, ← HN.out]; exact hs2) hO2 (hv2.imp id fun e => ⟨_, e, by simp⟩))
  clear hs2 ho2 hv2 hO2 hh hnot hb
  go_wp2
  go_end0
  exact ⟨rfl, _, HF.out⟩
set_option maxRecDepth 100000 in
set_option maxHeartbeats 4000000 in
theorem over6_any (h : OSt w0 w ch ix fb v L i sv S) (hl : S.opens.length ≤ 1000000) (hu : -9223372036854775808 ≤ S.under ∧ S.under ≤ 9223372036854775807) : Calls Tryd.prog 59 #[.pointer (some ⟨w0.heap.size, 0, none⟩)] w (OFn w0 ch ix fb v L i (if S.opens = [] then { S with under := up1 S.under } else { S with opens := S.opens.dropLast })) := by
  have HH := hide h
  obtain ⟨A, c, rfl, hlc, _⟩ := h.op.form
  have c0 := h.s0
  have c1 := h.s1
  have c2 := h.fz 1
  have c3 := h.fz 0
  by_cases h0 : S.opens = []
  · rw [if_pos h0]
    have hw : IntKind.i64.wrap (S.under + 1) = up1 S.under := by
      unfold up1
      split
      · rename_i e
        rw [e]
        rfl
      · exact IntWalk.i64_in _ (by omega)
    have e0 : S.opens.length = 0 := by rw [h0]; rfl
    rw [e0] at c0
    obtain ⟨u, hu2⟩ : ∃ u, u = up1 S.under := ⟨_, rfl⟩
    rw [← hu2] at hw ⊢
    clear h h0 hl hu hlc e0 hu2
    go_enter Tryd.func59, Tryd.ntmps59
    go_wp2
    go_end0
    exact ⟨rfl, _, HH.out.under u⟩
  · rw [if_neg h0]
    obtain ⟨n, hn⟩ : ∃ n, S.opens.length = n + 1 := ⟨S.opens.length - 1, by have := List.length_pos_iff.2 h0; omega⟩
    rw [hn] at c0
    have hnl : (n : Int) ≤ 1000000 := by omega
    have hnc : (n : Int) ≤ (c : Int) := by omega
    have HF := hide (show OSt w0 (w.setCell ⟨w0.heap.size, 0, none⟩ (.slice A n c)) ch ix fb v L i (.slice A n c) { S with opens := S.opens.dropLast } from by
      have hs := h.op.cut (m := n) (by omega)
      have hd : S.opens.dropLast.length = n := by simp [hn]
      refine h.opens (sv' := .slice A n c) (l := S.opens.dropLast) ?_ (Only.refl _ _) (.inl (by cases A <;> rfl))
      rw [hd]
      have : (zints S.opens).take (n * 1) = zints S.opens.dropLast := by
        rw [List.dropLast_eq_take, hn]
        simp [zints]
      rw [← this]
      exact hs)
    clear h h0 hl hu hlc hn
    go_enter Tryd.func59, Tryd.ntmps59
    go_wp2
    go_end0
    exact ⟨rfl, _, HF.out⟩
end
end Go.Proofs.YtdojcgefiekleaaDoor
