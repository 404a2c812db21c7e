/- do: an act on a table and on the reference's. No condition but those written. -/
import Derived.Test.YtkhjdhoaephdkaaDoorNsh
import Derived.Deep.RegionHeld3
namespace Go.Proofs.YtkhjdhoaephdkaaDoor
open Go.RowKit

structure Ac3 where
  kd : Int
  n : Int
  key : Int
  s : ByteArray
  wk : Int
  wn : Int
def Ac3.cells (a : Ac3) : List Value := [.int .i64 a.kd, .int .i64 a.n, .int .i64 a.key, .string a.s, .int .i64 a.wk, .int .i64 a.wn]
theorem ac3_len (a : Ac3) : a.cells.length = 6 := rfl
abbrev Ac3.val (a : Ac3) : Value := .agg #[.int .i64 a.kd, .int .i64 a.n, .int .i64 a.key, .string a.s, .int .i64 a.wk, .int .i64 a.wn]
section
variable {W w w' : World} {tb ob : Nat} {A : List Sym} {O : List RSym} {R : Heap}
theorem dintern (h : Duo W w tb A ob O R) (hT : Tabs W) (s : ByteArray) (hs : s.size ≤ 100000) (hl : A.length ≤ 16384) : Calls Tryd.prog 12 #[.pointer (some ⟨tb, 0, none⟩), .string s] w fun e w' => e = .returned (.tuple #[.int .i64 (internM A s).1, .int .i64 (internM A s).2.1]) ∧ Duo W w' tb (internM A s).2.2 ob O R := by
  refine (duo_tab h (P := fun e => e = .returned (.tuple #[.int .i64 (internM A s).1, .int .i64 (internM A s).2.1])) (Q := fun A' => A' = (internM A s).2.2) fun F hF => (intern_any hF (hT.below h.bel) s (by omega) hl).mono fun e w' hh => ⟨hh.1, _, rfl, hh.2⟩).mono ?_
  rintro e w' ⟨he, A', rfl, hd⟩
  exact ⟨he, hd⟩
theorem dfresh (h : Duo W w tb A ob O R) (hT : Tabs W) (s : ByteArray) (hs : s.size ≤ 100000) (hl : A.length ≤ 16384) : Calls Tryd.prog 14 #[.pointer (some ⟨tb, 0, none⟩), .string s] w fun e w' => e = .returned (.tuple #[.int .i64 (freshM A s).1, .int .i64 (freshM A s).2.1]) ∧ Duo W w' tb (freshM A s).2.2 ob O R := by
  refine (duo_tab h (P := fun e => e = .returned (.tuple #[.int .i64 (freshM A s).1, .int .i64 (freshM A s).2.1])) (Q := fun A' => A' = (freshM A s).2.2) fun F hF => (fresh_any hF (hT.below h.bel) s (by omega) hl).mono fun e w' hh => ⟨hh.1, _, rfl, hh.2⟩).mono ?_
  rintro e w' ⟨he, A', rfl, hd⟩
  exact ⟨he, hd⟩
theorem dsetfunc (h : Duo W w tb A ob O R) (hL : 1 < A.length) (n k m : Int) : Calls Tryd.prog 21 #[.pointer (some ⟨tb, 0, none⟩), .int .i64 n, .agg #[.int .i64 k, .int .i64 m]] w fun e w' => e = .returned (.int .i64 (mayR A.length n)) ∧ Duo W w' tb (setA A n k m true) ob O R := by
  refine (duo_tab h (P := fun e => e = .returned (.int .i64 (mayR A.length n))) (Q := fun A' => A' = setA A n k m true) fun F hF => (setfunc_all hF hL n k m).mono fun e w' hh => ⟨hh.1, _, rfl, hh.2⟩).mono ?_
  rintro e w' ⟨he, A', rfl, hd⟩
  exact ⟨he, hd⟩
theorem dclearfunc (h : Duo W w tb A ob O R) (hL : 1 < A.length) (n : Int) : Calls Tryd.prog 29 #[.pointer (some ⟨tb, 0, none⟩), .int .i64 n] w fun e w' => e = .returned (.int .i64 (mayR A.length n)) ∧ Duo W w' tb (setA A n 0 0 false) ob O R := by
  refine (duo_tab h (P := fun e => e = .returned (.int .i64 (mayR A.length n))) (Q := fun A' => A' = setA A n 0 0 false) fun F hF => (clearfunc_all hF hL n).mono fun e w' hh => ⟨hh.1, _, rfl, hh.2⟩).mono ?_
  rintro e w' ⟨he, A', rfl, hd⟩
  exact ⟨he, hd⟩
theorem drintern (h : Duo W w tb A ob O R) (s : ByteArray) (hs : s.size ≤ 100000) : Calls Tryd.prog 49 #[.pointer (some ⟨ob, 0, none⟩), .string s] w fun e w' => e = .returned (.tuple #[.int .i64 (rinternM O s).1, .int .i64 (rinternM O s).2.1]) ∧ Duo W w' tb A ob (rinternM O s).2.2 R := by
  refine (duo_ref h (P := fun e => e = .returned (.tuple #[.int .i64 (rinternM O s).1, .int .i64 (rinternM O s).2.1])) (Q := fun O' => O' = (rinternM O s).2.2) fun lv R' hr => (rintern_any hr s hs).mono fun e w' hh => ⟨hh.1, _, rfl, hh.2⟩).mono ?_
  rintro e w' ⟨he, O', rfl, hd⟩
  exact ⟨he, hd⟩
theorem drfresh (h : Duo W w tb A ob O R) (s : ByteArray) (hs : s.size ≤ 100000) : Calls Tryd.prog 50 #[.pointer (some ⟨ob, 0, none⟩), .string s] w fun e w' => e = .returned (.tuple #[.int .i64 (rfreshM O s).1, .int .i64 (rfreshM O s).2.1]) ∧ Duo W w' tb A ob (rfreshM O s).2.2 R := by
  refine (duo_ref h (P := fun e => e = .returned (.tuple #[.int .i64 (rfreshM O s).1, .int .i64 (rfreshM O s).2.1])) (Q := fun O' => O' = (rfreshM O s).2.2) fun lv R' hr => (rfresh_any hr s hs).mono fun e w' hh => ⟨hh.1, _, rfl, hh.2⟩).mono ?_
  rintro e w' ⟨he, O', rfl, hd⟩
  exact ⟨he, hd⟩
theorem drsetfunc (h : Duo W w tb A ob O R) (n k m : Int) : Calls Tryd.prog 51 #[.pointer (some ⟨ob, 0, none⟩), .int .i64 n, .agg #[.int .i64 k, .int .i64 m]] w fun e w' => e = .returned (.int .i64 (mayR O.length n)) ∧ Duo W w' tb A ob (rsetA O n k m true) R := by
  refine (duo_ref h (P := fun e => e = .returned (.int .i64 (mayR O.length n))) (Q := fun O' => O' = rsetA O n k m true) fun lv R' hr => (rsetfunc_any hr n k m).mono fun e w' hh => ⟨hh.1, _, rfl, _, hh.2⟩).mono ?_
  rintro e w' ⟨he, O', rfl, hd⟩
  exact ⟨he, hd⟩
theorem drclearfunc (h : Duo W w tb A ob O R) (n : Int) : Calls Tryd.prog 52 #[.pointer (some ⟨ob, 0, none⟩), .int .i64 n] w fun e w' => e = .returned (.int .i64 (mayR O.length n)) ∧ Duo W w' tb A ob (rsetA O n 0 0 false) R := by
  refine (duo_ref h (P := fun e => e = .returned (.int .i64 (mayR O.length n))) (Q := fun O' => O' = rsetA O n 0 0 false) fun lv R' hr => (rclearfunc_any hr n).mono fun e w' hh => ⟨hh.1, _, rfl, _, hh.2⟩).mono ?_
  rintro e w' ⟨he, O', rfl, hd⟩
  exact ⟨he, hd⟩
/-- What SetProp leaves, on either side. -/
def SpT (A : List Sym) (n key k m : Int) (A' : List Sym) : Prop := if (0 ≤ n ∧ n < (A.length : Int)) ∧ (0 ≤ key ∧ key < (A.length : Int)) then ∃ x b, A[n.toNat]? = some x ∧ A' = A.set n.toNat (withProps x b (pput x.props key k m)) else A' = A
def SpR (O : List RSym) (n key k m : Int) (O' : List RSym) : Prop := if (0 ≤ n ∧ n < (O.length : Int)) ∧ (0 ≤ key ∧ key < (O.length : Int)) then ∃ y v, O[n.toNat]? = some y ∧ O' = O.set n.toNat (y.withProps v (rins key k m y.props)) else O' = O
theorem Alike.sp (h : Alike A O) {n key k m : Int} {A' : List Sym} {O' : List RSym} (h1 : SpT A n key k m A') (h2 : SpR O n key k m O') : Alike A' O' := by
  unfold SpT at h1
  unfold SpR at h2
  rw [h.length] at h1
  split at h1
  · rename_i hb
    rw [if_pos hb] at h2
    obtain ⟨x, b, hx, rfl⟩ := h1
    obtain ⟨y, v, hy, rfl⟩ := h2
    exact h.setProp hx hy (by rw [h.length]; exact hb.2)
  · rename_i hb
    rw [if_neg hb] at h2
    rw [h1, h2]
    exact h
theorem dsetprop (h : Duo W w tb A ob O R) (n key k m : Int) : Calls Tryd.prog 26 #[.pointer (some ⟨tb, 0, none⟩), .int .i64 n, .int .i64 key, .agg #[.int .i64 k, .int .i64 m]] w fun e w' => e = .returned (.int .i64 (spE A.length n key)) ∧ ∃ A', SpT A n key k m A' ∧ Duo W w' tb A' ob O R := by
  refine (duo_tab h (P := fun e => e = .returned (.int .i64 (spE A.length n key))) (Q := SpT A n key k m) fun F hF => ?_)
  by_cases hb : (0 ≤ n ∧ n < (A.length : Int)) ∧ (0 ≤ key ∧ key < (A.length : Int))
  · obtain ⟨i, rfl⟩ : ∃ i : Nat, n = (i : Int) := ⟨n.toNat, by omega⟩
    obtain ⟨x, hx⟩ : ∃ x, A[i]? = some x := ⟨_, List.getElem?_eq_getElem (by omega)⟩
    have hq : ∀ b, SpT A (i : Int) key k m (A.set i (withProps x b (pput x.props key k m))) := fun b => by
      unfold SpT
      rw [if_pos hb, show ((i : Int)).toNat = i by omega]
      exact ⟨x, b, hx, rfl⟩
    rw [show spE A.length (i : Int) key = 0 by unfold spE; rw [if_pos hb]]
    rcases hF.props x (List.mem_of_getElem? hx) with ⟨e1, e2⟩ | ⟨b, hpb, _, _⟩
    · refine (setprop_new hF i x hx e1 key hb.2 k m).mono ?_
      rintro e w' ⟨rfl, b, hl⟩
      refine ⟨rfl, _, hq b, ?_⟩
      rw [e2]
      exact hl
    · refine (setprop_old hF i x hx b hpb key hb.2 k m).mono ?_
      rintro e w' ⟨rfl, hl⟩
      exact ⟨rfl, _, hq b, hl⟩
  · rw [show spE A.length n key = 8 by unfold spE; rw [if_neg hb]]
    refine (setprop_unknown hF n key k m hb).mono ?_
    rintro e w' ⟨rfl, hl⟩
    exact ⟨rfl, A, by unfold SpT; rw [if_neg hb], Left.same hF hl⟩
theorem drsetprop (h : Duo W w tb A ob O R) (hl : ∀ y ∈ O, y.props.length ≤ 16384) (n key k m : Int) : Calls Tryd.prog 53 #[.pointer (some ⟨ob, 0, none⟩), .int .i64 n, .int .i64 key, .agg #[.int .i64 k, .int .i64 m]] w fun e w' => e = .returned (.int .i64 (spE O.length n key)) ∧ ∃ O', SpR O n key k m O' ∧ Duo W w' tb A ob O' R := by
  refine (duo_ref h (P := fun e => e = .returned (.int .i64 (spE O.length n key))) (Q := SpR O n key k m) fun lv R' hr => ?_)
  by_cases hb : (0 ≤ n ∧ n < (O.length : Int)) ∧ (0 ≤ key ∧ key < (O.length : Int))
  · obtain ⟨i, rfl⟩ : ∃ i : Nat, n = (i : Int) := ⟨n.toNat, by omega⟩
    obtain ⟨x, hx⟩ : ∃ x, O[i]? = some x := ⟨_, List.getElem?_eq_getElem (by omega)⟩
    rw [show spE O.length (i : Int) key = 0 by unfold spE; rw [if_pos hb]]
    refine (rsetprop_ok hr i x hx key k m hb.2 (hl x (List.mem_of_getElem? hx))).mono ?_
    rintro e w' ⟨rfl, v, ht⟩
    refine ⟨rfl, _, ?_, _, ht⟩
    unfold SpR
    rw [if_pos hb, show ((i : Int)).toNat = i by omega]
    exact ⟨x, v, hx, rfl⟩
  · rw [show spE O.length n key = 8 by unfold spE; rw [if_neg hb]]
    refine (rsetprop_bad hr n key k m hb).mono ?_
    rintro e w' ⟨rfl, ht⟩
    exact ⟨rfl, O, by unfold SpR; rw [if_neg hb], _, ht⟩
theorem dfind (h : Duo W w tb A ob O R) (s : ByteArray) : Calls Tryd.prog 16 #[.pointer (some ⟨tb, 0, none⟩), .string s] w fun e w' => e = .returned (.tuple #[.int .i64 ((find A s).getD 0 : Nat), .bool (find A s).isSome]) ∧ w = w' := by
  obtain ⟨F, lv, h1, _⟩ := h.both
  exact find_any h1 s
theorem drfind (h : Duo W w tb A ob O R) (s : ByteArray) : Calls Tryd.prog 54 #[.pointer (some ⟨ob, 0, none⟩), .string s] w fun e w' => e = .returned (.tuple #[.int .i64 (((findOf 0 O s).getD 0 : Nat) : Int), .bool (findOf 0 O s).isSome]) ∧ w = w' := by
  obtain ⟨F, lv, _, _, h1, _⟩ := h.both
  exact rfind_any h1 s
def DoRes (W : World) (tb ob : Nat) (R : Heap) (e : Ending) (w' : World) : Prop := e = .returned (.bool true) ∧ ∃ A' O', Alike A' O' ∧ Duo W w' tb A' ob O' R
set_option maxRecDepth 100000 in
set_option maxHeartbeats 16000000 in
theorem do_0 (h : Duo W w tb A ob O R) (ha : Alike A O) (hT : Tabs W) (a : Ac3) (hs : a.s.size ≤ 100000) (hk : pickZ a.kd 7 = 0) : Calls Tryd.prog 34 #[.pointer (some ⟨tb, 0, none⟩), .pointer (some ⟨ob, 0, none⟩), a.val] w (DoRes W tb ob R) := by
  have hA := h.box 66 #[.int .i64 a.kd, .int .i64 a.n, .int .i64 a.key, .string a.s, .int .i64 a.wk, .int .i64 a.wn]
  obtain ⟨bk, hbk⟩ : ∃ bk, bk = w.heap.size := ⟨_, rfl⟩
  rw [← hbk] at hA
  have HCEL := hide (fun w' A' O' (hh : Duo W w' tb A' ob O' ((bk, .cells 66 #[.int .i64 a.kd, .int .i64 a.n, .int .i64 a.key, .string a.s, .int .i64 a.wk, .int .i64 a.wn]) :: R)) => (show w'.cell? ⟨bk, 0, none⟩ = some (.int .i64 a.kd) ∧ w'.cell? ⟨bk, 1, none⟩ = some (.int .i64 a.n) ∧ w'.cell? ⟨bk, 2, none⟩ = some (.int .i64 a.key) ∧ w'.cell? ⟨bk, 3, none⟩ = some (.string a.s) ∧ w'.cell? ⟨bk, 4, none⟩ = some (.int .i64 a.wk) ∧ w'.cell? ⟨bk, 5, none⟩ = some (.int .i64 a.wn) from by
    have hb := hh.rest.blk (List.mem_cons_self ..)
    exact ⟨by rw [hb.cell]; rfl, by rw [hb.cell]; rfl, by rw [hb.cell]; rfl, by rw [hb.cell]; rfl, by rw [hb.cell]; rfl, by rw [hb.cell]; rfl⟩))
  have HPK := hide (fun w' => pick_any a.kd 7 w' (by omega) (by omega))
  have hl := ha.len
  rw [hk] at HPK
  obtain ⟨e1, e2, e3⟩ := ha.intern a.s
  obtain ⟨z1, hz1⟩ : ∃ z1, z1 = (rinternM O a.s).1 := ⟨_, rfl⟩
  obtain ⟨z2, hz2⟩ : ∃ z2, z2 = (rinternM O a.s).2.1 := ⟨_, rfl⟩
  obtain ⟨A', hA'⟩ : ∃ A', A' = (internM A a.s).2.2 := ⟨_, rfl⟩
  obtain ⟨O', hO'⟩ : ∃ O', O' = (rinternM O a.s).2.2 := ⟨_, rfl⟩
  have D1 := hide (fun w' (hh : Duo W w' tb A ob O ((bk, .cells 66 #[.int .i64 a.kd, .int .i64 a.n, .int .i64 a.key, .string a.s, .int .i64 a.wk, .int .i64 a.wn]) :: R)) => (show Calls Tryd.prog 12 #[.pointer (some ⟨tb, 0, none⟩), .string a.s] w' (fun e w'' => e = .returned (.tuple #[.int .i64 z1, .int .i64 z2]) ∧ Duo W w'' tb A' ob O ((bk, .cells 66 #[.int .i64 a.kd, .int .i64 a.n, .int .i64 a.key, .string a.s, .int .i64 a.wk, .int .i64 a.wn]) :: R)) from by have := dintern hh hT a.s hs hl; rwa [e1, e2, ← hz1, ← hz2, ← hA'] at this))
  have D2 := hide (fun w' (hh : Duo W w' tb A' ob O ((bk, .cells 66 #[.int .i64 a.kd, .int .i64 a.n, .int .i64 a.key, .string a.s, .int .i64 a.wk, .int .i64 a.wn]) :: R)) => (show Calls Tryd.prog 49 #[.pointer (some ⟨ob, 0, none⟩), .string a.s] w' (fun e w'' => e = .returned (.tuple #[.int .i64 z1, .int .i64 z2]) ∧ Duo W w'' tb A' ob O' ((bk, .cells 66 #[.int .i64 a.kd, .int .i64 a.n, .int .i64 a.key, .string a.s, .int .i64 a.wk, .int .i64 a.wn]) :: R)) from by have := drintern hh a.s hs; rwa [← hz1, ← hz2, ← hO'] at this))
  have HE := hide (show Alike A' O' from hA' ▸ hO' ▸ e3)
  clear h ha hT hs hk hl e1 e2 e3 hz1 hz2 hA' hO'
  go_enter Tryd.func34, Tryd.ntmps34
  go_wp2_with fail
  rw [← hbk]
  clear hbk
  generalize w.alloc (.cells #[.int .i64 a.kd, .int .i64 a.n, .int .i64 a.key, .string a.s, .int .i64 a.wk, .int .i64 a.wn] 66) = w1 at hA ⊢
  obtain ⟨c0, c1, c2, c3, c4, c5⟩ := HCEL.out _ _ _ hA
  have H1 := hide hA
  clear hA
  refine Calls.mono (HPK.out _) ?_
  rintro r w2 ⟨rfl, rfl⟩
  go_wp2_with fail
  refine Calls.mono (D1.out _ H1.out) ?_
  rintro r w3 ⟨rfl, h3⟩
  have H3 := hide h3
  clear h3 c0 c1 c2 c3 c4 c5
  obtain ⟨c0, c1, c2, c3, c4, c5⟩ := HCEL.out _ _ _ H3.out
  go_wp2_with fail
  refine Calls.mono (D2.out _ H3.out) ?_
  rintro r w4 ⟨rfl, h4⟩
  have H4 := hide h4
  clear h4
  go_wp2
  go_ret
  exact ⟨rfl, _, _, HE.out, H4.out.sub (List.sublist_cons_self ..)⟩
set_option maxRecDepth 100000 in
set_option maxHeartbeats 16000000 in
theorem do_1 (h : Duo W w tb A ob O R) (ha : Alike A O) (hT : Tabs W) (a : Ac3) (hs : a.s.size ≤ 100000) (hk : pickZ a.kd 7 = 1) : Calls Tryd.prog 34 #[.pointer (some ⟨tb, 0, none⟩), .pointer (some ⟨ob, 0, none⟩), a.val] w (DoRes W tb ob R) := by
  have hA := h.box 66 #[.int .i64 a.kd, .int .i64 a.n, .int .i64 a.key, .string a.s, .int .i64 a.wk, .int .i64 a.wn]
  obtain ⟨bk, hbk⟩ : ∃ bk, bk = w.heap.size := ⟨_, rfl⟩
  rw [← hbk] at hA
  have HCEL := hide (fun w' A' O' (hh : Duo W w' tb A' ob O' ((bk, .cells 66 #[.int .i64 a.kd, .int .i64 a.n, .int .i64 a.key, .string a.s, .int .i64 a.wk, .int .i64 a.wn]) :: R)) => (show w'.cell? ⟨bk, 0, none⟩ = some (.int .i64 a.kd) ∧ w'.cell? ⟨bk, 1, none⟩ = some (.int .i64 a.n) ∧ w'.cell? ⟨bk, 2, none⟩ = some (.int .i64 a.key) ∧ w'.cell? ⟨bk, 3, none⟩ = some (.string a.s) ∧ w'.cell? ⟨bk, 4, none⟩ = some (.int .i64 a.wk) ∧ w'.cell? ⟨bk, 5, none⟩ = some (.int .i64 a.wn) from by
    have hb := hh.rest.blk (List.mem_cons_self ..)
    exact ⟨by rw [hb.cell]; rfl, by rw [hb.cell]; rfl, by rw [hb.cell]; rfl, by rw [hb.cell]; rfl, by rw [hb.cell]; rfl, by rw [hb.cell]; rfl⟩))
  have HPK := hide (fun w' => pick_any a.kd 7 w' (by omega) (by omega))
  have hl := ha.len
  rw [hk] at HPK
  obtain ⟨e1, e2, e3⟩ := ha.intern a.s
  obtain ⟨z1, hz1⟩ : ∃ z1, z1 = (rinternM O a.s).1 := ⟨_, rfl⟩
  obtain ⟨z2, hz2⟩ : ∃ z2, z2 = (rinternM O a.s).2.1 := ⟨_, rfl⟩
  obtain ⟨A', hA'⟩ : ∃ A', A' = (internM A a.s).2.2 := ⟨_, rfl⟩
  obtain ⟨O', hO'⟩ : ∃ O', O' = (rinternM O a.s).2.2 := ⟨_, rfl⟩
  have D1 := hide (fun w' (hh : Duo W w' tb A ob O ((bk, .cells 66 #[.int .i64 a.kd, .int .i64 a.n, .int .i64 a.key, .string a.s, .int .i64 a.wk, .int .i64 a.wn]) :: R)) => (show Calls Tryd.prog 12 #[.pointer (some ⟨tb, 0, none⟩), .string a.s] w' (fun e w'' => e = .returned (.tuple #[.int .i64 z1, .int .i64 z2]) ∧ Duo W w'' tb A' ob O ((bk, .cells 66 #[.int .i64 a.kd, .int .i64 a.n, .int .i64 a.key, .string a.s, .int .i64 a.wk, .int .i64 a.wn]) :: R)) from by have := dintern hh hT a.s hs hl; rwa [e1, e2, ← hz1, ← hz2, ← hA'] at this))
  have D2 := hide (fun w' (hh : Duo W w' tb A' ob O ((bk, .cells 66 #[.int .i64 a.kd, .int .i64 a.n, .int .i64 a.key, .string a.s, .int .i64 a.wk, .int .i64 a.wn]) :: R)) => (show Calls Tryd.prog 49 #[.pointer (some ⟨ob, 0, none⟩), .string a.s] w' (fun e w'' => e = .returned (.tuple #[.int .i64 z1, .int .i64 z2]) ∧ Duo W w'' tb A' ob O' ((bk, .cells 66 #[.int .i64 a.kd, .int .i64 a.n, .int .i64 a.key, .string a.s, .int .i64 a.wk, .int .i64 a.wn]) :: R)) from by have := drintern hh a.s hs; rwa [← hz1, ← hz2, ← hO'] at this))
  have HE := hide (show Alike A' O' from hA' ▸ hO' ▸ e3)
  clear h ha hT hs hk hl e1 e2 e3 hz1 hz2 hA' hO'
  go_enter Tryd.func34, Tryd.ntmps34
  go_wp2_with fail
  rw [← hbk]
  clear hbk
  generalize w.alloc (.cells #[.int .i64 a.kd, .int .i64 a.n, .int .i64 a.key, .string a.s, .int .i64 a.wk, .int .i64 a.wn] 66) = w1 at hA ⊢
  obtain ⟨c0, c1, c2, c3, c4, c5⟩ := HCEL.out _ _ _ hA
  have H1 := hide hA
  clear hA
  refine Calls.mono (HPK.out _) ?_
  rintro r w2 ⟨rfl, rfl⟩
  go_wp2_with fail
  refine Calls.mono (D1.out _ H1.out) ?_
  rintro r w3 ⟨rfl, h3⟩
  have H3 := hide h3
  clear h3 c0 c1 c2 c3 c4 c5
  obtain ⟨c0, c1, c2, c3, c4, c5⟩ := HCEL.out _ _ _ H3.out
  go_wp2_with fail
  refine Calls.mono (D2.out _ H3.out) ?_
  rintro r w4 ⟨rfl, h4⟩
  have H4 := hide h4
  clear h4
  go_wp2
  go_ret
  exact ⟨rfl, _, _, HE.out, H4.out.sub (List.sublist_cons_self ..)⟩
set_option maxRecDepth 100000 in
set_option maxHeartbeats 16000000 in
theorem do_2 (h : Duo W w tb A ob O R) (ha : Alike A O) (hT : Tabs W) (a : Ac3) (hs : a.s.size ≤ 100000) (hk : pickZ a.kd 7 = 2) : Calls Tryd.prog 34 #[.pointer (some ⟨tb, 0, none⟩), .pointer (some ⟨ob, 0, none⟩), a.val] w (DoRes W tb ob R) := by
  have hA := h.box 66 #[.int .i64 a.kd, .int .i64 a.n, .int .i64 a.key, .string a.s, .int .i64 a.wk, .int .i64 a.wn]
  obtain ⟨bk, hbk⟩ : ∃ bk, bk = w.heap.size := ⟨_, rfl⟩
  rw [← hbk] at hA
  have HCEL := hide (fun w' A' O' (hh : Duo W w' tb A' ob O' ((bk, .cells 66 #[.int .i64 a.kd, .int .i64 a.n, .int .i64 a.key, .string a.s, .int .i64 a.wk, .int .i64 a.wn]) :: R)) => (show w'.cell? ⟨bk, 0, none⟩ = some (.int .i64 a.kd) ∧ w'.cell? ⟨bk, 1, none⟩ = some (.int .i64 a.n) ∧ w'.cell? ⟨bk, 2, none⟩ = some (.int .i64 a.key) ∧ w'.cell? ⟨bk, 3, none⟩ = some (.string a.s) ∧ w'.cell? ⟨bk, 4, none⟩ = some (.int .i64 a.wk) ∧ w'.cell? ⟨bk, 5, none⟩ = some (.int .i64 a.wn) from by
    have hb := hh.rest.blk (List.mem_cons_self ..)
    exact ⟨by rw [hb.cell]; rfl, by rw [hb.cell]; rfl, by rw [hb.cell]; rfl, by rw [hb.cell]; rfl, by rw [hb.cell]; rfl, by rw [hb.cell]; rfl⟩))
  have HPK := hide (fun w' => pick_any a.kd 7 w' (by omega) (by omega))
  have hl := ha.len
  rw [hk] at HPK
  obtain ⟨e1, e2, e3⟩ := ha.fresh a.s
  obtain ⟨z1, hz1⟩ : ∃ z1, z1 = (rfreshM O a.s).1 := ⟨_, rfl⟩
  obtain ⟨z2, hz2⟩ : ∃ z2, z2 = (rfreshM O a.s).2.1 := ⟨_, rfl⟩
  obtain ⟨A', hA'⟩ : ∃ A', A' = (freshM A a.s).2.2 := ⟨_, rfl⟩
  obtain ⟨O', hO'⟩ : ∃ O', O' = (rfreshM O a.s).2.2 := ⟨_, rfl⟩
  have D1 := hide (fun w' (hh : Duo W w' tb A ob O ((bk, .cells 66 #[.int .i64 a.kd, .int .i64 a.n, .int .i64 a.key, .string a.s, .int .i64 a.wk, .int .i64 a.wn]) :: R)) => (show Calls Tryd.prog 14 #[.pointer (some ⟨tb, 0, none⟩), .string a.s] w' (fun e w'' => e = .returned (.tuple #[.int .i64 z1, .int .i64 z2]) ∧ Duo W w'' tb A' ob O ((bk, .cells 66 #[.int .i64 a.kd, .int .i64 a.n, .int .i64 a.key, .string a.s, .int .i64 a.wk, .int .i64 a.wn]) :: R)) from by have := dfresh hh hT a.s hs hl; rwa [e1, e2, ← hz1, ← hz2, ← hA'] at this))
  have D2 := hide (fun w' (hh : Duo W w' tb A' ob O ((bk, .cells 66 #[.int .i64 a.kd, .int .i64 a.n, .int .i64 a.key, .string a.s, .int .i64 a.wk, .int .i64 a.wn]) :: R)) => (show Calls Tryd.prog 50 #[.pointer (some ⟨ob, 0, none⟩), .string a.s] w' (fun e w'' => e = .returned (.tuple #[.int .i64 z1, .int .i64 z2]) ∧ Duo W w'' tb A' ob O' ((bk, .cells 66 #[.int .i64 a.kd, .int .i64 a.n, .int .i64 a.key, .string a.s, .int .i64 a.wk, .int .i64 a.wn]) :: R)) from by have := drfresh hh a.s hs; rwa [← hz1, ← hz2, ← hO'] at this))
  have HE := hide (show Alike A' O' from hA' ▸ hO' ▸ e3)
  clear h ha hT hs hk hl e1 e2 e3 hz1 hz2 hA' hO'
  go_enter Tryd.func34, Tryd.ntmps34
  go_wp2_with fail
  rw [← hbk]
  clear hbk
  generalize w.alloc (.cells #[.int .i64 a.kd, .int .i64 a.n, .int .i64 a.key, .string a.s, .int .i64 a.wk, .int .i64 a.wn] 66) = w1 at hA ⊢
  obtain ⟨c0, c1, c2, c3, c4, c5⟩ := HCEL.out _ _ _ hA
  have H1 := hide hA
  clear hA
  refine Calls.mono (HPK.out _) ?_
  rintro r w2 ⟨rfl, rfl⟩
  go_wp2_with fail
  refine Calls.mono (D1.out _ H1.out) ?_
  rintro r w3 ⟨rfl, h3⟩
  have H3 := hide h3
  clear h3 c0 c1 c2 c3 c4 c5
  obtain ⟨c0, c1, c2, c3, c4, c5⟩ := HCEL.out _ _ _ H3.out
  go_wp2_with fail
  refine Calls.mono (D2.out _ H3.out) ?_
  rintro r w4 ⟨rfl, h4⟩
  have H4 := hide h4
  clear h4
  go_wp2
  go_ret
  exact ⟨rfl, _, _, HE.out, H4.out.sub (List.sublist_cons_self ..)⟩
set_option maxRecDepth 100000 in
set_option maxHeartbeats 16000000 in
theorem do_3 (h : Duo W w tb A ob O R) (ha : Alike A O) (hT : Tabs W) (a : Ac3) (hs : a.s.size ≤ 100000) (hk : pickZ a.kd 7 = 3) : Calls Tryd.prog 34 #[.pointer (some ⟨tb, 0, none⟩), .pointer (some ⟨ob, 0, none⟩), a.val] w (DoRes W tb ob R) := by
  have hA := h.box 66 #[.int .i64 a.kd, .int .i64 a.n, .int .i64 a.key, .string a.s, .int .i64 a.wk, .int .i64 a.wn]
  obtain ⟨bk, hbk⟩ : ∃ bk, bk = w.heap.size := ⟨_, rfl⟩
  rw [← hbk] at hA
  have HCEL := hide (fun w' A' O' (hh : Duo W w' tb A' ob O' ((bk, .cells 66 #[.int .i64 a.kd, .int .i64 a.n, .int .i64 a.key, .string a.s, .int .i64 a.wk, .int .i64 a.wn]) :: R)) => (show w'.cell? ⟨bk, 0, none⟩ = some (.int .i64 a.kd) ∧ w'.cell? ⟨bk, 1, none⟩ = some (.int .i64 a.n) ∧ w'.cell? ⟨bk, 2, none⟩ = some (.int .i64 a.key) ∧ w'.cell? ⟨bk, 3, none⟩ = some (.string a.s) ∧ w'.cell? ⟨bk, 4, none⟩ = some (.int .i64 a.wk) ∧ w'.cell? ⟨bk, 5, none⟩ = some (.int .i64 a.wn) from by
    have hb := hh.rest.blk (List.mem_cons_self ..)
    exact ⟨by rw [hb.cell]; rfl, by rw [hb.cell]; rfl, by rw [hb.cell]; rfl, by rw [hb.cell]; rfl, by rw [hb.cell]; rfl, by rw [hb.cell]; rfl⟩))
  have HPK := hide (fun w' => pick_any a.kd 7 w' (by omega) (by omega))
  have hl := ha.len
  rw [hk] at HPK
  obtain ⟨z1, hz1⟩ : ∃ z1, z1 = mayR O.length a.n := ⟨_, rfl⟩
  obtain ⟨A', hA'⟩ : ∃ A', A' = setA A a.n a.wk a.wn true := ⟨_, rfl⟩
  obtain ⟨O', hO'⟩ : ∃ O', O' = rsetA O a.n a.wk a.wn true := ⟨_, rfl⟩
  have D1 := hide (fun w' (hh : Duo W w' tb A ob O ((bk, .cells 66 #[.int .i64 a.kd, .int .i64 a.n, .int .i64 a.key, .string a.s, .int .i64 a.wk, .int .i64 a.wn]) :: R)) => (show Calls Tryd.prog 21 #[.pointer (some ⟨tb, 0, none⟩), .int .i64 a.n, .agg #[.int .i64 a.wk, .int .i64 a.wn]] w' (fun e w'' => e = .returned (.int .i64 z1) ∧ Duo W w'' tb A' ob O ((bk, .cells 66 #[.int .i64 a.kd, .int .i64 a.n, .int .i64 a.key, .string a.s, .int .i64 a.wk, .int .i64 a.wn]) :: R)) from by have := dsetfunc hh ha.two a.n a.wk a.wn; rwa [ha.length, ← hz1, ← hA'] at this))
  have D2 := hide (fun w' (hh : Duo W w' tb A' ob O ((bk, .cells 66 #[.int .i64 a.kd, .int .i64 a.n, .int .i64 a.key, .string a.s, .int .i64 a.wk, .int .i64 a.wn]) :: R)) => (show Calls Tryd.prog 51 #[.pointer (some ⟨ob, 0, none⟩), .int .i64 a.n, .agg #[.int .i64 a.wk, .int .i64 a.wn]] w' (fun e w'' => e = .returned (.int .i64 z1) ∧ Duo W w'' tb A' ob O' ((bk, .cells 66 #[.int .i64 a.kd, .int .i64 a.n, .int .i64 a.key, .string a.s, .int .i64 a.wk, .int .i64 a.wn]) :: R)) from by have := drsetfunc hh a.n a.wk a.wn; rwa [← hz1, ← hO'] at this))
  have HE := hide (show Alike A' O' from hA' ▸ hO' ▸ ha.set a.n a.wk a.wn true (fun e => by cases e))
  clear h ha hT hs hk hl hz1 hA' hO'
  go_enter Tryd.func34, Tryd.ntmps34
  go_wp2_with fail
  rw [← hbk]
  clear hbk
  generalize w.alloc (.cells #[.int .i64 a.kd, .int .i64 a.n, .int .i64 a.key, .string a.s, .int .i64 a.wk, .int .i64 a.wn] 66) = w1 at hA ⊢
  obtain ⟨c0, c1, c2, c3, c4, c5⟩ := HCEL.out _ _ _ hA
  have H1 := hide hA
  clear hA
  refine Calls.mono (HPK.out _) ?_
  rintro r w2 ⟨rfl, rfl⟩
  go_upto_region 12 with fail
  have H10 := hide (H1.out.below (Below.refl _ _).drew)
  go_region_held3 (fun w' => w'.cell? ⟨bk, 1, none⟩ = some (.int .i64 a.n) ∧ w'.cell? ⟨bk, 2, none⟩ = some (.int .i64 a.key) ∧ w'.cell? ⟨bk, 4, none⟩ = some (.int .i64 a.wk) ∧ w'.cell? ⟨bk, 5, none⟩ = some (.int .i64 a.wn))
    (first | exact ⟨(HCEL.out _ _ _ H10.out).2.1, (HCEL.out _ _ _ H10.out).2.2.1, (HCEL.out _ _ _ H10.out).2.2.2.2.1, (HCEL.out _ _ _ H10.out).2.2.2.2.2⟩ | exact ⟨(HCEL.out _ _ _ H11.out).2.1, (HCEL.out _ _ _ H11.out).2.2.1, (HCEL.out _ _ _ H11.out).2.2.2.2.1, (HCEL.out _ _ _ H11.out).2.2.2.2.2⟩ | exact ⟨(HCEL.out _ _ _ H12.out).2.1, (HCEL.out _ _ _ H12.out).2.2.1, (HCEL.out _ _ _ H12.out).2.2.2.2.1, (HCEL.out _ _ _ H12.out).2.2.2.2.2⟩)
    ((first
      | (go_at_call 21; refine Calls.mono (D1.out _ H10.out) ?_; rintro e w11 ⟨rfl, h11⟩; have H11 := hide h11; clear h11)
      | (go_at_call 51; refine Calls.mono (D2.out _ H11.out) ?_; rintro e w12 ⟨rfl, h12⟩; have H12 := hide h12; clear h12)))
  go_wp2
  go_ret
  exact ⟨rfl, _, _, HE.out, H12.out.sub (List.sublist_cons_self ..)⟩
set_option maxRecDepth 100000 in
set_option maxHeartbeats 16000000 in
theorem do_4 (h : Duo W w tb A ob O R) (ha : Alike A O) (hT : Tabs W) (a : Ac3) (hs : a.s.size ≤ 100000) (hk : pickZ a.kd 7 = 4) : Calls Tryd.prog 34 #[.pointer (some ⟨tb, 0, none⟩), .pointer (some ⟨ob, 0, none⟩), a.val] w (DoRes W tb ob R) := by
  have hA := h.box 66 #[.int .i64 a.kd, .int .i64 a.n, .int .i64 a.key, .string a.s, .int .i64 a.wk, .int .i64 a.wn]
  obtain ⟨bk, hbk⟩ : ∃ bk, bk = w.heap.size := ⟨_, rfl⟩
  rw [← hbk] at hA
  have HCEL := hide (fun w' A' O' (hh : Duo W w' tb A' ob O' ((bk, .cells 66 #[.int .i64 a.kd, .int .i64 a.n, .int .i64 a.key, .string a.s, .int .i64 a.wk, .int .i64 a.wn]) :: R)) => (show w'.cell? ⟨bk, 0, none⟩ = some (.int .i64 a.kd) ∧ w'.cell? ⟨bk, 1, none⟩ = some (.int .i64 a.n) ∧ w'.cell? ⟨bk, 2, none⟩ = some (.int .i64 a.key) ∧ w'.cell? ⟨bk, 3, none⟩ = some (.string a.s) ∧ w'.cell? ⟨bk, 4, none⟩ = some (.int .i64 a.wk) ∧ w'.cell? ⟨bk, 5, none⟩ = some (.int .i64 a.wn) from by
    have hb := hh.rest.blk (List.mem_cons_self ..)
    exact ⟨by rw [hb.cell]; rfl, by rw [hb.cell]; rfl, by rw [hb.cell]; rfl, by rw [hb.cell]; rfl, by rw [hb.cell]; rfl, by rw [hb.cell]; rfl⟩))
  have HPK := hide (fun w' => pick_any a.kd 7 w' (by omega) (by omega))
  have hl := ha.len
  rw [hk] at HPK
  obtain ⟨z1, hz1⟩ : ∃ z1, z1 = mayR O.length a.n := ⟨_, rfl⟩
  obtain ⟨A', hA'⟩ : ∃ A', A' = setA A a.n 0 0 false := ⟨_, rfl⟩
  obtain ⟨O', hO'⟩ : ∃ O', O' = rsetA O a.n 0 0 false := ⟨_, rfl⟩
  have D1 := hide (fun w' (hh : Duo W w' tb A ob O ((bk, .cells 66 #[.int .i64 a.kd, .int .i64 a.n, .int .i64 a.key, .string a.s, .int .i64 a.wk, .int .i64 a.wn]) :: R)) => (show Calls Tryd.prog 29 #[.pointer (some ⟨tb, 0, none⟩), .int .i64 a.n] w' (fun e w'' => e = .returned (.int .i64 z1) ∧ Duo W w'' tb A' ob O ((bk, .cells 66 #[.int .i64 a.kd, .int .i64 a.n, .int .i64 a.key, .string a.s, .int .i64 a.wk, .int .i64 a.wn]) :: R)) from by have := dclearfunc hh ha.two a.n; rwa [ha.length, ← hz1, ← hA'] at this))
  have D2 := hide (fun w' (hh : Duo W w' tb A' ob O ((bk, .cells 66 #[.int .i64 a.kd, .int .i64 a.n, .int .i64 a.key, .string a.s, .int .i64 a.wk, .int .i64 a.wn]) :: R)) => (show Calls Tryd.prog 52 #[.pointer (some ⟨ob, 0, none⟩), .int .i64 a.n] w' (fun e w'' => e = .returned (.int .i64 z1) ∧ Duo W w'' tb A' ob O' ((bk, .cells 66 #[.int .i64 a.kd, .int .i64 a.n, .int .i64 a.key, .string a.s, .int .i64 a.wk, .int .i64 a.wn]) :: R)) from by have := drclearfunc hh a.n; rwa [← hz1, ← hO'] at this))
  have HE := hide (show Alike A' O' from hA' ▸ hO' ▸ ha.set a.n 0 0 false (fun _ => ⟨rfl, rfl⟩))
  clear h ha hT hs hk hl hz1 hA' hO'
  go_enter Tryd.func34, Tryd.ntmps34
  go_wp2_with fail
  rw [← hbk]
  clear hbk
  generalize w.alloc (.cells #[.int .i64 a.kd, .int .i64 a.n, .int .i64 a.key, .string a.s, .int .i64 a.wk, .int .i64 a.wn] 66) = w1 at hA ⊢
  obtain ⟨c0, c1, c2, c3, c4, c5⟩ := HCEL.out _ _ _ hA
  have H1 := hide hA
  clear hA
  refine Calls.mono (HPK.out _) ?_
  rintro r w2 ⟨rfl, rfl⟩
  go_upto_region 14 with fail
  have H10 := hide (H1.out.below (Below.refl _ _).drew)
  go_region_held3 (fun w' => w'.cell? ⟨bk, 1, none⟩ = some (.int .i64 a.n) ∧ w'.cell? ⟨bk, 2, none⟩ = some (.int .i64 a.key) ∧ w'.cell? ⟨bk, 4, none⟩ = some (.int .i64 a.wk) ∧ w'.cell? ⟨bk, 5, none⟩ = some (.int .i64 a.wn))
    (first | exact ⟨(HCEL.out _ _ _ H10.out).2.1, (HCEL.out _ _ _ H10.out).2.2.1, (HCEL.out _ _ _ H10.out).2.2.2.2.1, (HCEL.out _ _ _ H10.out).2.2.2.2.2⟩ | exact ⟨(HCEL.out _ _ _ H11.out).2.1, (HCEL.out _ _ _ H11.out).2.2.1, (HCEL.out _ _ _ H11.out).2.2.2.2.1, (HCEL.out _ _ _ H11.out).2.2.2.2.2⟩ | exact ⟨(HCEL.out _ _ _ H12.out).2.1, (HCEL.out _ _ _ H12.out).2.2.1, (HCEL.out _ _ _ H12.out).2.2.2.2.1, (HCEL.out _ _ _ H12.out).2.2.2.2.2⟩)
    ((first
      | (go_at_call 29; refine Calls.mono (D1.out _ H10.out) ?_; rintro e w11 ⟨rfl, h11⟩; have H11 := hide h11; clear h11)
      | (go_at_call 52; refine Calls.mono (D2.out _ H11.out) ?_; rintro e w12 ⟨rfl, h12⟩; have H12 := hide h12; clear h12)))
  go_wp2
  go_ret
  exact ⟨rfl, _, _, HE.out, H12.out.sub (List.sublist_cons_self ..)⟩
set_option maxRecDepth 100000 in
set_option maxHeartbeats 16000000 in
theorem do_5 (h : Duo W w tb A ob O R) (ha : Alike A O) (hT : Tabs W) (a : Ac3) (hs : a.s.size ≤ 100000) (hk : pickZ a.kd 7 = 5) : Calls Tryd.prog 34 #[.pointer (some ⟨tb, 0, none⟩), .pointer (some ⟨ob, 0, none⟩), a.val] w (DoRes W tb ob R) := by
  have hA := h.box 66 #[.int .i64 a.kd, .int .i64 a.n, .int .i64 a.key, .string a.s, .int .i64 a.wk, .int .i64 a.wn]
  obtain ⟨bk, hbk⟩ : ∃ bk, bk = w.heap.size := ⟨_, rfl⟩
  rw [← hbk] at hA
  have HCEL := hide (fun w' A' O' (hh : Duo W w' tb A' ob O' ((bk, .cells 66 #[.int .i64 a.kd, .int .i64 a.n, .int .i64 a.key, .string a.s, .int .i64 a.wk, .int .i64 a.wn]) :: R)) => (show w'.cell? ⟨bk, 0, none⟩ = some (.int .i64 a.kd) ∧ w'.cell? ⟨bk, 1, none⟩ = some (.int .i64 a.n) ∧ w'.cell? ⟨bk, 2, none⟩ = some (.int .i64 a.key) ∧ w'.cell? ⟨bk, 3, none⟩ = some (.string a.s) ∧ w'.cell? ⟨bk, 4, none⟩ = some (.int .i64 a.wk) ∧ w'.cell? ⟨bk, 5, none⟩ = some (.int .i64 a.wn) from by
    have hb := hh.rest.blk (List.mem_cons_self ..)
    exact ⟨by rw [hb.cell]; rfl, by rw [hb.cell]; rfl, by rw [hb.cell]; rfl, by rw [hb.cell]; rfl, by rw [hb.cell]; rfl, by rw [hb.cell]; rfl⟩))
  have HPK := hide (fun w' => pick_any a.kd 7 w' (by omega) (by omega))
  have hl := ha.len
  rw [hk] at HPK
  obtain ⟨z1, hz1⟩ : ∃ z1, z1 = spE O.length a.n a.key := ⟨_, rfl⟩
  have hrl := ha.rlen
  have D1 := hide (fun w' (hh : Duo W w' tb A ob O ((bk, .cells 66 #[.int .i64 a.kd, .int .i64 a.n, .int .i64 a.key, .string a.s, .int .i64 a.wk, .int .i64 a.wn]) :: R)) => (show Calls Tryd.prog 26 #[.pointer (some ⟨tb, 0, none⟩), .int .i64 a.n, .int .i64 a.key, .agg #[.int .i64 a.wk, .int .i64 a.wn]] w' (fun e w'' => e = .returned (.int .i64 z1) ∧ ∃ A', SpT A a.n a.key a.wk a.wn A' ∧ Duo W w'' tb A' ob O ((bk, .cells 66 #[.int .i64 a.kd, .int .i64 a.n, .int .i64 a.key, .string a.s, .int .i64 a.wk, .int .i64 a.wn]) :: R)) from by have := dsetprop hh a.n a.key a.wk a.wn; rwa [ha.length, ← hz1] at this))
  have D2 := hide (fun w' A' (hh : Duo W w' tb A' ob O ((bk, .cells 66 #[.int .i64 a.kd, .int .i64 a.n, .int .i64 a.key, .string a.s, .int .i64 a.wk, .int .i64 a.wn]) :: R)) => (show Calls Tryd.prog 53 #[.pointer (some ⟨ob, 0, none⟩), .int .i64 a.n, .int .i64 a.key, .agg #[.int .i64 a.wk, .int .i64 a.wn]] w' (fun e w'' => e = .returned (.int .i64 z1) ∧ ∃ O', SpR O a.n a.key a.wk a.wn O' ∧ Duo W w'' tb A' ob O' ((bk, .cells 66 #[.int .i64 a.kd, .int .i64 a.n, .int .i64 a.key, .string a.s, .int .i64 a.wk, .int .i64 a.wn]) :: R)) from by have := drsetprop hh hrl a.n a.key a.wk a.wn; rwa [← hz1] at this))
  have HE := hide (fun A' O' (h1 : SpT A a.n a.key a.wk a.wn A') (h2 : SpR O a.n a.key a.wk a.wn O') => ha.sp h1 h2)
  clear h ha hT hs hk hl hz1 hrl
  go_enter Tryd.func34, Tryd.ntmps34
  go_wp2_with fail
  rw [← hbk]
  clear hbk
  generalize w.alloc (.cells #[.int .i64 a.kd, .int .i64 a.n, .int .i64 a.key, .string a.s, .int .i64 a.wk, .int .i64 a.wn] 66) = w1 at hA ⊢
  obtain ⟨c0, c1, c2, c3, c4, c5⟩ := HCEL.out _ _ _ hA
  have H1 := hide hA
  clear hA
  refine Calls.mono (HPK.out _) ?_
  rintro r w2 ⟨rfl, rfl⟩
  go_upto_region 16 with fail
  have H10 := hide (H1.out.below (Below.refl _ _).drew)
  go_region_held3 (fun w' => w'.cell? ⟨bk, 1, none⟩ = some (.int .i64 a.n) ∧ w'.cell? ⟨bk, 2, none⟩ = some (.int .i64 a.key) ∧ w'.cell? ⟨bk, 4, none⟩ = some (.int .i64 a.wk) ∧ w'.cell? ⟨bk, 5, none⟩ = some (.int .i64 a.wn))
    (first | exact ⟨(HCEL.out _ _ _ H10.out).2.1, (HCEL.out _ _ _ H10.out).2.2.1, (HCEL.out _ _ _ H10.out).2.2.2.2.1, (HCEL.out _ _ _ H10.out).2.2.2.2.2⟩ | exact ⟨(HCEL.out _ _ _ H11.out).2.1, (HCEL.out _ _ _ H11.out).2.2.1, (HCEL.out _ _ _ H11.out).2.2.2.2.1, (HCEL.out _ _ _ H11.out).2.2.2.2.2⟩ | exact ⟨(HCEL.out _ _ _ H12.out).2.1, (HCEL.out _ _ _ H12.out).2.2.1, (HCEL.out _ _ _ H12.out).2.2.2.2.1, (HCEL.out _ _ _ H12.out).2.2.2.2.2⟩)
    ((first
      | (go_at_call 26; refine Calls.mono (D1.out _ H10.out) ?_; rintro e w11 ⟨rfl, A', hq1, h11⟩; have H11 := hide h11; have HQ1 := hide hq1; clear h11 hq1)
      | (go_at_call 53; refine Calls.mono (D2.out _ _ H11.out) ?_; rintro e w12 ⟨rfl, O', hq2, h12⟩; have H12 := hide h12; have HQ2 := hide hq2; clear h12 hq2)))
  go_wp2
  go_ret
  exact ⟨rfl, _, _, HE.out _ _ HQ1.out HQ2.out, H12.out.sub (List.sublist_cons_self ..)⟩
set_option maxRecDepth 100000 in
set_option maxHeartbeats 16000000 in
theorem do_6 (h : Duo W w tb A ob O R) (ha : Alike A O) (hT : Tabs W) (a : Ac3) (hs : a.s.size ≤ 100000) (hk : pickZ a.kd 7 = 6) : Calls Tryd.prog 34 #[.pointer (some ⟨tb, 0, none⟩), .pointer (some ⟨ob, 0, none⟩), a.val] w (DoRes W tb ob R) := by
  have hA := h.box 66 #[.int .i64 a.kd, .int .i64 a.n, .int .i64 a.key, .string a.s, .int .i64 a.wk, .int .i64 a.wn]
  obtain ⟨bk, hbk⟩ : ∃ bk, bk = w.heap.size := ⟨_, rfl⟩
  rw [← hbk] at hA
  have HCEL := hide (fun w' A' O' (hh : Duo W w' tb A' ob O' ((bk, .cells 66 #[.int .i64 a.kd, .int .i64 a.n, .int .i64 a.key, .string a.s, .int .i64 a.wk, .int .i64 a.wn]) :: R)) => (show w'.cell? ⟨bk, 0, none⟩ = some (.int .i64 a.kd) ∧ w'.cell? ⟨bk, 1, none⟩ = some (.int .i64 a.n) ∧ w'.cell? ⟨bk, 2, none⟩ = some (.int .i64 a.key) ∧ w'.cell? ⟨bk, 3, none⟩ = some (.string a.s) ∧ w'.cell? ⟨bk, 4, none⟩ = some (.int .i64 a.wk) ∧ w'.cell? ⟨bk, 5, none⟩ = some (.int .i64 a.wn) from by
    have hb := hh.rest.blk (List.mem_cons_self ..)
    exact ⟨by rw [hb.cell]; rfl, by rw [hb.cell]; rfl, by rw [hb.cell]; rfl, by rw [hb.cell]; rfl, by rw [hb.cell]; rfl, by rw [hb.cell]; rfl⟩))
  have HPK := hide (fun w' => pick_any a.kd 7 w' (by omega) (by omega))
  have hl := ha.len
  rw [hk] at HPK
  obtain ⟨z1, hz1⟩ : ∃ z1 : Int, z1 = (((findOf 0 O a.s).getD 0 : Nat) : Int) := ⟨_, rfl⟩
  obtain ⟨b1, hb1⟩ : ∃ b1, b1 = (findOf 0 O a.s).isSome := ⟨_, rfl⟩
  have D1 := hide (fun w' (hh : Duo W w' tb A ob O ((bk, .cells 66 #[.int .i64 a.kd, .int .i64 a.n, .int .i64 a.key, .string a.s, .int .i64 a.wk, .int .i64 a.wn]) :: R)) => (show Calls Tryd.prog 16 #[.pointer (some ⟨tb, 0, none⟩), .string a.s] w' (fun e w'' => e = .returned (.tuple #[.int .i64 z1, .bool b1]) ∧ w' = w'') from by have := dfind hh a.s; rwa [ha.find, ← hz1, ← hb1] at this))
  have D2 := hide (fun w' (hh : Duo W w' tb A ob O ((bk, .cells 66 #[.int .i64 a.kd, .int .i64 a.n, .int .i64 a.key, .string a.s, .int .i64 a.wk, .int .i64 a.wn]) :: R)) => (show Calls Tryd.prog 54 #[.pointer (some ⟨ob, 0, none⟩), .string a.s] w' (fun e w'' => e = .returned (.tuple #[.int .i64 z1, .bool b1]) ∧ w' = w'') from by have := drfind hh a.s; rwa [← hz1, ← hb1] at this))
  have HE := hide ha
  clear h ha hT hs hk hl hz1 hb1
  go_enter Tryd.func34, Tryd.ntmps34
  go_wp2_with fail
  rw [← hbk]
  clear hbk
  generalize w.alloc (.cells #[.int .i64 a.kd, .int .i64 a.n, .int .i64 a.key, .string a.s, .int .i64 a.wk, .int .i64 a.wn] 66) = w1 at hA ⊢
  obtain ⟨c0, c1, c2, c3, c4, c5⟩ := HCEL.out _ _ _ hA
  have H1 := hide hA
  clear hA
  refine Calls.mono (HPK.out _) ?_
  rintro r w2 ⟨rfl, rfl⟩
  go_wp2_with fail
  refine Calls.mono (D1.out _ H1.out) ?_
  rintro r w3 ⟨rfl, rfl⟩
  go_wp2_with fail
  refine Calls.mono (D2.out _ H1.out) ?_
  rintro r w4 ⟨rfl, rfl⟩
  go_wp2
  go_ret
  exact ⟨rfl, _, _, HE.out, H1.out.sub (List.sublist_cons_self ..)⟩
theorem do_any (h : Duo W w tb A ob O R) (ha : Alike A O) (hT : Tabs W) (a : Ac3) (hs : a.s.size ≤ 100000) : Calls Tryd.prog 34 #[.pointer (some ⟨tb, 0, none⟩), .pointer (some ⟨ob, 0, none⟩), a.val] w (DoRes W tb ob R) := by
  have h1 := pickZ_ge (n := a.kd) (k := 7) (by omega)
  have h2 := pickZ_lt (n := a.kd) (k := 7) (by omega)
  by_cases k0 : pickZ a.kd 7 = 0
  · exact do_0 h ha hT a hs k0
  by_cases k1 : pickZ a.kd 7 = 1
  · exact do_1 h ha hT a hs k1
  by_cases k2 : pickZ a.kd 7 = 2
  · exact do_2 h ha hT a hs k2
  by_cases k3 : pickZ a.kd 7 = 3
  · exact do_3 h ha hT a hs k3
  by_cases k4 : pickZ a.kd 7 = 4
  · exact do_4 h ha hT a hs k4
  by_cases k5 : pickZ a.kd 7 = 5
  · exact do_5 h ha hT a hs k5
  exact do_6 h ha hT a hs (by omega)
end
end Go.Proofs.YtkhjdhoaephdkaaDoor
