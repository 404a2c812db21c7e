/- tells: a table and the reference tell the same of a symbol. No condition but those written. -/
import Derived.Test.YtkhjdhoaephdkaaDoorNsg
namespace Go.Proofs.YtkhjdhoaephdkaaDoor
open Go.RowKit

structure TlAt (W w : World) (tb : Nat) (A : List Sym) (F : Nat → Prop) (ob : Nat) (lv : Value) (O : List RSym) (R : Heap) : Prop where
  t : TableIs w tb A F
  r : RAt W w ob lv O R
section
variable {W w w' : World} {tb ob : Nat} {A : List Sym} {F : Nat → Prop} {O : List RSym} {R : Heap} {lv : Value}
theorem TlAt.below (h : TlAt W w tb A F ob lv O R) (hb : Below w.heap.size w w') : TlAt W w' tb A F ob lv O R := ⟨h.t.below hb, h.r.below hb⟩
theorem TlAt.box (h : TlAt W w tb A F ob lv O R) (t : TypeId) (cs : Array Value) : TlAt W (w.alloc (.cells cs t)) tb A F ob lv O ((w.heap.size, .cells t cs) :: R) := ⟨h.t.below ((Below.refl _ _).alloc (Nat.le_refl _) _), h.r.box t cs⟩
theorem funcR_shape (o : Option (Bool × Int × Int)) : ∃ a b t, funcR o = .tuple #[.agg #[.int .i64 a, .int .i64 b], .bool t] := by
  unfold funcR
  split
  · exact ⟨_, _, _, rfl⟩
  · exact ⟨_, _, _, rfl⟩
theorem propR_shape (o : Option (Int × Int)) : ∃ a b t, propR o = .tuple #[.agg #[.int .i64 a, .int .i64 b], .bool t] := by
  unfold propR
  split
  · exact ⟨_, _, _, rfl⟩
  · exact ⟨_, _, _, rfl⟩
theorem Alike.fields (h : Alike A O) (n : Int) :
    (((rget A n).map Sym.name).getD ⟨#[]⟩) = (((rget O n).map RSym.nm).getD ⟨#[]⟩) ∧ (rget A n).isSome = (rget O n).isSome ∧ (((rget A n).map Sym.intd).getD false) = (((rget O n).map RSym.it).getD false) ∧
    (rget A n).map (fun x => (x.fb, x.fk, x.fn)) = (rget O n).map (fun x => (x.has, x.fk, x.fn)) ∧ (∀ key, pgAt ((rget A n).map Sym.props) key = pgAt ((rget O n).map RSym.props) key) ∧ ((rget A n).map fun x => sortP x.props).getD [] = ((rget O n).map RSym.props).getD [] := by
  have hg := h.get n
  cases ha : rget A n with
  | none =>
    rw [ha] at hg
    cases ho : rget O n with
    | none => exact ⟨rfl, rfl, rfl, rfl, fun _ => rfl, rfl⟩
    | some y => rw [ho] at hg; cases hg
  | some x =>
    rw [ha] at hg
    cases ho : rget O n with
    | none => rw [ho] at hg; cases hg
    | some y =>
      rw [ho] at hg
      have e : x.ps = y.ps := by simpa using hg
      have e1 : x.name = y.nm := congrArg PS.nm e
      have e2 : x.intd = y.it := congrArg PS.it e
      have e3 : x.fb = y.has := congrArg PS.has e
      have e4 : x.fk = y.fk := congrArg PS.fk e
      have e5 : x.fn = y.fn := congrArg PS.fn e
      have e6 : sortP x.props = y.props := congrArg PS.props e
      obtain ⟨i, _, hi, _⟩ := rget_some ha
      have hok := h.ok x (List.mem_of_getElem? hi)
      refine ⟨e1, rfl, e2, by simp [e3, e4, e5], fun key => ?_, e6⟩
      show pget x.props key = pget y.props key
      rw [← e6, pget_sort hok.nd]
theorem Alike.rlen (h : Alike A O) : ∀ y ∈ O, y.props.length ≤ 16384 := fun y hy => by
  obtain ⟨i, hi⟩ := List.mem_iff_getElem?.1 hy
  have hl := h.length
  have hlt := (List.getElem?_eq_some_iff.1 hi).1
  obtain ⟨y', hy', e⟩ := h.at_ (i := i) (x := A[i]) (List.getElem?_eq_getElem (by omega))
  rw [hi] at hy'
  cases hy'
  have e6 : sortP A[i].props = y.props := congrArg PS.props e
  rw [← e6, sortP_len]
  exact (h.ok _ (List.getElem_mem _)).len
set_option maxRecDepth 100000 in
set_option maxHeartbeats 16000000 in
theorem tells_any (h : TlAt W w tb A F ob lv O R) (ha : Alike A O) (n key : Int) : Calls Tryd.prog 35 #[.pointer (some ⟨tb, 0, none⟩), .pointer (some ⟨ob, 0, none⟩), .int .i64 n, .int .i64 key] w fun e w' => e = .returned (.bool true) ∧ Below w.heap.size w w' := by
  obtain ⟨f1, f2, f3, f4, f5, f6⟩ := ha.fields n
  have hrl := ha.rlen
  obtain ⟨sN, hsN⟩ : ∃ sN, sN = (((rget O n).map RSym.nm).getD ⟨#[]⟩) := ⟨_, rfl⟩
  obtain ⟨bN, hbN⟩ : ∃ bN, bN = (rget O n).isSome := ⟨_, rfl⟩
  obtain ⟨bI, hbI⟩ : ∃ bI, bI = (((rget O n).map RSym.it).getD false) := ⟨_, rfl⟩
  obtain ⟨fa, fb, ft, hf⟩ := funcR_shape ((rget O n).map fun x => (x.has, x.fk, x.fn))
  obtain ⟨pa, pb, pt, hp⟩ := propR_shape (pgAt ((rget O n).map RSym.props) key)
  obtain ⟨Lp, hLp⟩ : ∃ Lp, Lp = ((rget O n).map RSym.props).getD [] := ⟨_, rfl⟩
  have hlp : Lp.length ≤ 16384 := by
    rw [hLp]
    cases ho : rget O n with
    | none => simp
    | some y =>
      obtain ⟨i, _, hi, _⟩ := rget_some ho
      exact hrl y (List.mem_of_getElem? hi)
  have C1 := hide (fun w' (R' : Heap) (hh : TlAt W w' tb A F ob lv O R') => (show Calls Tryd.prog 18 #[.pointer (some ⟨tb, 0, none⟩), .int .i64 n] w' (fun e w'' => e = .returned (.tuple #[.string sN, .bool bN]) ∧ w' = w'') from by have := name_all hh.t n; rwa [f1, f2, ← hsN, ← hbN] at this))
  have C2 := hide (fun w' (R' : Heap) (hh : TlAt W w' tb A F ob lv O R') => (show Calls Tryd.prog 55 #[.pointer (some ⟨ob, 0, none⟩), .int .i64 n] w' (fun e w'' => e = .returned (.tuple #[.string sN, .bool bN]) ∧ w' = w'') from by have := rname_any hh.r n; rwa [← hsN, ← hbN] at this))
  have C3 := hide (fun w' (R' : Heap) (hh : TlAt W w' tb A F ob lv O R') => (show Calls Tryd.prog 27 #[.pointer (some ⟨tb, 0, none⟩), .int .i64 n] w' (fun e w'' => e = .returned (.tuple #[.agg #[.int .i64 fa, .int .i64 fb], .bool ft]) ∧ Below w'.heap.size w' w'') from by have := func_all hh.t (fun x hx => (ha.ok x hx).fn) n; rwa [f4, hf] at this))
  have C4 := hide (fun w' (R' : Heap) (hh : TlAt W w' tb A F ob lv O R') => (show Calls Tryd.prog 56 #[.pointer (some ⟨ob, 0, none⟩), .int .i64 n] w' (fun e w'' => e = .returned (.tuple #[.agg #[.int .i64 fa, .int .i64 fb], .bool ft]) ∧ Below w'.heap.size w' w'') from by have := rfunc_any hh.r n; rwa [hf] at this))
  have C5 := hide (fun w' (R' : Heap) (hh : TlAt W w' tb A F ob lv O R') => (show Calls Tryd.prog 28 #[.pointer (some ⟨tb, 0, none⟩), .int .i64 n, .int .i64 key] w' (fun e w'' => e = .returned (.tuple #[.agg #[.int .i64 pa, .int .i64 pb], .bool pt]) ∧ Below w'.heap.size w' w'') from by have := prop_all hh.t n key; rwa [f5, hp] at this))
  have C6 := hide (fun w' (R' : Heap) (hh : TlAt W w' tb A F ob lv O R') => (show Calls Tryd.prog 57 #[.pointer (some ⟨ob, 0, none⟩), .int .i64 n, .int .i64 key] w' (fun e w'' => e = .returned (.tuple #[.agg #[.int .i64 pa, .int .i64 pb], .bool pt]) ∧ Below w'.heap.size w' w'') from by have := rprop_any hh.r n key; rwa [hp] at this))
  have C7 := hide (fun w' (R' : Heap) (hh : TlAt W w' tb A F ob lv O R') => (show Calls Tryd.prog 31 #[.pointer (some ⟨tb, 0, none⟩), .int .i64 n] w' (PrRes w' Lp) from by have := props_all hh.t ha.ok n; rwa [f6, ← hLp] at this))
  have C8 := hide (fun w' (R' : Heap) (hh : TlAt W w' tb A F ob lv O R') => (show Calls Tryd.prog 58 #[.pointer (some ⟨ob, 0, none⟩), .int .i64 n] w' (PrRes w' Lp) from by have := rprops_any hh.r n hrl; rwa [← hLp] at this))
  have C9 := hide (fun w' (R' : Heap) (hh : TlAt W w' tb A F ob lv O R') => (show Calls Tryd.prog 17 #[.pointer (some ⟨tb, 0, none⟩), .int .i64 n] w' (fun e w'' => e = .returned (.bool bI) ∧ w' = w'') from by have := interned_all hh.t n; rwa [f3, ← hbI] at this))
  have C10 := hide (fun w' (R' : Heap) (hh : TlAt W w' tb A F ob lv O R') => (show Calls Tryd.prog 59 #[.pointer (some ⟨ob, 0, none⟩), .int .i64 n] w' (fun e w'' => e = .returned (.bool bI) ∧ w' = w'') from by have := rinterned_any hh.r n; rwa [← hbI] at this))
  have CS := hide (fun w' v1 v2 (h1 : Rd w' v1 3 Lp.length (rows pcells Lp)) (h2 : Rd w' v2 3 Lp.length (rows pcells Lp)) => (show Calls Tryd.prog 30 #[v1, v2] w' (fun e w'' => e = .returned (.bool true) ∧ ∃ q, w'' = w'.drewN q) from by
    have := same_props Lp Lp v1 v2 w' h1 h2 (by omega) (by omega)
    rwa [show decide (Lp = Lp) = true from decide_eq_true rfl] at this))
  have H := hide h
  have HB := hide (Below.refl w.heap.size w)
  clear h ha f1 f2 f3 f4 f5 f6 hrl hsN hbN hbI hf hp hLp
  go_enter Tryd.func35, Tryd.ntmps35
  go_wp2_with fail
  refine (Calls.mono (C1.out _ _ H.out)) ?_
  rintro r w1 ⟨rfl, rfl⟩
  go_wp2_with fail
  refine (Calls.mono (C2.out _ _ H.out)) ?_
  rintro r w1 ⟨rfl, rfl⟩
  go_wp2_with fail
  refine (Calls.mono (C3.out _ _ H.out)) ?_
  rintro r w3 ⟨rfl, b3⟩
  have H3 := hide ((H.out.below b3).box 44 #[.int .i64 fa, .int .i64 fb])
  have HB3 := hide (b3.alloc b3.size (.cells #[.int .i64 fa, .int .i64 fb] 44))
  clear b3
  go_wp2_with fail
  generalize w3.alloc (.cells #[.int .i64 fa, .int .i64 fb] 44) = w4 at H3 HB3 ⊢
  generalize w3.heap.size = x1 at H3 ⊢
  refine Calls.mono (C4.out _ _ H3.out) ?_
  rintro r w5 ⟨rfl, b5⟩
  have H5 := hide ((H3.out.below b5).box 44 #[.int .i64 fa, .int .i64 fb])
  have HB5 := hide ((HB3.out.trans (b5.mono HB3.out.size)).alloc (HB3.out.trans (b5.mono HB3.out.size)).size (.cells #[.int .i64 fa, .int .i64 fb] 44))
  clear b5
  go_wp2_with fail
  generalize w5.alloc (.cells #[.int .i64 fa, .int .i64 fb] 44) = w6 at H5 HB5 ⊢
  generalize w5.heap.size = x2 at H5 ⊢
  refine Calls.mono (C5.out _ _ H5.out) ?_
  rintro r w7 ⟨rfl, b7⟩
  have H7 := hide ((H5.out.below b7).box 44 #[.int .i64 pa, .int .i64 pb])
  have HB7 := hide ((HB5.out.trans (b7.mono HB5.out.size)).alloc (HB5.out.trans (b7.mono HB5.out.size)).size (.cells #[.int .i64 pa, .int .i64 pb] 44))
  clear b7
  go_wp2_with fail
  generalize w7.alloc (.cells #[.int .i64 pa, .int .i64 pb] 44) = w8 at H7 HB7 ⊢
  generalize w7.heap.size = x3 at H7 ⊢
  refine Calls.mono (C6.out _ _ H7.out) ?_
  rintro r w9 ⟨rfl, b9⟩
  have H9 := hide ((H7.out.below b9).box 44 #[.int .i64 pa, .int .i64 pb])
  have HB9 := hide ((HB7.out.trans (b9.mono HB7.out.size)).alloc (HB7.out.trans (b9.mono HB7.out.size)).size (.cells #[.int .i64 pa, .int .i64 pb] 44))
  clear b9 H H3 H5 H7 HB HB3 HB5 HB7
  have HC := hide (show (w9.alloc (.cells #[.int .i64 pa, .int .i64 pb] 44)).cell? ⟨x1, 0, none⟩ = some (.int .i64 fa) ∧ (w9.alloc (.cells #[.int .i64 pa, .int .i64 pb] 44)).cell? ⟨x1, 1, none⟩ = some (.int .i64 fb) ∧ (w9.alloc (.cells #[.int .i64 pa, .int .i64 pb] 44)).cell? ⟨x2, 0, none⟩ = some (.int .i64 fa) ∧ (w9.alloc (.cells #[.int .i64 pa, .int .i64 pb] 44)).cell? ⟨x2, 1, none⟩ = some (.int .i64 fb) ∧ (w9.alloc (.cells #[.int .i64 pa, .int .i64 pb] 44)).cell? ⟨x3, 0, none⟩ = some (.int .i64 pa) ∧ (w9.alloc (.cells #[.int .i64 pa, .int .i64 pb] 44)).cell? ⟨x3, 1, none⟩ = some (.int .i64 pb) ∧ (w9.alloc (.cells #[.int .i64 pa, .int .i64 pb] 44)).cell? ⟨w9.heap.size, 0, none⟩ = some (.int .i64 pa) ∧ (w9.alloc (.cells #[.int .i64 pa, .int .i64 pb] 44)).cell? ⟨w9.heap.size, 1, none⟩ = some (.int .i64 pb) from by
    have hr := H9.out.r.rest
    have k4 := hr.blk (g := w9.heap.size) (t := 44) (cs := #[.int .i64 pa, .int .i64 pb]) (by simp)
    have k3 := hr.blk (g := x3) (t := 44) (cs := #[.int .i64 pa, .int .i64 pb]) (by simp)
    have k2 := hr.blk (g := x2) (t := 44) (cs := #[.int .i64 fa, .int .i64 fb]) (by simp)
    have k1 := hr.blk (g := x1) (t := 44) (cs := #[.int .i64 fa, .int .i64 fb]) (by simp)
    exact ⟨by rw [k1.cell]; rfl, by rw [k1.cell]; rfl, by rw [k2.cell]; rfl, by rw [k2.cell]; rfl, by rw [k3.cell]; rfl, by rw [k3.cell]; rfl, by rw [k4.cell]; rfl, by rw [k4.cell]; rfl⟩)
  go_upto_region 7 with fail
  obtain ⟨c1, c2, c3, c4, c5, c6, c7, c8⟩ := HC.out
  generalize w9.alloc (.cells #[.int .i64 pa, .int .i64 pb] 44) = w10 at H9 HB9 c1 c2 c3 c4 c5 c6 c7 c8 ⊢
  generalize w9.heap.size = x4 at H9 c7 c8 ⊢
  clear HC
  go_wp2_with fail
  refine Calls.mono (C7.out _ _ H9.out) ?_
  rintro r w11 ⟨v1, rfl, hs1, b11⟩
  have H11 := hide (H9.out.below b11)
  have HB11 := hide (HB9.out.trans (b11.mono HB9.out.size))
  have HS1 := hide hs1
  clear b11 hs1 c1 c2 c3 c4 c5 c6 c7 c8
  go_wp2_with fail
  refine Calls.mono (C8.out _ _ H11.out) ?_
  rintro r w12 ⟨v2, rfl, hs2, b12⟩
  have HB12 := hide (HB11.out.trans (b12.mono HB11.out.size))
  have HSM := hide (CS.out w12 v1 v2 (HS1.out.rd.only (Only.of_below b12) fun _ _ f => f) hs2.rd)
  have H12 := hide (H11.out.below b12)
  clear b12 hs2
  go_wp2_with fail
  refine Calls.mono HSM.out ?_
  rintro r w13 ⟨rfl, q, rfl⟩
  have H13 := hide (H12.out.below (Below.mk rfl rfl rfl (Nat.le_refl _) fun _ _ => rfl : Below w12.heap.size w12 (w12.drewN q)))
  have HB13 := hide (HB12.out.trans ((Below.mk rfl rfl rfl (Nat.le_refl _) fun _ _ => rfl : Below w12.heap.size w12 (w12.drewN q)).mono HB12.out.size))
  go_wp2_with fail
  refine Calls.mono (C9.out _ _ H13.out) ?_
  rintro r w14 ⟨rfl, rfl⟩
  go_wp2_with fail
  refine Calls.mono (C10.out _ _ H13.out) ?_
  rintro r w14 ⟨rfl, rfl⟩
  go_wp2
  go_ret
  exact ⟨rfl, HB13.out⟩
end
end Go.Proofs.YtkhjdhoaephdkaaDoor
