/- Copy of a table: the walk. No condition but those written. -/
import Derived.Test.YtdojcgefiekleaaDoorSyk
import Derived.Test.YtdojcgefiekleaaDoorMr
import Derived.RegionTactic
namespace Go.Proofs.YtdojcgefiekleaaDoor
open Go.RowKit

theorem wpList_range_r {P : Program} {w : World} {b : Nat} {m : List (Value × Value)} {ops : Array Oper} {rs : List Oper} {o : Oper} {a : Act} {Q : Exit → Act → World → Prop} {t k e : TypeId} (hg : o.guard = none) (x : Operand) (hop : o.op = Op.range t x) (ht : P.underlying t = some (.map k e)) (hx : a.eval x = .map (some b)) (h : MapIs w b m)
    (hK : ∀ r w', r = w.heap.size → MapRg w' b r m m → Below w.heap.size w w' → wpList P ops Q rs (a.put o.dst (.pointer (some ⟨r, 0, none⟩))) w') : wpList P ops Q (o :: rs) a w :=
  wpList_range_is hg x hop ht hx h fun w' h1 h2 => hK _ w' rfl h1 h2
theorem MapRg.next_r {P : Program} {w : World} {b r : Nat} {m : List (Value × Value)} {α : Type} (f : α → Value × Value) (L : List α) (h : MapRg w b r m (L.map f)) (ty : TypeId) :
    (Hid (L = []) ∧ (Instr.next (.pointer (some ⟨r, 0, none⟩)) false ty).run P w = .ok (.tuple #[.bool false]) w) ∨
    ∃ x w', Hid (∃ A B, L = A ++ x :: B ∧ MapRg w' b r m ((A ++ B).map f) ∧ Only (· = r) w w') ∧ (Instr.next (.pointer (some ⟨r, 0, none⟩)) false ty).run P w = .ok (.tuple #[.bool true, (f x).1, (f x).2]) w' ∧
      (Instr.entry (.pointer (some ⟨r, 0, none⟩))).run P w' = .ok (.tuple #[(f x).1, (f x).2]) w' := by
  rcases h.next (P := P) ty with ⟨h0, hrun⟩ | ⟨k, v, A, B, w', h0, hrun, hrg, ho, hen⟩
  · exact .inl ⟨hide (List.map_eq_nil_iff.1 h0), hrun⟩
  · obtain ⟨A', C, rfl, rfl, hC⟩ := List.map_eq_append_iff.1 h0
    obtain ⟨x, B', rfl, hx, rfl⟩ := List.map_eq_cons_iff.1 hC
    obtain ⟨rfl, rfl⟩ : (f x).1 = k ∧ (f x).2 = v := by rw [hx]; exact ⟨rfl, rfl⟩
    exact .inr ⟨x, w', hide ⟨A', B', rfl, by rw [List.map_append]; exact hrg, ho⟩, hrun, hen⟩
/-- A rule as a pair of key and value. -/
def entP (x : Int × Int × Int) : Value × Value := (.int .i64 x.1, entV x.2)
theorem entPairs_eq (M : List (Int × Int × Int)) : entPairs M = M.map entP := rfl
theorem pick_mem {l : List (Int × Int × Int)} (hn : (l.map (·.1)).Nodup) (c : Int) (v : Int × Int) : pick c l = some v ↔ (c, v) ∈ l := by
  induction l with
  | nil => simp [pick]
  | cons y l ih =>
    simp only [List.map_cons, List.nodup_cons] at hn
    have ih := ih hn.2
    unfold pick at ih ⊢
    by_cases h : y.1 = c
    · simp only [List.find?_cons, h, decide_true, Option.map_some, Option.some.injEq, List.mem_cons]
      constructor
      · intro e
        exact .inl (by rw [← h, ← e])
      · rintro (e | e)
        · rw [← e]
        · exact absurd (List.mem_map.2 ⟨_, e, rfl⟩) (h ▸ hn.1)
    · simp only [List.find?_cons, h, decide_false, List.mem_cons]
      rw [ih]
      constructor
      · exact .inr
      · rintro (e | e)
        · exact absurd (by rw [← e]) h
        · exact e
theorem pick_same {M N : List (Int × Int × Int)} (hM : (M.map (·.1)).Nodup) (hN : (N.map (·.1)).Nodup) (h : ∀ x, x ∈ M ↔ x ∈ N) (c : Int) : pick c M = pick c N := by
  cases hp : pick c N with
  | some v => exact (pick_mem hM c v).2 ((h _).2 ((pick_mem hN c v).1 hp))
  | none =>
    cases hq : pick c M with
    | none => rfl
    | some v =>
      rw [(pick_mem hN c v).2 ((h _).1 ((pick_mem hM c v).1 hq))] at hp
      cases hp
theorem eput_in {M N : List (Int × Int × Int)} (hM : (M.map (·.1)).Nodup) (hN : (N.map (·.1)).Nodup) (hs : ∀ x ∈ N, x ∈ M) {x : Int × Int × Int} (hx : x ∈ M) (y : Int × Int × Int) : y ∈ eput N x.1 x.2 ↔ y = x ∨ y ∈ N := by
  have hP := eput_nodup x.1 x.2 N hN
  obtain ⟨c, v⟩ := y
  rw [← pick_mem hP c v, eput_pick]
  by_cases e : x.1 = c
  · rw [if_pos e]
    constructor
    · intro h
      injection h with h
      exact .inl (by rw [← e, ← h])
    · rintro (h | h)
      · rw [← h]
      · have h1 := (pick_mem hM c v).2 (hs _ h)
        have h2 := (pick_mem hM x.1 x.2).2 hx
        rw [e, h1] at h2
        exact h2.symm
  · rw [if_neg e, pick_mem hN c v]
    constructor
    · exact .inr
    · rintro (h | h)
      · exact absurd (by rw [← h]) e
      · exact h
/-- What holds within Copy's loop. -/
structure CopyI (w0 wr : World) (p : TL) (T : Tb) (r : Nat) (M N L : List (Int × Int × Int)) : Prop where
  bel : Below w0.heap.size w0 wr
  g : MapRg wr p.ow r (entPairs M) (L.map entP)
  blk : Blk wr (w0.heap.size + 1) 77 #[ruleV T.lisp p.gs, .map (some w0.heap.size)]
  m : MapIs wr w0.heap.size (entPairs N)
  n : (N.map (·.1)).Nodup
  old : ∀ x ∈ M, x ∈ L ∨ x ∈ N
  new : ∀ x ∈ N, x ∈ M
  sub : ∀ x ∈ L, x ∈ M
  rr : w0.heap.size + 2 ≤ r
section
variable {w0 w w' : World} {p : TL} {T : Tb} {r : Nat} {M N L : List (Int × Int × Int)}
theorem CopyI.below (h : CopyI w0 w p T r M N L) (hb : Below w.heap.size w w') : CopyI w0 w' p T r M N L :=
  ⟨h.bel.trans (hb.mono h.bel.size), h.g.below hb, h.blk.below hb h.blk.lt, h.m.same (hb.block _ h.m.lt), h.n, h.old, h.new, h.sub, h.rr⟩
/-- The iterator goes on. -/
theorem CopyI.step (h : CopyI w0 w p T r M N L) {x : Int × Int × Int} {A B : List (Int × Int × Int)} (e : L = A ++ x :: B) (hg : MapRg w' p.ow r (entPairs M) ((A ++ B).map entP)) (ho : Only (· = r) w w') :
    Below w0.heap.size w0 w' ∧ MapRg w' p.ow r (entPairs M) ((A ++ B).map entP) ∧ Blk w' (w0.heap.size + 1) 77 #[ruleV T.lisp p.gs, .map (some w0.heap.size)] ∧ MapIs w' w0.heap.size (entPairs N) ∧ x ∈ M ∧ (∀ y, y ∈ L ↔ y = x ∨ y ∈ A ++ B) ∧ (A ++ B).length + 1 = L.length := by
  have hr := h.rr
  refine ⟨h.bel.trans (ho.below h.bel.size fun i e => by rw [e]; omega), hg, h.blk.only ho (by omega), h.m.only ho (by omega), h.sub x (by rw [e]; simp), fun y => ?_, by rw [e]; simp; omega⟩
  rw [e]
  simp
  exact ⟨fun h => by rcases h with h | h | h <;> simp [h], fun h => by rcases h with h | h | h <;> simp [h]⟩
end
theorem MapRg.only {w w' : World} {b r q : Nat} {m rest : List (Value × Value)} (h : MapRg w b r m rest) (ho : Only (· = q) w w') (h1 : b ≠ q) (h2 : r ≠ q) : MapRg w' b r m rest := h.same (ho.block _ h.is.lt h1) (ho.block _ h.lt h2)
section
variable {w w' : World} {p : TL} {T : Tb}
set_option maxRecDepth 100000 in
set_option maxHeartbeats 8000000 in
theorem copy_any (h : TabAt w p T) : Calls Tryd.prog 37 #[.pointer (some ⟨p.t, 0, none⟩)] w fun e w' => e = .returned (.pointer (some ⟨w.heap.size + 1, 0, none⟩)) ∧ Below w.heap.size w w' ∧ TabAt w' ⟨w.heap.size + 1, w.heap.size, p.gs, p.sb⟩ T := by
  obtain ⟨M, hm, hM⟩ := h.own
  have HT := hide h
  have HN := hide (none_some h)
  have HMM := hide hM
  have c0 : w.cell? ⟨p.t, 0, none⟩ = some (ruleV T.lisp p.gs) := (h.blk.cell 0).trans rfl
  have hf := make_ents
  have hfin : ∀ wr r N, CopyI w wr p T r M N [] → TabAt wr ⟨w.heap.size + 1, w.heap.size, p.gs, p.sb⟩ T := by
    intro wr r N hI
    refine ⟨hI.blk, ⟨N, hI.m, fun c => ?_, hI.n⟩, fun hl => ?_, h.ok, fun hl => ?_⟩
    · rw [← hM.1]
      exact (pick_same hM.2 hI.n (fun x => ⟨fun hx => (hI.old x hx).resolve_left (by simp), hI.new x⟩) c).symm
    · obtain ⟨h1, h2⟩ := h.rule hl
      exact ⟨h1.below hI.bel h1.lt, h2.same (hI.bel.block _ h2.lt)⟩
    · have := (h.rule hl).2.lt
      simp only []
      omega
  have HFIN := hide hfin
  have c1 : ∀ o1 o2, ((w.alloc o1).alloc o2).cell? ⟨p.t, 1, none⟩ = some (.map (some p.ow)) := fun o1 o2 => (((h.blk.alloc o1).alloc o2).cell 1).trans rfl
  have hm2 : ∀ o1 o2, MapIs ((w.alloc o1).alloc o2) p.ow (entPairs M) := fun o1 o2 => (hm.alloc o1).alloc o2
  have HM2 := hide hm2
  have HC1 := hide c1
  have hpo : p.ow < w.heap.size := hm.lt
  clear h hM hfin hm hm2 c1
  cases hl : T.lisp
  · rw [hl] at c0
    simp only [ruleV, Bool.false_eq_true, if_false] at c0
    have d1 := HC1.out (.map #[] 0) (.cells #[.func (.func 52) #[] #[], .map (some w.heap.size)] 77)
    have HS := hide (fun (r : Nat) (w3 : World) (hr : r = w.heap.size + 1 + 1) (hrg : MapRg w3 p.ow r (entPairs M) (entPairs M)) (hb3 : Below ((w.alloc (.map #[] 0)).alloc (.cells #[.func (.func 52) #[] #[], .map (some w.heap.size)] 77)).heap.size ((w.alloc (.map #[] 0)).alloc (.cells #[.func (.func 52) #[] #[], .map (some w.heap.size)] 77)) w3) => (show CopyI w w3 p T r M [] M from by
      have hk := Blk.new (w.alloc (.map #[] 0)) 77 #[.func (.func 52) #[] #[], .map (some w.heap.size)]
      rw [World.size_alloc] at hk
      rw [World.size_alloc, World.size_alloc] at hb3
      refine ⟨(((Below.refl _ w).alloc (Nat.le_refl _) _).alloc (by simp) _).trans (hb3.mono (by omega)), hrg, by rw [hl]; exact hk.below hb3 (by omega), ((MapIs.new w).alloc _).same (hb3.block _ (by omega)), by simp, fun x hx => .inl hx, (fun x hx => by simp at hx), fun x hx => hx, by omega⟩))
    go_enter Tryd.func37, Tryd.ntmps37
    go_wp2_with (first | (go_at_call 61; refine (Calls.mono HN.out) ?_; rintro e w' ⟨rfl, rfl⟩) | (refine wpList_range_r rfl _ rfl Tryd.underlying73 rfl (HM2.out _ _) ?_; intro r w3 hr hrg hb3))
    have HI := hide (HS.out r w3 (by rw [hr]; simp) hrg hb3)
    clear hr hrg hb3
    simp only [Act.put, List.setIfInBounds_toArray, List.set_cons_succ, List.set_cons_zero]
    go_loopw [] (fun wr => ∃ N L, CopyI w wr p T r M N L) (fun wr => wr.rangeLeft p.ow r)
    case atStart => exact ⟨[], M, HI.out⟩
    case round =>
      obtain ⟨N, L, hI⟩ := hrel
      have HL := hide hI
      have hleft := hI.g.left
      clear hI
      rcases HL.out.g.next_r (P := Tryd.prog) entP L 0 with ⟨hE, hrun⟩ | ⟨x, w4, hMx, hrun, hen⟩
      · clear hleft
        go_wp2
        go_ret
        have hL := HL.out
        rw [hE.out] at hL
        exact ⟨rfl, hL.bel, HFIN.out _ _ _ hL⟩
      · obtain ⟨x0, x1, x2⟩ := x
        simp only [entP, entV] at hrun hen
        have HX := hide (show ∃ L' : List (Int × Int × Int), Below w.heap.size w w4 ∧ MapRg w4 p.ow r (entPairs M) (L'.map entP) ∧ Blk w4 (w.heap.size + 1) 77 #[.func (.func 52) #[] #[], .map (some w.heap.size)] ∧ MapIs w4 w.heap.size (entPairs N) ∧ (x0, x1, x2) ∈ M ∧ (∀ y, y ∈ L ↔ y = (x0, x1, x2) ∨ y ∈ L') ∧ L'.length + 1 = L.length from by
          obtain ⟨A, B, e, h1, h2⟩ := hMx.out
          have h3 := HL.out.step e h1 h2
          rw [hl] at h3
          exact ⟨A ++ B, h3⟩)
        obtain ⟨L', x3, x4, x5, x6, x7, x8, x9⟩ := HX.out
        have HY := hide (And.intro x3 (And.intro x4 (And.intro x5 (And.intro x6 (And.intro x7 (And.intro x8 x9))))))
        have k1 : (w4.alloc (.cells #[.int .i64 x1, .int .i64 x2] 66)).cell? ⟨w.heap.size + 1, 1, none⟩ = some (.map (some w.heap.size)) := ((x5.alloc _).cell 1).trans rfl
        have k2 : (w4.alloc (.cells #[.int .i64 x1, .int .i64 x2] 66)).cell? ⟨w4.heap.size, 0, none⟩ = some (.int .i64 x1) := ((Blk.new w4 66 #[.int .i64 x1, .int .i64 x2]).cell 0).trans rfl
        have k3 : (w4.alloc (.cells #[.int .i64 x1, .int .i64 x2] 66)).cell? ⟨w4.heap.size, 1, none⟩ = some (.int .i64 x2) := ((Blk.new w4 66 #[.int .i64 x1, .int .i64 x2]).cell 1).trans rfl
        obtain ⟨w6, hru, hm6, ho6⟩ := (x6.alloc (.cells #[.int .i64 x1, .int .i64 x2] 66)).drew.update (P := Tryd.prog) (ent_keys N) Tryd.underlying73 Tryd.underlying3 (.int .i64 x0) (entV (x1, x2))
        rw [eput_map] at hm6
        simp only [entV] at hru
        have HI2 := hide (show CopyI w w6 p T r M (eput N x0 (x1, x2)) L' from by
          have hbs := HY.out.1.size
          have hr1 := HL.out.rr
          have hin := eput_in HMM.out.2 HL.out.n HL.out.new HY.out.2.2.2.2.1
          have hbb : Below w.heap.size w ((w4.alloc (.cells #[.int .i64 x1, .int .i64 x2] 66)).drew) := (HY.out.1.alloc hbs _).drew
          refine ⟨hbb.trans (ho6.below hbb.size fun i e => by rw [e]; omega), ((HY.out.2.1.below ((Below.refl _ _).alloc (Nat.le_refl _) _)).below (Below.refl _ _).drew).only ho6 (by omega) (by omega), by rw [hl]; exact ((HY.out.2.2.1.alloc _).drew).only ho6 (by omega), hm6, eput_nodup _ _ _ HL.out.n, fun y hy => ?_, fun y hy => ?_, fun y hy => HL.out.sub y ((HY.out.2.2.2.2.2.1 y).2 (.inr hy)), hr1⟩
          · rcases HL.out.old y hy with h | h
            · rcases (HY.out.2.2.2.2.2.1 y).1 h with rfl | h
              · exact .inr ((hin _).2 (.inl rfl))
              · exact .inl h
            · exact .inr ((hin y).2 (.inr h))
          · rcases (hin y).1 hy with rfl | h
            · exact HY.out.2.2.2.2.1
            · exact HL.out.new y h)
        clear hm6 ho6 x3 x4 x5 x6 x7 x8 x9 HX hMx
        go_wp2
        go_region
        go_roundw
        case rel => exact ⟨_, _, _, _, _, _, _, _, _, _, _, _, _, ⟨_, L', HI2.out⟩, rfl⟩
        case measure =>
          have h1 := HI2.out.g.left
          have h2 := HY.out.2.2.2.2.2.2
          rw [h1, hleft]
          simp only [List.length_map]
          omega
  · rw [hl] at c0
    simp only [ruleV, if_true] at c0
    have d1 := HC1.out (.map #[] 0) (.cells #[.func (.func 50) #[] #[.pointer (some ⟨p.gs, 0, none⟩)], .map (some w.heap.size)] 77)
    have HS := hide (fun (r : Nat) (w3 : World) (hr : r = w.heap.size + 1 + 1) (hrg : MapRg w3 p.ow r (entPairs M) (entPairs M)) (hb3 : Below ((w.alloc (.map #[] 0)).alloc (.cells #[.func (.func 50) #[] #[.pointer (some ⟨p.gs, 0, none⟩)], .map (some w.heap.size)] 77)).heap.size ((w.alloc (.map #[] 0)).alloc (.cells #[.func (.func 50) #[] #[.pointer (some ⟨p.gs, 0, none⟩)], .map (some w.heap.size)] 77)) w3) => (show CopyI w w3 p T r M [] M from by
      have hk := Blk.new (w.alloc (.map #[] 0)) 77 #[.func (.func 50) #[] #[.pointer (some ⟨p.gs, 0, none⟩)], .map (some w.heap.size)]
      rw [World.size_alloc] at hk
      rw [World.size_alloc, World.size_alloc] at hb3
      refine ⟨(((Below.refl _ w).alloc (Nat.le_refl _) _).alloc (by simp) _).trans (hb3.mono (by omega)), hrg, by rw [hl]; exact hk.below hb3 (by omega), ((MapIs.new w).alloc _).same (hb3.block _ (by omega)), by simp, fun x hx => .inl hx, (fun x hx => by simp at hx), fun x hx => hx, by omega⟩))
    go_enter Tryd.func37, Tryd.ntmps37
    go_wp2_with (first | (go_at_call 61; refine (Calls.mono HN.out) ?_; rintro e w' ⟨rfl, rfl⟩) | (refine wpList_range_r rfl _ rfl Tryd.underlying73 rfl (HM2.out _ _) ?_; intro r w3 hr hrg hb3))
    have HI := hide (HS.out r w3 (by rw [hr]; simp) hrg hb3)
    clear hr hrg hb3
    simp only [Act.put, List.setIfInBounds_toArray, List.set_cons_succ, List.set_cons_zero]
    go_loopw [] (fun wr => ∃ N L, CopyI w wr p T r M N L) (fun wr => wr.rangeLeft p.ow r)
    case atStart => exact ⟨[], M, HI.out⟩
    case round =>
      obtain ⟨N, L, hI⟩ := hrel
      have HL := hide hI
      have hleft := hI.g.left
      clear hI
      rcases HL.out.g.next_r (P := Tryd.prog) entP L 0 with ⟨hE, hrun⟩ | ⟨x, w4, hMx, hrun, hen⟩
      · clear hleft
        go_wp2
        go_ret
        have hL := HL.out
        rw [hE.out] at hL
        exact ⟨rfl, hL.bel, HFIN.out _ _ _ hL⟩
      · obtain ⟨x0, x1, x2⟩ := x
        simp only [entP, entV] at hrun hen
        have HX := hide (show ∃ L' : List (Int × Int × Int), Below w.heap.size w w4 ∧ MapRg w4 p.ow r (entPairs M) (L'.map entP) ∧ Blk w4 (w.heap.size + 1) 77 #[.func (.func 50) #[] #[.pointer (some ⟨p.gs, 0, none⟩)], .map (some w.heap.size)] ∧ MapIs w4 w.heap.size (entPairs N) ∧ (x0, x1, x2) ∈ M ∧ (∀ y, y ∈ L ↔ y = (x0, x1, x2) ∨ y ∈ L') ∧ L'.length + 1 = L.length from by
          obtain ⟨A, B, e, h1, h2⟩ := hMx.out
          have h3 := HL.out.step e h1 h2
          rw [hl] at h3
          exact ⟨A ++ B, h3⟩)
        obtain ⟨L', x3, x4, x5, x6, x7, x8, x9⟩ := HX.out
        have HY := hide (And.intro x3 (And.intro x4 (And.intro x5 (And.intro x6 (And.intro x7 (And.intro x8 x9))))))
        have k1 : (w4.alloc (.cells #[.int .i64 x1, .int .i64 x2] 66)).cell? ⟨w.heap.size + 1, 1, none⟩ = some (.map (some w.heap.size)) := ((x5.alloc _).cell 1).trans rfl
        have k2 : (w4.alloc (.cells #[.int .i64 x1, .int .i64 x2] 66)).cell? ⟨w4.heap.size, 0, none⟩ = some (.int .i64 x1) := ((Blk.new w4 66 #[.int .i64 x1, .int .i64 x2]).cell 0).trans rfl
        have k3 : (w4.alloc (.cells #[.int .i64 x1, .int .i64 x2] 66)).cell? ⟨w4.heap.size, 1, none⟩ = some (.int .i64 x2) := ((Blk.new w4 66 #[.int .i64 x1, .int .i64 x2]).cell 1).trans rfl
        obtain ⟨w6, hru, hm6, ho6⟩ := (x6.alloc (.cells #[.int .i64 x1, .int .i64 x2] 66)).drew.update (P := Tryd.prog) (ent_keys N) Tryd.underlying73 Tryd.underlying3 (.int .i64 x0) (entV (x1, x2))
        rw [eput_map] at hm6
        simp only [entV] at hru
        have HI2 := hide (show CopyI w w6 p T r M (eput N x0 (x1, x2)) L' from by
          have hbs := HY.out.1.size
          have hr1 := HL.out.rr
          have hin := eput_in HMM.out.2 HL.out.n HL.out.new HY.out.2.2.2.2.1
          have hbb : Below w.heap.size w ((w4.alloc (.cells #[.int .i64 x1, .int .i64 x2] 66)).drew) := (HY.out.1.alloc hbs _).drew
          refine ⟨hbb.trans (ho6.below hbb.size fun i e => by rw [e]; omega), ((HY.out.2.1.below ((Below.refl _ _).alloc (Nat.le_refl _) _)).below (Below.refl _ _).drew).only ho6 (by omega) (by omega), by rw [hl]; exact ((HY.out.2.2.1.alloc _).drew).only ho6 (by omega), hm6, eput_nodup _ _ _ HL.out.n, fun y hy => ?_, fun y hy => ?_, fun y hy => HL.out.sub y ((HY.out.2.2.2.2.2.1 y).2 (.inr hy)), hr1⟩
          · rcases HL.out.old y hy with h | h
            · rcases (HY.out.2.2.2.2.2.1 y).1 h with rfl | h
              · exact .inr ((hin _).2 (.inl rfl))
              · exact .inl h
            · exact .inr ((hin y).2 (.inr h))
          · rcases (hin y).1 hy with rfl | h
            · exact HY.out.2.2.2.2.1
            · exact HL.out.new y h)
        clear hm6 ho6 x3 x4 x5 x6 x7 x8 x9 HX hMx
        go_wp2
        go_region
        go_roundw
        case rel => exact ⟨_, _, _, _, _, _, _, _, _, _, _, _, _, ⟨_, L', HI2.out⟩, rfl⟩
        case measure =>
          have h1 := HI2.out.g.left
          have h2 := HY.out.2.2.2.2.2.2
          rw [h1, hleft]
          simp only [List.length_map]
          omega
end
end Go.Proofs.YtdojcgefiekleaaDoor
