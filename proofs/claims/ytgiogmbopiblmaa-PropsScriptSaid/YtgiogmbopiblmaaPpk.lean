/- Pieces changed by a function: what the call keeps; the closure that fills. No condition but those written. -/
import Derived.Test.YtgiogmbopiblmaaPpj
import Derived.Test.YtgiogmbopiblmaaDraw
import Derived.Deep.CutBlock
import Derived.Deep.DeepCutAuto
namespace Go.Proofs.Ytgiogmbopiblmaa
open Go.RowKit

theorem pcs_len (L : List (Pc × Value)) : (pcs L).length = L.length := by simp [pcs]
theorem addP_len (l : List Pc) (a b : Nat) (q : List Pr) : (addP l a b q).length ≤ l.length + 1 := by
  by_cases hs : b ≤ a ∨ q = []
  · rw [addP_skip hs]
    omega
  · have hab : a < b := Nat.lt_of_not_le fun e => hs (.inl e)
    have hq : q ≠ [] := fun e => hs (.inr e)
    rcases snoc_cases l with rfl | ⟨k, p, rfl⟩
    · rw [addP_nil hab hq]
      simp
    · by_cases hj : p.to = a ∧ p.pr = q
      · rw [addP_join hab hq hj.1 hj.2]
        simp
      · rw [addP_more hab hq hj]
        simp
theorem addP_fit {l : List Pc} {a b : Nat} {q : List Pr} {M : Nat} (h : ∀ p ∈ l, p.pr.length ≤ M) (hq : q.length ≤ M) : ∀ p ∈ addP l a b q, p.pr.length ≤ M := by
  by_cases hs : b ≤ a ∨ q = []
  · rw [addP_skip hs]
    exact h
  · have hab : a < b := Nat.lt_of_not_le fun e => hs (.inl e)
    have hq0 : q ≠ [] := fun e => hs (.inr e)
    rcases snoc_cases l with rfl | ⟨k, p, rfl⟩
    · rw [addP_nil hab hq0]
      intro p hp
      have : p = ⟨a, b, q⟩ := by simpa using hp
      exact this ▸ hq
    · by_cases hj : p.to = a ∧ p.pr = q
      · rw [addP_join hab hq0 hj.1 hj.2]
        intro z hz
        rcases List.mem_append.1 hz with hz | hz
        · exact h z (List.mem_append_left _ hz)
        · have : z = ⟨p.fr, b, q⟩ := by simpa using hz
          exact this ▸ hq
      · rw [addP_more hab hq0 hj]
        intro z hz
        rcases List.mem_append.1 hz with hz | hz
        · exact h z hz
        · have : z = ⟨a, b, q⟩ := by simpa using hz
          exact this ▸ hq
theorem PrS.nil (W : World) : PrS W (.slice none 0 0) [] := Sl.nil _ _ _
/-- A function of the program that turns a list of properties, with captured variables. -/
structure FnOk (W : World) (fid : Nat) (caps : Array Value) (f : List Pr → List Pr) (N M : Nat) : Prop where
  cf : ∀ (args : Array Value) (w : World), (callFunc fid args).run Try.prog w = .ok (.enter fid args) w
  call : ∀ (w : World) (v : Value) (q : List Pr), Below W.heap.size W w → PrS w v q → q.length ≤ N → Calls Try.prog fid (#[v] ++ caps) w (ListRes w (f q))
  len : ∀ q : List Pr, q.length ≤ N → (f q).length ≤ M
theorem FnOk.below {W W' : World} {fid : Nat} {caps : Array Value} {f : List Pr → List Pr} {N M : Nat} (h : FnOk W fid caps f N M) (hb : Below W.heap.size W W') : FnOk W' fid caps f N M :=
  ⟨h.cf, fun w v q hw hv hq => h.call w v q (hb.trans (hw.mono hb.size)) hv hq, h.len⟩
/-- Within changed: the boxes of the function, of what is written, of how far. -/
structure CSt (W w : World) (fid : Nat) (caps : Array Value) (sv : Value) (L : List (Pc × Value)) (a M : Nat) : Prop where
  bel : Below W.heap.size W w
  bf : Blk w W.heap.size 75 #[.func (.func fid) #[] caps]
  bo : Blk w (W.heap.size + 1) 67 #[sv]
  ba : Blk w (W.heap.size + 1 + 1) 3 #[.int .i64 (a : Int)]
  inn : PcsAt w sv L
  own : ∀ g, sv.ownBlock = some g → W.heap.size + 3 ≤ g
  fit : ∀ p ∈ pcs L, p.pr.length ≤ M
section
variable {W w w' : World} {fid : Nat} {caps : Array Value} {sv sv' : Value} {L L' : List (Pc × Value)} {a M N : Nat} {f : List Pr → List Pr}
theorem CSt.below (h : CSt W w fid caps sv L a M) (hb : Below w.heap.size w w') : CSt W w' fid caps sv L a M :=
  ⟨h.bel.trans (hb.mono h.bel.size), h.bf.below hb h.bf.lt, h.bo.below hb h.bo.lt, h.ba.below hb h.ba.lt, h.inn.below hb, h.own, h.fit⟩
theorem CSt.cells (h : CSt W w fid caps sv L a M) : w.cell? ⟨W.heap.size + 1, 0, none⟩ = some sv ∧ w.cell? ⟨W.heap.size + 1 + 1, 0, none⟩ = some (.int .i64 (a : Int)) ∧ w.cell? ⟨W.heap.size, 0, none⟩ = some (.func (.func fid) #[] caps) :=
  ⟨(h.bo.cell 0).trans rfl, (h.ba.cell 0).trans rfl, (h.bf.cell 0).trans rfl⟩
/-- Behind add, ahead of the store. -/
theorem CSt.near (h : CSt W w fid caps sv L a M) (ho : Only (fun g => sv.ownBlock = some g) w w') : w'.cell? ⟨W.heap.size + 1, 0, none⟩ = some sv ∧ w'.cell? ⟨W.heap.size + 1 + 1, 0, none⟩ = some (.int .i64 (a : Int)) ∧ w'.cell? ⟨W.heap.size, 0, none⟩ = some (.func (.func fid) #[] caps) ∧ w'.frozen? ⟨W.heap.size + 1, 0, none⟩ = false := by
  have k1 := h.bo.only ho fun e => by have := h.own _ e; omega
  exact ⟨(k1.cell 0).trans rfl, ((h.ba.only ho fun e => by have := h.own _ e; omega).cell 0).trans rfl, ((h.bf.only ho fun e => by have := h.own _ e; omega).cell 0).trans rfl, k1.frozen 0⟩
theorem CSt.put {x y : Nat} {q : List Pr} (h : CSt W w fid caps sv L a M) (hp : PcsAt w' sv' L') (he : pcs L' = addP (pcs L) x y q) (ho : Only (fun g => sv.ownBlock = some g) w w') (hv : sv'.ownBlock = sv.ownBlock ∨ ∃ g, sv'.ownBlock = some g ∧ w.heap.size ≤ g) (hq : q.length ≤ M) : CSt W (w'.setCell ⟨W.heap.size + 1, 0, none⟩ sv') fid caps sv' L' a M := by
  have k1 := h.bo.only ho fun e => by have := h.own _ e; omega
  have k2 := h.ba.only ho fun e => by have := h.own _ e; omega
  have k3 := h.bf.only ho fun e => by have := h.own _ e; omega
  have hbl := h.ba.lt
  have hown : ∀ g, sv'.ownBlock = some g → W.heap.size + 3 ≤ g := fun g hg => by
    rcases hv with e | ⟨g', e, h2⟩
    · exact h.own g (e ▸ hg)
    · rw [e] at hg
      cases hg
      omega
  have hst : Only (· = W.heap.size + 1) w' (w'.setCell ⟨W.heap.size + 1, 0, none⟩ sv') := (Only.refl (· = W.heap.size + 1) w').setCell (p := ⟨W.heap.size + 1, 0, none⟩) (.inl rfl) _
  refine ⟨(h.bel.trans (ho.below h.bel.size fun g e => by have := h.own g e; omega)).setCell (by simp only []; omega) _, k3.far (by simp only []; omega) _, k1.set_ 0 _, k2.far (by simp only []; omega) _, ⟨hp.row.only hst fun g hg e => by have := hown g hg; omega, fun p hpp => ?_⟩, hown, ?_⟩
  · refine Sl.only (hp.inn p hpp) hst fun g hg e => ?_
    subst e
    exact Sl.ne_blk (hp.inn p hpp) k1 (by decide) hg
  · rw [he]
    exact addP_fit h.fit hq
theorem CSt.at_ (h : CSt W w fid caps sv L a M) (e : Nat) : CSt W (w.setCell ⟨W.heap.size + 1 + 1, 0, none⟩ (.int .i64 (e : Int))) fid caps sv L e M := by
  have hst : Only (· = W.heap.size + 1 + 1) w (w.setCell ⟨W.heap.size + 1 + 1, 0, none⟩ (.int .i64 (e : Int))) := (Only.refl (· = W.heap.size + 1 + 1) w).setCell (p := ⟨W.heap.size + 1 + 1, 0, none⟩) (.inl rfl) _
  refine ⟨h.bel.setCell (by simp only []; omega) _, h.bf.far (by simp only []; omega) _, h.bo.far (by simp only []; omega) _, h.ba.set_ 0 _, ⟨h.inn.row.only hst fun g hg e => by have := h.own g hg; omega, fun p hpp => ?_⟩, h.own, h.fit⟩
  refine Sl.only (h.inn.inn p hpp) hst fun g hg e => ?_
  subst e
  exact Sl.ne_blk (h.inn.inn p hpp) h.ba (by decide) hg
/-- What the closure that fills leaves. -/
def FillRes (W w : World) (sv : Value) (fid : Nat) (caps : Array Value) (L : List (Pc × Value)) (a e M : Nat) (f : List Pr → List Pr) (r : Ending) (w' : World) : Prop :=
  r = .returned (.tuple #[]) ∧ ∃ sv' L', CSt W w' fid caps sv' L' (if a < e then e else a) M ∧ pcs L' = fillP (f []) (pcs L) a e ∧ L'.length ≤ L.length + 1 ∧ Only (fun g => g = W.heap.size + 1 ∨ g = W.heap.size + 1 + 1 ∨ sv.ownBlock = some g) w w' ∧ (sv'.ownBlock = sv.ownBlock ∨ ∃ g, sv'.ownBlock = some g ∧ w.heap.size ≤ g)
set_option maxRecDepth 100000 in
set_option maxHeartbeats 8000000 in
theorem fill_any (hf : FnOk W fid caps f N M) (h : CSt W w fid caps sv L a M) (e : Nat) (hl : L.length ≤ 900000) (hM : M ≤ 1000000) :
    Calls Try.prog 89 #[.int .i64 (e : Int), .pointer (some ⟨W.heap.size + 1 + 1, 0, none⟩), .pointer (some ⟨W.heap.size + 1, 0, none⟩), .pointer (some ⟨W.heap.size, 0, none⟩)] w (FillRes W w sv fid caps L a e M f) := by
  obtain ⟨A, c, rfl, hx1⟩ := h.inn.row.form
  clear hx1
  have hcf := hf.cf
  have HF := hide hf
  have H := hide h
  have HM := hide hM
  obtain ⟨c0, c1, c2⟩ := h.cells
  have f1 := h.bo.frozen 0
  have f2 := h.ba.frozen 0
  have HS := hide (fun (x : World) (v : Value) (K : List (Pc × Value)) (hx : CSt W x fid caps v K a M) => hx.cells)
  have HN := hide (fun (x y : World) (v : Value) (hx : CSt W x fid caps v L a M) (ho : Only (fun g => v.ownBlock = some g) x y) => hx.near ho)
  unfold FillRes
  by_cases hae : a < e
  · have z1 : decide (a < e) = true := by simpa using hae
    have z2 : decide ((a : Int) < (e : Int)) = true := by simp; omega
    have z3 : (a : Int) < (e : Int) := by omega
    have HR := hide (show fillP (f []) (pcs L) a e = addP (pcs L) a e (f []) from if_pos hae)
    rw [if_pos hae]
    clear h hf hM hae
    go_enter Try.func89, Try.ntmps89
    go_upto_region 1 with fail
    obtain ⟨w5, rfl⟩ : ∃ x : World, x = w := ⟨_, rfl⟩
    refine wp_region_d (S := fun x => x.cell? ⟨W.heap.size + 1, 0, none⟩ = some (.slice A L.length c) ∧ x.cell? ⟨W.heap.size + 1 + 1, 0, none⟩ = some (.int .i64 (a : Int)) ∧ x.cell? ⟨W.heap.size, 0, none⟩ = some (.func (.func fid) #[] caps)) (D := [6]) (by kernel_rfl) ?_
    change wpAnyD _ _ _ _ _ _ _ _ _ w5.drew
    have H5 := hide (H.out.below (Below.refl _ _).drew)
    have O5 := hide ((Only.refl (fun g => g = W.heap.size + 1 ∨ g = W.heap.size + 1 + 1 ∨ (Value.slice A L.length c).ownBlock = some g) w5).drew)
    clear H c0 c1 c2 f1 f2
    generalize w5.drew = w0 at H5 O5 ⊢
    have hS := HS.out _ _ _ H5.out
    refine wpAnyD_take (i := 0) (oi := { dst := some 8, op := Op.load 67 (Operand.tmp 2), type := 67, pos := "props.go:63", after := #[], guard := none }) (v := ?_) rfl (by kernel_rfl) (by kernel_rfl) (by kernel_rfl) (by kernel_rfl) (by kernel_rfl) (fun _ _ _ h => h) (Or.inl ⟨by rfl, ?_⟩) hS ?_
    rotate_left
    · intro w hSw
      obtain ⟨s0, s1, s2⟩ := hSw
      go_simp
      all_goals with_reducible rfl
    simp only [Act.put, List.setIfInBounds_toArray, List.set_cons_zero, List.set_cons_succ]
    refine wpAnyD_take (i := 1) (oi := { dst := some 9, op := Op.load 3 (Operand.tmp 1), type := 3, pos := "props.go:63", after := #[], guard := none }) (v := ?_) rfl (by kernel_rfl) (by kernel_rfl) (by kernel_rfl) (by kernel_rfl) (by kernel_rfl) (fun _ _ _ h => h) (Or.inl ⟨by rfl, ?_⟩) hS ?_
    rotate_left
    · intro w hSw
      obtain ⟨s0, s1, s2⟩ := hSw
      go_simp
      all_goals with_reducible rfl
    simp only [Act.put, List.setIfInBounds_toArray, List.set_cons_zero, List.set_cons_succ]
    refine wpAnyD_takeW (i := 2) (oi := { dst := some 10, op := Op.move (Operand.tmp 0), type := 3, pos := "props.go:63", after := #[], guard := none }) (v := ?_) rfl (by kernel_rfl) (by kernel_rfl) (by kernel_rfl) (fun _ _ _ h => h) (Or.inl ⟨by rfl, ?_⟩) ?_
    rotate_left
    · intro w hSw
      clear hSw
      go_simp
      all_goals with_reducible rfl
    simp only [Act.put, List.setIfInBounds_toArray, List.set_cons_zero, List.set_cons_succ]
    refine wpAnyD_take (i := 3) (oi := { dst := some 11, op := Op.load 75 (Operand.tmp 3), type := 75, pos := "props.go:63", after := #[], guard := none }) (v := ?_) rfl (by kernel_rfl) (by kernel_rfl) (by kernel_rfl) (by kernel_rfl) (by kernel_rfl) (fun _ _ _ h => h) (Or.inl ⟨by rfl, ?_⟩) hS ?_
    rotate_left
    · intro w hSw
      obtain ⟨s0, s1, s2⟩ := hSw
      go_simp
      all_goals with_reducible rfl
    simp only [Act.put, List.setIfInBounds_toArray, List.set_cons_zero, List.set_cons_succ]
    clear hS
    refine wpAnyD_one (i := 4) (o := { dst := some 12, op := Op.call { callee := Callee.value (Operand.tmp 11), args := #[Operand.const (Value.slice none 0 0)], argTypes := #[32] }, type := 32, pos := "props.go:63", after := #[{ on := 3, ground := Ground.data }], guard := none }) (by kernel_rfl) rfl (fun K hK => ?_)
    go_simp
    (with_reducible refine Calls.mono (HF.out.call _ _ [] H5.out.bel (PrS.nil _) (Nat.zero_le _)) ?_)
    rintro r w6 ⟨v6, rfl, h6, b6⟩
    have H6 := hide (H5.out.below b6)
    have O6 := hide (O5.out.then_below b6)
    have HP6 := hide h6
    clear h6 b6
    refine hK _ _ (fun _ _ => HS.out _ _ _ H6.out) ?_
    clear hK K
    try simp only [Act.put, List.setIfInBounds_toArray, List.set_cons_zero, List.set_cons_succ]
    refine wpAnyD_one (i := 5) (o := { dst := some 13, op := Op.call { callee := Callee.value (Operand.func 56), args := #[Operand.tmp 8, Operand.tmp 9, Operand.tmp 10, Operand.tmp 12], argTypes := #[67, 3, 3, 32] }, type := 67, pos := "props.go:63", after := #[{ on := 0, ground := Ground.data }, { on := 1, ground := Ground.data }, { on := 2, ground := Ground.data }, { on := 4, ground := Ground.data }, { on := 4, ground := Ground.chain }], guard := none }) (by kernel_rfl) rfl (fun K hK => ?_)
    go_simp
    (with_reducible refine Calls.mono (add_any H6.out.inn HP6.out (a : Int) (e : Int) (by omega) (Nat.le_trans (HF.out.len [] (Nat.zero_le _)) HM.out) (fun p hp => Nat.le_trans (H6.out.fit _ (List.mem_map_of_mem hp)) HM.out) (fun _ => by omega)) ?_)
    rintro r w7 ⟨v7, L7, rfl, p7, e7, o7, g7⟩
    rw [Int.toNat_natCast, Int.toNat_natCast] at e7
    have H7 := hide (CSt.put H6.out p7 e7 o7 g7 (HF.out.len [] (Nat.zero_le _)))
    have E7 := hide e7
    have O7 := hide (O6.out.trans (o7.mono fun g _ e => .inr (.inr e)))
    have G7 := hide (show v7.ownBlock = (Value.slice A L.length c).ownBlock ∨ ∃ g, v7.ownBlock = some g ∧ w5.heap.size ≤ g from g7.imp id fun ⟨g, e, hg⟩ => ⟨g, e, Nat.le_trans O6.out.size hg⟩)
    obtain ⟨x0, x1, x2, x3⟩ := HN.out _ _ _ H6.out o7
    clear p7 e7 o7 g7
    refine hK _ _ (fun _ _ => ⟨x0, x1, x2⟩) ?_
    clear hK K
    try simp only [Act.put, List.setIfInBounds_toArray, List.set_cons_zero, List.set_cons_succ]
    obtain ⟨A7, c7, e7, _⟩ := (H7.out).inn.row.form
    subst e7
    refine wpAnyD_one (i := 6) (o := { dst := none, op := Op.store 67 (Operand.tmp 2) (Operand.tmp 13), type := 0, pos := "props.go:63", after := #[{ on := 5, ground := Ground.data }, { on := 5, ground := Ground.chain }, { on := 0, ground := Ground.phase }, { on := 1, ground := Ground.phase }, { on := 2, ground := Ground.phase }, { on := 3, ground := Ground.phase }, { on := 4, ground := Ground.phase }, { on := 5, ground := Ground.phase }], guard := none }) (by kernel_rfl) rfl (fun K hK => ?_)
    go_simp
    refine hK _ _ (fun h => by cases h) ?_
    clear hK K
    try simp only [Act.put, List.setIfInBounds_toArray, List.set_cons_zero, List.set_cons_succ]
    refine wpAnyD_done (by kernel_rfl) ?_ _
    have d0 := (H7.out).ba.cell 0
    have d1 := (H7.out).ba.frozen 0
    go_wp2
    go_end0
    exact ⟨rfl, _, L7, (H7.out.at_ e), E7.out.trans HR.out.symm, by rw [← pcs_len, E7.out, ← pcs_len]; exact addP_len .., (O7.out.setCell (p := ⟨W.heap.size + 1, 0, none⟩) (.inl (.inl rfl)) _).setCell (p := ⟨W.heap.size + 1 + 1, 0, none⟩) (.inl (.inr (.inl rfl))) _, G7.out⟩
  · have z1 : decide (a < e) = false := by simpa using hae
    have z2 : decide ((a : Int) < (e : Int)) = false := by simp; omega
    have HR := hide (show fillP (f []) (pcs L) a e = pcs L from if_neg hae)
    rw [if_neg hae]
    clear h hf hM hae
    go_enter Try.func89, Try.ntmps89
    go_wp2
    go_end0
    exact ⟨rfl, _, L, H.out, HR.out.symm, by omega, Only.refl _ _, .inl rfl⟩
end
end Go.Proofs.Ytgiogmbopiblmaa
