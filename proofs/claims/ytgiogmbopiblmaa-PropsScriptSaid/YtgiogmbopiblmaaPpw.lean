/- The object's frame; Put, Take. No condition but those written. -/
import Derived.Test.YtgiogmbopiblmaaPpv
namespace Go.Proofs.Ytgiogmbopiblmaa
open Go.RowKit

/-- The blocks that only this object has. -/
def foot (b : Nat) (sv : Value) (g : Nat) : Prop := g = b ∨ sv.ownBlock = some g
/-- No list of properties lies there. -/
def Calm (w : World) (F : Nat → Prop) : Prop := ∀ g, F g → ∀ v q, PrS w v q → ¬ v.ownBlock = some g
theorem PropsAt.frame {w w' : World} {b : Nat} {sv : Value} {L : List (Pc × Value)} {F : Nat → Prop} (h : PropsAt w b sv L) (ho : Only F w w') (hb : ∀ g, foot b sv g → ¬ F g) (hq : Calm w F) : PropsAt w' b sv L :=
  ⟨h.box.only ho (hb b (.inl rfl)), ⟨h.inn.row.only ho fun g hg => hb g (.inr hg), fun p hp => Sl.only (h.inn.inn p hp) ho fun g hg hF => hq g hF _ _ (h.inn.inn p hp) hg⟩, h.nf⟩
theorem PropsAt.calm {w : World} {b : Nat} {sv : Value} {L : List (Pc × Value)} (h : PropsAt w b sv L) : Calm w (foot b sv) := by
  rintro g (rfl | hg) v q hv e
  · exact Sl.ne_blk hv h.box (by decide) e
  · exact Sl.apart hv h.inn.row (by decide) g e hg
theorem PropsAt.footlt {w : World} {b : Nat} {sv : Value} {L : List (Pc × Value)} (h : PropsAt w b sv L) : ∀ g, foot b sv g → g < w.heap.size := by
  rintro g (rfl | hg)
  · exact h.box.lt
  · rcases h.inn.row.2 with ⟨e, _⟩ | ⟨g1, o1, c1, cs1, e, hh, _⟩
    · rw [e] at hg
      cases hg
    · rw [e] at hg
      cases hg
      exact lt_of_heap hh
/-- Behind a method: the object with other pieces. -/
def MRes (w : World) (b : Nat) (sv : Value) (P' : List Pc) (w' : World) : Prop := ∃ sv' L', PropsAt w' b sv' L' ∧ pcs L' = P' ∧ Only (foot b sv) w w' ∧ ∀ g, sv'.ownBlock = some g → sv.ownBlock = some g ∨ w.heap.size ≤ g
def putE (P : List Pc) (a b : Int) (x : Pr) : Int := if chkE a b x.1 ≠ 0 then chkE a b x.1 else if fullP (changeP a.toNat b.toNat (fun q => withP q x) P) then 7 else 0
def putP (P : List Pc) (a b : Int) (x : Pr) : List Pc := if chkE a b x.1 ≠ 0 then P else if fullP (changeP a.toNat b.toNat (fun q => withP q x) P) then P else changeP a.toNat b.toNat (fun q => withP q x) P
def takeP (P : List Pc) (a b n : Int) : List Pc := if chkE a b n ≠ 0 then P else changeP a.toNat b.toNat (fun q => withoutP q n) P
theorem chkE_ok {a b n : Int} (h : chkE a b n = 0) : 1 ≤ a ∧ a ≤ b ∧ b ≤ 65537 ∧ 0 ≤ n := by
  unfold chkE at h
  split at h
  · rename_i h1
    split at h
    · cases h
    · exact ⟨h1.1, h1.2.1, h1.2.2, by omega⟩
  · cases h
theorem Good.fits {P : List Pc} {N : Nat} (h : Good P N) : ∀ p ∈ P, p.pr.length ≤ N := fun _ hp => (h.mem hp).2.2.2.2.2.2
section
variable {w : World} {b : Nat} {sv : Value} {L : List (Pc × Value)} {N : Nat}
/-- The pieces are laid anew. -/
theorem PropsAt.store {w1 w2 : World} {sv' : Value} {L' : List (Pc × Value)} {F : Nat → Prop} (h : PropsAt w b sv L) (h1 : Only F w w1) (hF : ∀ g, F g → sv.ownBlock = some g ∨ w.heap.size ≤ g) (hp : PcsAt w1 sv' L') (hn : Nf 0 [] (pcs L')) (hv : ∀ g, sv'.ownBlock = some g → sv.ownBlock = some g ∨ w.heap.size ≤ g) (e : w2 = w1.setCell ⟨b, 0, none⟩ sv') : MRes w b sv (pcs L') w2 := by
  subst e
  have hbl := h.box.lt
  have hne : ¬ sv.ownBlock = some b := fun e => Sl.ne_blk h.inn.row h.box (by decide) e
  have k1 : Blk w1 b 69 #[sv, .bool true] := h.box.only h1 fun e => by
    rcases hF b e with e | e
    · exact hne e
    · omega
  have hst : Only (· = b) w1 (w1.setCell ⟨b, 0, none⟩ sv') := (Only.refl (· = b) w1).setCell (p := ⟨b, 0, none⟩) (.inl rfl) _
  refine ⟨sv', L', ⟨k1.set_ 0 _, ⟨hp.row.only hst fun g hg e => ?_, fun p hpp => ?_⟩, hn⟩, rfl, ?_, hv⟩
  · subst e
    exact Sl.ne_blk hp.row k1 (by decide) hg
  · refine Sl.only (hp.inn p hpp) hst fun g hg e => ?_
    subst e
    exact Sl.ne_blk (hp.inn p hpp) k1 (by decide) hg
  · exact (h1.mono fun g hg e => (hF g e).elim .inr fun h => absurd hg (by omega)).trans (hst.mono fun g _ e => .inl e)
theorem MRes.same {w' : World} (h : PropsAt w b sv L) (hb : Below w.heap.size w w') : MRes w b sv (pcs L) w' := ⟨sv, L, h.below hb, rfl, Only.of_below hb, fun _ hg => .inl hg⟩
set_option maxRecDepth 100000 in
set_option maxHeartbeats 8000000 in
theorem put_any (h : PropsAt w b sv L) (hg : Good (pcs L) N) (hN : N ≤ 1000) (fr en n k v : Int) :
    Calls Try.prog 13 #[.pointer (some ⟨b, 0, none⟩), .int .i64 fr, .int .i64 en, .int .i64 n, .agg #[.int .i64 k, .int .i64 v]] w fun e w' => e = .returned (.int .i64 (putE (pcs L) fr en (n, k, v))) ∧ MRes w b sv (putP (pcs L) fr en (n, k, v)) w' := by
  have hbx : Below w.heap.size w ((w.alloc (.cells #[.int .i64 n] 3)).alloc (.cells #[.int .i64 k, .int .i64 v] 29)) := ((Below.refl _ w).alloc (Nat.le_refl _) _).alloc (by simp) _
  have hP1 := h.below hbx
  have n1 : Blk ((w.alloc (.cells #[.int .i64 n] 3)).alloc (.cells #[.int .i64 k, .int .i64 v] 29)) w.heap.size 3 #[.int .i64 n] := (Blk.new w _ _).alloc _
  have n2 : Blk ((w.alloc (.cells #[.int .i64 n] 3)).alloc (.cells #[.int .i64 k, .int .i64 v] 29)) (w.heap.size + 1) 29 #[.int .i64 k, .int .i64 v] := by
    have := Blk.new (w.alloc (.cells #[.int .i64 n] 3)) 29 #[.int .i64 k, .int .i64 v]
    simpa using this
  have m0 : (((w.alloc (.cells #[.int .i64 n] 3)).alloc (.cells #[.int .i64 k, .int .i64 v] 29))).cell? ⟨w.heap.size, 0, none⟩ = some (.int .i64 n) := n1.cell 0
  have HCK := hide (check_at hP1 fr en n)
  have HBX := hide hbx
  have HP := hide h
  have HS := hide (fun w' (hb : Below w.heap.size w w') => MRes.same h hb)
  by_cases hck : chkE fr en n = 0
  · rw [hck] at HCK
    obtain ⟨f1, f2, f3, f4⟩ := chkE_ok hck
    obtain ⟨a, rfl⟩ : ∃ a : Nat, fr = (a : Int) := ⟨fr.toNat, by omega⟩
    obtain ⟨d, rfl⟩ : ∃ d : Nat, en = (d : Int) := ⟨en.toNat, by omega⟩
    obtain ⟨A, c, rfl, _⟩ := h.inn.row.form
    have c0 : (((w.alloc (.cells #[.int .i64 n] 3)).alloc (.cells #[.int .i64 k, .int .i64 v] 29))).cell? ⟨b, 0, none⟩ = some (.slice A L.length c) := hP1.box.cell 0
    have hLs := hg.size
    rw [pcs_len] at hLs
    have HCL := hide (clone_pcs (.slice A L.length c) L.length (rows pcC L) (((w.alloc (.cells #[.int .i64 n] 3)).alloc (.cells #[.int .i64 k, .int .i64 v] 29))) hP1.inn.row.rd hP1.inn.one (by omega))
    have hgc : Good (changeP a d (fun q => withP q (n, k, v)) (pcs L)) (N + 1) := hg.change (by omega) (by omega) (by omega) (fun q hq => hq.with_ f4) (by omega)
    have HCH := hide (fun (w2 : World) (v2 : Value) (hb : Below (((w.alloc (.cells #[.int .i64 n] 3)).alloc (.cells #[.int .i64 k, .int .i64 v] 29))).heap.size (((w.alloc (.cells #[.int .i64 n] 3)).alloc (.cells #[.int .i64 k, .int .i64 v] 29))) w2) (hp : PcsAt w2 v2 L) => change_any (fn_put (x := (n, k, v)) (n1.below hb n1.lt) (n2.below hb n2.lt) (N := N) (by omega)) hp h.nf a d (by omega) (by omega) (by omega) hg.fits (by omega) (by omega) (by omega))
    have HIN := hide (fun (w2 : World) (v2 : Value) (hb : Below (((w.alloc (.cells #[.int .i64 n] 3)).alloc (.cells #[.int .i64 k, .int .i64 v] 29))).heap.size (((w.alloc (.cells #[.int .i64 n] 3)).alloc (.cells #[.int .i64 k, .int .i64 v] 29))) w2) (hs : Sl w2 73 3 v2 L.length (rows pcC L)) => (⟨hs, fun p hp => (hP1.inn.inn p hp).below hb⟩ : PcsAt w2 v2 L))
    have hPE : putE (pcs L) a d (n, k, v) = if fullP (changeP a d (fun q => withP q (n, k, v)) (pcs L)) then 7 else 0 := by unfold putE; rw [if_neg (by simpa using hck)]; simp only [Int.toNat_natCast]
    have hPP : putP (pcs L) a d (n, k, v) = if fullP (changeP a d (fun q => withP q (n, k, v)) (pcs L)) then pcs L else changeP a d (fun q => withP q (n, k, v)) (pcs L) := by unfold putP; rw [if_neg (by simpa using hck)]; simp only [Int.toNat_natCast]
    rw [hPE, hPP]
    have HFU := hide (fun (w4 : World) (v4 : Value) (L4 : List (Pc × Value)) (h4 : PcsAt w4 v4 L4) (e4 : pcs L4 = changeP a d (fun q => withP q (n, k, v)) (pcs L)) => full_any h4 (by rw [← pcs_len, e4]; have := hgc.size; omega) (fun p hp => by have := (e4 ▸ hgc).fits _ (List.mem_map_of_mem hp); omega))
    have HST := hide (fun (w5 : World) (v5 : Value) (L5 : List (Pc × Value)) (F : Nat → Prop) (ho : Only F w w5) (hF : ∀ g, F g → (Value.slice A L.length c).ownBlock = some g ∨ w.heap.size ≤ g) (hp : PcsAt w5 v5 L5) (he : pcs L5 = changeP a d (fun q => withP q (n, k, v)) (pcs L)) (hv : ∀ g, v5.ownBlock = some g → (Value.slice A L.length c).ownBlock = some g ∨ w.heap.size ≤ g) => h.store ho hF hp (by rw [he]; exact hgc.nf) hv rfl)
    obtain ⟨P2, hP2⟩ : ∃ P2, P2 = changeP a d (fun q => withP q (n, k, v)) (pcs L) := ⟨_, rfl⟩
    rw [← hP2] at HFU HST HCH ⊢
    clear h hP1 n1 n2 hbx hg hgc hPE hPP hLs
    cases hfu : fullP P2 with
    | true =>
      rw [if_pos rfl, if_pos rfl]
      go_enter Try.func13, Try.ntmps13
      go_wp2_with (first | (go_at_call 43; (with_reducible refine Calls.mono HCK.out ?_); rintro r w2 ⟨rfl, rfl⟩) | (go_at_call 45; (with_reducible refine Calls.mono HCL.out ?_); rintro r w2 ⟨v2, rfl, s2, o2, b2⟩; have HC := hide (HCH.out _ _ b2 (HIN.out _ _ b2 s2)); have HB2 := hide (HBX.out.trans (b2.mono HBX.out.size)); have HO2 := hide (fun g hg => Nat.le_trans HBX.out.size (o2 g hg)); obtain ⟨A2, c2, rfl, _, _⟩ := s2.form; clear s2 o2 b2) | (go_at_call 44; (with_reducible refine Calls.mono HC.out ?_); rintro r w3 ⟨v3, L3, rfl, p3, e3, o3, g3⟩; have HB3 := hide (HB2.out.trans (o3.below HB2.out.size fun g hg => HO2.out g hg)); have HF := hide (HFU.out _ _ _ p3 e3); rw [e3, hfu] at HF; have HO3 := hide (show ∀ g, v3.ownBlock = some g → w.heap.size ≤ g from fun g hg => g3.elim (fun e => HO2.out g (e ▸ hg)) fun ⟨g', e, h2⟩ => by rw [e] at hg; cases hg; exact Nat.le_trans HB2.out.size h2); have H3 := hide p3; have E3 := hide e3; obtain ⟨A3, c3, rfl, _, _⟩ := p3.row.form; clear p3 e3 o3 g3) | (go_at_call 48; (with_reducible refine Calls.mono HF.out ?_); rintro r w4 ⟨rfl, b4⟩; have HB4 := hide (HB3.out.trans (b4.mono HB3.out.size)); have H4 := hide (H3.out.below b4); have KP := HP.out.below HB4.out; have k0 := KP.box.cell 0; have kf := KP.box.frozen 0; clear b4 KP))
      go_ret
      exact ⟨rfl, HS.out _ HB4.out⟩
    | false =>
      rw [if_neg (by simp), if_neg (by simp)]
      go_enter Try.func13, Try.ntmps13
      go_wp2_with (first | (go_at_call 43; (with_reducible refine Calls.mono HCK.out ?_); rintro r w2 ⟨rfl, rfl⟩) | (go_at_call 45; (with_reducible refine Calls.mono HCL.out ?_); rintro r w2 ⟨v2, rfl, s2, o2, b2⟩; have HC := hide (HCH.out _ _ b2 (HIN.out _ _ b2 s2)); have HB2 := hide (HBX.out.trans (b2.mono HBX.out.size)); have HO2 := hide (fun g hg => Nat.le_trans HBX.out.size (o2 g hg)); obtain ⟨A2, c2, rfl, _, _⟩ := s2.form; clear s2 o2 b2) | (go_at_call 44; (with_reducible refine Calls.mono HC.out ?_); rintro r w3 ⟨v3, L3, rfl, p3, e3, o3, g3⟩; have HB3 := hide (HB2.out.trans (o3.below HB2.out.size fun g hg => HO2.out g hg)); have HF := hide (HFU.out _ _ _ p3 e3); rw [e3, hfu] at HF; have HO3 := hide (show ∀ g, v3.ownBlock = some g → w.heap.size ≤ g from fun g hg => g3.elim (fun e => HO2.out g (e ▸ hg)) fun ⟨g', e, h2⟩ => by rw [e] at hg; cases hg; exact Nat.le_trans HB2.out.size h2); have H3 := hide p3; have E3 := hide e3; obtain ⟨A3, c3, rfl, _, _⟩ := p3.row.form; clear p3 e3 o3 g3) | (go_at_call 48; (with_reducible refine Calls.mono HF.out ?_); rintro r w4 ⟨rfl, b4⟩; have HB4 := hide (HB3.out.trans (b4.mono HB3.out.size)); have H4 := hide (H3.out.below b4); have KP := HP.out.below HB4.out; have k0 := KP.box.cell 0; have kf := KP.box.frozen 0; clear b4 KP))
      go_ret
      have hm := HST.out _ _ L3 (fun _ => False) (Only.of_below HB4.out) (fun g h => h.elim) H4.out E3.out (fun g hg => .inr (HO3.out g hg))
      rw [E3.out] at hm
      exact ⟨rfl, hm⟩
  · have hck2 : (chkE fr en n != 0) = true := by simpa using hck
    have hPE : putE (pcs L) fr en (n, k, v) = chkE fr en n := if_pos hck
    have hPP : putP (pcs L) fr en (n, k, v) = pcs L := if_pos hck
    rw [hPE, hPP]
    obtain ⟨e0, he0⟩ : ∃ e, e = chkE fr en n := ⟨_, rfl⟩
    rw [← he0] at HCK hck hck2 ⊢
    clear h hP1 n1 n2 hg he0 hPE hPP hbx
    go_enter Try.func13, Try.ntmps13
    go_wp2_with (go_at_call 43; (with_reducible refine Calls.mono HCK.out ?_); rintro r w2 ⟨rfl, rfl⟩)
    go_ret
    exact ⟨rfl, HS.out _ HBX.out⟩
set_option maxRecDepth 100000 in
set_option maxHeartbeats 8000000 in
theorem take_any (h : PropsAt w b sv L) (hg : Good (pcs L) N) (hN : N ≤ 1000) (fr en n : Int) :
    Calls Try.prog 23 #[.pointer (some ⟨b, 0, none⟩), .int .i64 fr, .int .i64 en, .int .i64 n] w fun e w' => e = .returned (.int .i64 (chkE fr en n)) ∧ MRes w b sv (takeP (pcs L) fr en n) w' := by
  have hbx : Below w.heap.size w (w.alloc (.cells #[.int .i64 n] 3)) := (Below.refl _ w).alloc (Nat.le_refl _) _
  have hP1 := h.below hbx
  have n1 : Blk (w.alloc (.cells #[.int .i64 n] 3)) w.heap.size 3 #[.int .i64 n] := Blk.new w _ _
  have m0 : ((w.alloc (.cells #[.int .i64 n] 3))).cell? ⟨w.heap.size, 0, none⟩ = some (.int .i64 n) := n1.cell 0
  have HCK := hide (check_at hP1 fr en n)
  have HBX := hide hbx
  have HP := hide h
  have HS := hide (fun w' (hb : Below w.heap.size w w') => MRes.same h hb)
  by_cases hck : chkE fr en n = 0
  · rw [hck] at HCK
    obtain ⟨f1, f2, f3, f4⟩ := chkE_ok hck
    obtain ⟨a, rfl⟩ : ∃ a : Nat, fr = (a : Int) := ⟨fr.toNat, by omega⟩
    obtain ⟨d, rfl⟩ : ∃ d : Nat, en = (d : Int) := ⟨en.toNat, by omega⟩
    obtain ⟨A, c, rfl, _⟩ := h.inn.row.form
    have c0 : ((w.alloc (.cells #[.int .i64 n] 3))).cell? ⟨b, 0, none⟩ = some (.slice A L.length c) := hP1.box.cell 0
    have hLs := hg.size
    rw [pcs_len] at hLs
    have hgc : Good (changeP a d (fun q => withoutP q n) (pcs L)) N := hg.change (by omega) (by omega) (by omega) (fun q hq => hq.without n) (Nat.le_refl _)
    have HC := hide (change_any (fn_take (n := n) n1 (N := N) (by omega)) hP1.inn h.nf a d (by omega) (by omega) (by omega) hg.fits (Nat.le_refl _) (by omega) (by omega))
    have hPP : takeP (pcs L) a d n = changeP a d (fun q => withoutP q n) (pcs L) := by unfold takeP; rw [if_neg (by simpa using hck)]; simp only [Int.toNat_natCast]
    rw [hPP, hck]
    have HST := hide (fun (w5 : World) (v5 : Value) (L5 : List (Pc × Value)) (F : Nat → Prop) (ho : Only F w w5) (hF : ∀ g, F g → (Value.slice A L.length c).ownBlock = some g ∨ w.heap.size ≤ g) (hp : PcsAt w5 v5 L5) (he : pcs L5 = changeP a d (fun q => withoutP q n) (pcs L)) (hv : ∀ g, v5.ownBlock = some g → (Value.slice A L.length c).ownBlock = some g ∨ w.heap.size ≤ g) => h.store ho hF hp (by rw [he]; exact hgc.nf) hv rfl)
    have hne : ¬ (Value.slice A L.length c).ownBlock = some b := fun e => Sl.ne_blk h.inn.row h.box (by decide) e
    have HKB := hide (fun (w3 : World) (ho : Only (fun g => (Value.slice A L.length c).ownBlock = some g) ((w.alloc (.cells #[.int .i64 n] 3))) w3) => hP1.box.only ho hne)
    clear h hP1 n1 hg hgc hPP hLs hbx hck hne
    go_enter Try.func23, Try.ntmps23
    go_wp2_with (first | (go_at_call 43; (with_reducible refine Calls.mono HCK.out ?_); rintro r w2 ⟨rfl, rfl⟩) | (go_at_call 44; (with_reducible refine Calls.mono HC.out ?_); rintro r w3 ⟨v3, L3, rfl, p3, e3, o3, g3⟩; have hk := HKB.out _ o3; have k0 := hk.cell 0; have kf := hk.frozen 0; have HO := hide (show Only (fun g => (Value.slice A L.length c).ownBlock = some g) w w3 from (Only.of_below HBX.out).trans o3); have HO3 := hide (show ∀ g, v3.ownBlock = some g → (Value.slice A L.length c).ownBlock = some g ∨ w.heap.size ≤ g from fun g hg => g3.elim (fun e => .inl (e ▸ hg)) fun ⟨g', e, h2⟩ => by rw [e] at hg; cases hg; exact .inr (Nat.le_trans HBX.out.size h2)); have H3 := hide p3; have E3 := hide e3; obtain ⟨A3, c3, rfl, _, _⟩ := p3.row.form; clear p3 e3 o3 g3 hk))
    go_ret
    have hm := HST.out _ _ L3 _ HO.out (fun g h => .inl h) H3.out E3.out HO3.out
    rw [E3.out] at hm
    exact ⟨rfl, hm⟩
  · have hck2 : (chkE fr en n != 0) = true := by simpa using hck
    have hPP : takeP (pcs L) fr en n = pcs L := if_pos hck
    rw [hPP]
    obtain ⟨e0, he0⟩ : ∃ e, e = chkE fr en n := ⟨_, rfl⟩
    rw [← he0] at HCK hck hck2 ⊢
    clear h hP1 n1 hg he0 hPP hbx
    go_enter Try.func23, Try.ntmps23
    go_wp2_with (go_at_call 43; (with_reducible refine Calls.mono HCK.out ?_); rintro r w2 ⟨rfl, rfl⟩)
    go_ret
    exact ⟨rfl, HS.out _ HBX.out⟩
set_option maxRecDepth 100000 in
set_option maxHeartbeats 4000000 in
theorem new_any (w : World) : Calls Try.prog 12 #[] w fun e w' => ∃ b, e = .returned (.pointer (some ⟨b, 0, none⟩)) ∧ w.heap.size ≤ b ∧ PropsAt w' b (.slice none 0 0) [] ∧ Below w.heap.size w w' := by
  have HB := hide (below_box w (.cells #[.slice none 0 0, .bool true] 69))
  have HP := hide (show PropsAt (w.alloc (.cells #[.slice none 0 0, .bool true] 69)) w.heap.size (.slice none 0 0) [] from ⟨Blk.new w _ _, PcsAt.nil _, trivial⟩)
  go_enter Try.func12, Try.ntmps12
  go_wp2
  go_ret
  exact ⟨_, rfl, Nat.le_refl _, HP.out, HB.out⟩
set_option maxRecDepth 100000 in
set_option maxHeartbeats 4000000 in
theorem copy_any (h : PropsAt w b sv L) (hl : L.length ≤ 1000000) : Calls Try.prog 41 #[.pointer (some ⟨b, 0, none⟩)] w fun e w' => ∃ b' sv', e = .returned (.pointer (some ⟨b', 0, none⟩)) ∧ PropsAt w' b' sv' L ∧ (∀ g, foot b' sv' g → w.heap.size ≤ g) ∧ Below w.heap.size w w' := by
  have HN := hide (none_at h)
  obtain ⟨A, c, rfl, _⟩ := h.inn.row.form
  have c0 : w.cell? ⟨b, 0, none⟩ = some (.slice A L.length c) := h.box.cell 0
  have HCL := hide (clone_pcs (.slice A L.length c) L.length (rows pcC L) w h.inn.row.rd h.inn.one hl)
  have HP := hide h
  clear h hl
  go_enter Try.func41, Try.ntmps41
  go_wp2_with (first | (go_at_call 52; (with_reducible refine Calls.mono HN.out ?_); rintro r w2 ⟨rfl, rfl⟩) | (go_at_call 45; (with_reducible refine Calls.mono HCL.out ?_); rintro r w2 ⟨v2, rfl, s2, o2, b2⟩; have S2 := hide s2; have O2 := hide o2; have B2 := hide b2; obtain ⟨A2, c2, rfl, _, _⟩ := s2.form; clear s2 o2 b2))
  go_ret
  have hbb := below_box w2 (.cells #[.slice A2 L.length c2, .bool true] 69)
  refine ⟨_, .slice A2 L.length c2, rfl, ⟨Blk.new w2 _ _, ⟨S2.out.alloc _, fun p hp => ((HP.out.inn.inn p hp).below B2.out).below hbb⟩, HP.out.nf⟩, ?_, B2.out.trans (hbb.mono B2.out.size)⟩
  rintro g (rfl | hg)
  · exact B2.out.size
  · exact O2.out g hg
end
end Go.Proofs.Ytgiogmbopiblmaa
