/- The bounds of the acts; two new tables; a copy. No condition but those written. -/
import Derived.Test.YtkhjdhoaephdkaaDoorNsi
import Derived.Test.YtkhjdhoaephdkaaDoorNamCopy4
namespace Go.Proofs.YtkhjdhoaephdkaaDoor
open Go.RowKit

def light3 (l : List Ac3) : Bool := l.all (fun a => decide (a.s.size ≤ 1200)) && decide (l.length ≤ 60)
theorem light3_iff {l : List Ac3} : light3 l = true ↔ (∀ a ∈ l, a.s.size ≤ 1200) ∧ l.length ≤ 60 := by simp [light3]
set_option maxRecDepth 100000 in
theorem light3_any (l : List Ac3) (v : Value) (w : World) (h : Rd w v 6 l.length (rows Ac3.cells l)) (hn : l.length ≤ maxLen) : Calls Tryd.prog 32 #[v] w fun e w' => e = .returned (.bool (light3 l)) ∧ w = w' := by
  unfold maxLen at hn
  obtain ⟨A, c, rfl, _⟩ := id h
  obtain ⟨n, hnn⟩ : ∃ n, n = l.length := ⟨_, rfl⟩
  rw [← hnn] at h hn ⊢
  have HN := hide hnn
  have H := hide h
  clear h hnn
  go_enter Tryd.func32, Tryd.ntmps32
  go_wp2
  go_loop [3] (fun i => ∃ k : Nat, k ≤ n ∧ i = .int .i64 (k : Int) ∧ ∀ j a, j < k → l[j]? = some a → a.s.size ≤ 1200) (fun i => n - (intOf i).toNat)
  case atStart => exact ⟨0, Nat.zero_le _, rfl, fun j a hj => by omega⟩
  case round =>
    obtain ⟨k, hk, rfl, hall⟩ := hrel
    have HALL := hide hall
    clear hall
    by_cases hlt : k < n
    · have y1 : decide (k < n) = true := by simpa using hlt
      have y2 : decide ((k : Int) < (n : Int)) = true := by simp; omega
      obtain ⟨a, ha⟩ : ∃ a, l[k]? = some a := ⟨_, List.getElem?_eq_getElem (by rw [← HN.out]; exact hlt)⟩
      have hr : Rd w (.slice A l.length c) 6 l.length (rows Ac3.cells l) := by rw [← HN.out]; exact H.out
      obtain ⟨g, off, c', hv, hc⟩ := hr.fld ac3_len (by rw [← HN.out]; omega)
      obtain ⟨rfl, rfl⟩ : A = some ⟨g, off, none⟩ ∧ c = c' := by
        injection hv with e1 _ e2
        exact ⟨e1, e2⟩
      have p6 := hc k a 3 _ ha rfl
      have HA := hide ha
      have HLT := hide hlt
      clear hc hr hv ha
      by_cases hbig : 1200 < a.s.size
      · have z1 : decide (1200 < a.s.size) = true := by simpa using hbig
        have z2 : decide ((1200 : Int) < (a.s.size : Int)) = true := by simp; omega
        have HF := hide (show light3 l = false by
          cases hb : light3 l with
          | false => rfl
          | true => have := (light3_iff.1 hb).1 a (List.mem_of_getElem? HA.out); omega)
        clear hbig
        go_wp2
        go_ret
        exact ⟨by rw [HF.out]; rfl, rfl⟩
      · have z1 : decide (1200 < a.s.size) = false := by simpa using hbig
        have z2 : decide ((1200 : Int) < (a.s.size : Int)) = false := by simp; omega
        have HS := hide (show a.s.size ≤ 1200 by omega)
        clear hbig
        go_wp2
        go_round
        case rel => exact ⟨k + 1, HLT.out, by go_num, fun j x hj hx => by
          by_cases e : j = k
          · subst e
            rw [HA.out] at hx
            cases hx
            exact HS.out
          · exact HALL.out j x (by omega) hx⟩
        case measure => have := HLT.out; simp [intOf]; omega
    · have y1 : decide (k < n) = false := by simpa using hlt
      have y2 : decide ((k : Int) < (n : Int)) = false := by simp; omega
      obtain rfl : k = n := by omega
      have HL := hide (show ∀ a ∈ l, a.s.size ≤ 1200 from fun a ha => by
        obtain ⟨j, hj⟩ := List.mem_iff_getElem?.1 ha
        exact HALL.out j a (by rw [HN.out]; exact (List.getElem?_eq_some_iff.1 hj).1) hj)
      by_cases h60 : k ≤ 60
      · have z1 : decide (k ≤ 60) = true := by simpa using h60
        have z2 : decide ((k : Int) ≤ 60) = true := by simp; omega
        have HF := hide (show light3 l = true from light3_iff.2 ⟨HL.out, by rw [← HN.out]; exact h60⟩)
        go_wp2
        go_ret
        exact ⟨by rw [HF.out]; rfl, rfl⟩
      · have z1 : decide (k ≤ 60) = false := by simpa using h60
        have z2 : decide ((k : Int) ≤ 60) = false := by simp; omega
        have HF := hide (show light3 l = false by
          cases hb : light3 l with
          | false => rfl
          | true => have := (light3_iff.1 hb).2; rw [← HN.out] at this; omega)
        go_wp2
        go_ret
        exact ⟨by rw [HF.out]; rfl, rfl⟩

/-! ### The examples of the chapter -/
section
variable {W w w' : World} {tb ob : Nat} {A D : List Sym} {O : List RSym} {R : Heap}
theorem duo_new {f : FuncId} {args : Array Value} {F : Nat → Prop} (h1 : TableIs w tb A F) (h2 : ∀ k, F k → W.heap.size ≤ k) (hb : Below W.heap.size W w) (hc : ∀ R', Own W w R' → Calls Tryd.prog f args w fun e w' => ∃ ob lv, e = .returned (.pointer (some ⟨ob, 0, none⟩)) ∧ RAt W w' ob lv O R') : Calls Tryd.prog f args w fun e w' => ∃ ob, e = .returned (.pointer (some ⟨ob, 0, none⟩)) ∧ Duo W w' tb A ob O [] := by
  classical
  obtain ⟨Z, hZ⟩ : ∃ Z : Heap, Z = ((List.range w.heap.size).filter (fun k => decide (F k))).map (fun k => (k, Ast.obj ((w.heap[k]?).getD (.cells #[] 0)))) := ⟨_, rfl⟩
  have hZ1 : ∀ x ∈ Z, F x.1 ∧ ∃ o, x.2 = .obj o ∧ w.heap[x.1]? = some o := fun x hx => by
    rw [hZ] at hx
    obtain ⟨k, hk, rfl⟩ := List.mem_map.1 hx
    have h6 := (List.mem_filter.1 hk).2
    have hF : F k := by simpa using h6
    exact ⟨hF, _, rfl, by rw [Array.getElem?_eq_getElem (h1.bound k hF)]; rfl⟩
  have hZ2 : ∀ k, F k → ∃ o, (k, Ast.obj o) ∈ Z ∧ w.heap[k]? = some o := fun k hk => by
    have hlt := h1.bound k hk
    refine ⟨w.heap[k], ?_, Array.getElem?_eq_getElem hlt⟩
    rw [hZ]
    exact List.mem_map.2 ⟨k, List.mem_filter.2 ⟨List.mem_range.2 hlt, by simpa using hk⟩, by rw [Array.getElem?_eq_getElem hlt]; rfl⟩
  have hZ3 : (Heap.blocks Z).Nodup := by
    have e : Heap.blocks Z = ((List.range w.heap.size).filter (fun k => decide (F k))) := by
      rw [hZ]
      unfold Heap.blocks
      rw [List.map_map]
      conv => rhs; rw [← List.map_id ((List.range w.heap.size).filter fun k => decide (F k))]
      rfl
    rw [e]
    exact List.nodup_range.filter _
  have h5 : Own W w Z := ⟨hb, hZ3, fun x hx => by
    obtain ⟨hF, o, ho, hh⟩ := hZ1 x hx
    refine ⟨?_, h2 _ hF⟩
    rw [ho]
    exact hh⟩
  refine (hc _ h5).mono ?_
  rintro e w' ⟨ob, lv, rfl, ht⟩
  refine ⟨ob, rfl, F, lv, h1.same fun k hk => ?_, h2, ⟨ht.own.sub ((List.Sublist.refl _).append (List.nil_sublist _)), ht.ok, ht.okp, ht.len⟩, fun k hk hF => ?_⟩
  · obtain ⟨o, ho, hh⟩ := hZ2 k hk
    rw [hh]
    exact (ht.own.all (k, .obj o) (List.mem_append_right _ ho)).1
  · obtain ⟨o, ho, _⟩ := hZ2 k hF
    have hn := ht.own.nod
    rw [Heap.blocks_append, List.nodup_append] at hn
    rw [List.append_nil] at hk
    exact hn.2.2 k hk k (List.mem_map.2 ⟨_, ho, rfl⟩) rfl
theorem alike_fixed : Alike fixedSyms rFixed := by
  refine ⟨?_, fun x hx => ?_, by rw [fixedSyms_len]; omega, by rw [fixedSyms_len]; omega⟩
  · unfold fixedSyms symsOf rFixed
    rw [List.map_map, List.map_map]
    exact List.map_congr_left fun s _ => fresh_ps s true
  · simp only [fixedSyms, symsOf, List.mem_map] at hx
    obtain ⟨s, _, rfl⟩ := hx
    exact symOk_fresh s true
theorem Alike.twin (h : Alike A O) (hs : stripped D = stripped A) : Alike D O := by
  have hl := stripped_len hs
  refine ⟨?_, fun x hx => ?_, by rw [hl]; exact h.two, by rw [hl]; exact h.len⟩
  · rw [← h.eq]
    have h1 := congrArg (List.map Sym.ps) hs
    unfold stripped at h1
    rw [List.map_map, List.map_map] at h1
    exact h1
  · obtain ⟨i, hi⟩ := List.mem_iff_getElem?.1 hx
    obtain ⟨y, hy, e⟩ := at_twin hs.symm hi
    have ho := h.ok y (List.mem_of_getElem? hy)
    have e1 : y.props = x.props := (congrArg Sym.props e : y.strip.props = x.strip.props)
    have e2 : y.fb = x.fb := (congrArg Sym.fb e : y.strip.fb = x.strip.fb)
    have e3 : y.fk = x.fk := (congrArg Sym.fk e : y.strip.fk = x.strip.fk)
    have e4 : y.fn = x.fn := (congrArg Sym.fn e : y.strip.fn = x.strip.fn)
    exact ⟨e1 ▸ ho.nd, e1 ▸ ho.key, e1 ▸ ho.len, e2 ▸ e3 ▸ e4 ▸ ho.fn⟩
end
end Go.Proofs.YtkhjdhoaephdkaaDoor
