/- The faces in memory, and the chain of a face. No condition but those written. -/
import Derived.Test.YtmjogpacajbngaaFb
import Derived.Test.YtmjogpacajbngaaFr
namespace Go.Proofs.Ytmjogpacajbngaa
open Go.RowKit Go.Shelf
attribute [local go_sem] Oper.semAt_some

abbrev Fm := List (ByteArray × Att)
def facePairs (D : Fm) : List (Value × Value) := D.map fun x => (.string x.1, x.2.val)
abbrev attZero : Att := ⟨0, 0, 0, 0, 0, ⟨#[]⟩⟩
def look (D : Fm) (s : ByteArray) : Option Att := (D.find? fun x => s == x.1).map (·.2)
def lookZ (D : Fm) (s : ByteArray) : Att := (look D s).getD attZero
theorem face_get (D : Fm) (s : ByteArray) : mget (facePairs D) (.string s) = (look D s).map Att.val := by
  unfold mget facePairs look
  rw [List.find?_map]
  simp only [Option.map_map]
  rfl
theorem face_keys (D : Fm) : KeysOf .string (facePairs D) := fun x hx => by
  obtain ⟨y, _, rfl⟩ := List.mem_map.1 hx
  exact .str _
theorem zero_attrs (w : World) : (zeroValue 23).run Try.prog w = .ok attZero.val w := by kernel_rfl
theorem face_lookup {w : World} {mb : Nat} {D : Fm} (h : MapIs w mb (facePairs D)) (s : ByteArray) : (Instr.lookup 58 (.map (some mb)) (.string s) false).run Try.prog w = .ok (lookZ D s).val w := by
  have := h.lookup (P := Try.prog) (face_keys D) Try.underlying58 Try.underlying9 (.str s) (zero_attrs w) false
  rw [this, face_get]
  unfold lookZ
  cases look D s <;> rfl
theorem face_lookup2 {w : World} {mb : Nat} {D : Fm} (h : MapIs w mb (facePairs D)) (s : ByteArray) : (Instr.lookup 58 (.map (some mb)) (.string s) true).run Try.prog w = .ok (.tuple #[(lookZ D s).val, .bool (look D s).isSome]) w := by
  have := h.lookup (P := Try.prog) (face_keys D) Try.underlying58 Try.underlying9 (.str s) (zero_attrs w) true
  rw [this, face_get]
  unfold lookZ
  cases look D s <;> rfl
/-- The names that a face and those above it bear. -/
inductive Chain (D : Fm) : ByteArray → List ByteArray → Prop
  | nil : Chain D ⟨#[]⟩ []
  | cons {s : ByteArray} {l : List ByteArray} (h : s ≠ ⟨#[]⟩) : Chain D (lookZ D s).inh l → Chain D s (s :: l)
theorem Chain.uniq {D : Fm} {s : ByteArray} {l m : List ByteArray} (h : Chain D s l) (k : Chain D s m) : l = m := by
  induction h generalizing m with
  | nil =>
    cases k with
    | nil => rfl
    | cons h _ => exact absurd rfl h
  | cons h _ ih =>
    cases k with
    | nil => exact absurd rfl h
    | cons _ k => rw [ih k]
noncomputable def chLen (D : Fm) : Option Value → Nat
  | some (.string s) => (Classical.epsilon fun l => Chain D s l).length
  | _ => 0
theorem chLen_eq {D : Fm} {s : ByteArray} {l : List ByteArray} (h : Chain D s l) : chLen D (some (.string s)) = l.length := by
  have hx := Classical.epsilon_spec (p := fun l => Chain D s l) ⟨l, h⟩
  show (Classical.epsilon fun l => Chain D s l).length = _
  rw [hx.uniq h]
/-- The iterator's variables: the name's box, the receiver's box, the faces, the map. -/
structure ChAt (W : World) (bn bf fb mb : Nat) (D : Fm) (s : ByteArray) : Prop where
  n : Blk W bn 9 #[.string s]
  f : Blk W bf 30 #[.pointer (some ⟨fb, 0, none⟩)]
  m : Blk W fb 60 #[.map (some mb)]
  d : MapIs W mb (facePairs D)
def KpC (bn bf fb mb : Nat) (W W' : World) : Prop := W'.heap[bn]? = W.heap[bn]? ∧ W'.heap[bf]? = W.heap[bf]? ∧ W'.heap[fb]? = W.heap[fb]? ∧ W'.heap[mb]? = W.heap[mb]?
section
variable {W W' : World} {bn bf fb mb : Nat} {D : Fm} {s : ByteArray}
theorem ChAt.keep (h : ChAt W bn bf fb mb D s) (k : KpC bn bf fb mb W W') : ChAt W' bn bf fb mb D s := ⟨h.n.same k.1, h.f.same k.2.1, h.m.same k.2.2.1, h.d.same k.2.2.2⟩
theorem ChAt.below {n0 : Nat} (h : ChAt W bn bf fb mb D s) (hb : Below n0 W W') (h1 : bn < n0 ∧ bf < n0 ∧ fb < n0 ∧ mb < n0) : ChAt W' bn bf fb mb D s :=
  h.keep ⟨hb.block _ h1.1, hb.block _ h1.2.1, hb.block _ h1.2.2.1, hb.block _ h1.2.2.2⟩
theorem ChAt.step (h : ChAt W bn bf fb mb D s) (t : ByteArray) : ChAt (W.setCell ⟨bn, 0, none⟩ (.string t)) bn bf fb mb D t :=
  ⟨by have := h.n.set_ 0 (.string t); exact this, h.f.far (h.f.ne_ h.n (by decide)) _, h.m.far (h.m.ne_ h.n (by decide)) _, h.d.setCell _ _⟩
end
theorem att_field5 (a : Att) (w : World) : (Instr.field 23 (.agg #[.int .i64 a.fo, .int .i64 a.ba, .int .i64 a.bo, .int .i64 a.un, .int .i64 a.iv, .string a.inh]) 5).run Try.prog w = .ok (.string a.inh) w := by kernel_rfl
theorem ne_empty {t : ByteArray} (h : t ≠ ⟨#[]⟩) : t.toList.isEmpty = false := by
  rw [ByteArray.toList_eq]
  cases hl : t.data.toList with
  | nil => exact absurd (ByteArray.ext (Array.toList_inj.1 hl)) h
  | cons _ _ => rfl
set_option maxRecDepth 100000 in
set_option maxHeartbeats 4000000 in
theorem chain_turns (F : Fence) (n : Nat) (h56 : F.fn 56) (hro : F.round = none) (hn : 1 ≤ n) {w : World} {bn bf fb mb : Nat} {D : Fm} {s : ByteArray} {xs : List ByteArray} (hc : ChAt w bn bf fb mb D s) (hx : Chain D s xs) :
    SeqTurns F n Try.prog 56 #[.pointer (some ⟨bn, 0, none⟩), .pointer (some ⟨bf, 0, none⟩)] (fun x : ByteArray => #[.string x]) (· = bn) (KpC bn bf fb mb) xs w := by
  intro l J Jx W hb hJ hJx hY h0
  have hcW : ChAt W bn bf fb mb D s := hc.below hb ⟨hc.n.lt, hc.f.lt, hc.m.lt, hc.d.lt⟩
  clear hc hb
  refine callsIn_of_wp Try.func56 rfl h56 ?_ hro
  simp only [Try.ntmps56, List.size_toArray, List.length_cons, List.length_nil, Nat.reduceAdd, Nat.reduceSub, Array.replicate_succ, Array.replicate_zero, List.push_toArray, List.append_toArray, List.nil_append, List.cons_append]
  gi_wp2
  gi_loopw [4] (fun _ wr => ∃ (pre rest : List ByteArray) (t : ByteArray), xs = pre ++ rest ∧ Chain D t rest ∧ ChAt wr bn bf fb mb D t ∧ J pre wr) (fun _ wr => chLen D (wr.cell? ⟨bn, 0, none⟩))
  case atStart => exact ⟨[], xs, s, rfl, hx, hcW, h0⟩
  case round =>
    obtain ⟨pre, rest, t, hpr, hch, hat, hj⟩ := hrel
    cases hch with
    | nil =>
      have c0 : wr.cell? ⟨bn, 0, none⟩ = some (.string ⟨#[]⟩) := by rw [hat.n.cell]; rfl
      gi_wp2
      refine ⟨fun _ h => (by cases h), ?_⟩
      gi_wp2
      go_end0
      exact ⟨⟨_, rfl⟩, .inl (by rw [hpr, List.append_nil]; exact hj)⟩
    | @cons _ rest hne hch =>
      have c0 : wr.cell? ⟨bn, 0, none⟩ = some (.string t) := by rw [hat.n.cell]; rfl
      have z1 : t.toList.isEmpty = false := ne_empty hne
      have z2 : (!t.toList.isEmpty) = true := by rw [z1]; rfl
      obtain ⟨fn, tmps, assign, body, hy, hR⟩ := hY pre t wr hj ⟨rest, by rw [hpr]; simp⟩
      gi_wp2
      refine hR.mono ?_
      clear hR hy
      rintro e W' (⟨rfl, hj', hk⟩ | ⟨rfl, hjx'⟩)
      · have hat' := hat.keep hk
        have c1 : W'.cell? ⟨bn, 0, none⟩ = some (.string t) := by rw [hat'.n.cell]; rfl
        have c2 : W'.cell? ⟨bf, 0, none⟩ = some (.pointer (some ⟨fb, 0, none⟩)) := by rw [hat'.f.cell]; rfl
        have c3 : W'.cell? ⟨fb, 0, none⟩ = some (.map (some mb)) := by rw [hat'.m.cell]; rfl
        have f1 : W'.frozen? ⟨bn, 0, none⟩ = false := hat'.n.frozen 0
        have hlk : (Instr.lookup 58 (.map (some mb)) (.string t) false).run Try.prog W'.drew = .ok (lookZ D t).val W'.drew := face_lookup hat'.d.drew t
        have hfd := att_field5 (lookZ D t) W'.drew
        gi_wp2
        have HN := hide (hat'.step (lookZ D t).inh)
        have HJ := hide (hJ _ _ _ hj' (((Only.refl (· = bn) W').setCell (p := ⟨bn, 0, none⟩) (.inl rfl) (.string (lookZ D t).inh)).drew))
        have HM := hide (show chLen D ((W'.setCell ⟨bn, 0, none⟩ (.string (lookZ D t).inh)).drew.cell? ⟨bn, 0, none⟩) < chLen D (wr.cell? ⟨bn, 0, none⟩) from by
          rw [c0, chLen_eq (Chain.cons hne hch), show (W'.setCell ⟨bn, 0, none⟩ (.string (lookZ D t).inh)).drew.cell? ⟨bn, 0, none⟩ = some (.string (lookZ D t).inh) from (hat'.step (lookZ D t).inh).n.drew.cell 0, chLen_eq hch]
          exact Nat.lt_succ_self _)
        gi_region
        all_goals
          gi_wp2
          go_roundw
          case rel => exact ⟨pre ++ [t], rest, (lookZ D t).inh, by rw [hpr]; simp, hch, ⟨HN.out.n.drew, HN.out.f.drew, HN.out.m.drew, HN.out.d.drew⟩, HJ.out⟩
          case measure => exact HM.out
      · gi_wp2
        go_end0
        exact ⟨⟨_, rfl⟩, .inr ⟨pre ++ [t], ⟨rest, by rw [hpr]; simp⟩, hjx'⟩⟩
end Go.Proofs.Ytmjogpacajbngaa
