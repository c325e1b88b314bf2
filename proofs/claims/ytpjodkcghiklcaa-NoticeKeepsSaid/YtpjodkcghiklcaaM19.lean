/- Layer 19's laws in plain Lean. No condition. -/
import Derived.Test.YtpjodkcghiklcaaM18o
set_option linter.unusedVariables false
set_option linter.unusedSimpArgs false
namespace Go.Proofs.Ytpjodkcghiklcaa
open Go.SL

theorem sg_wait {S : Nt} (x : Int) (bound : Bool) (h : S.l ≠ []) : sgV S bound = S.l.headD 0 ∧ sgW S x bound = x ∧ sgB S bound = true ∧ sgS S x bound = ⟨S.w, S.l.tail, S.b⟩ :=
  ⟨if_pos h, if_pos h, if_pos h, if_pos h⟩
theorem sg_bound {S : Nt} (x : Int) {bound : Bool} (h : S.l = []) (h2 : bound = true ∧ S.b ≠ []) : sgV S bound = S.b.headD 0 ∧ sgW S x bound = orI S.w x ∧ sgB S bound = true ∧ sgS S x bound = ⟨0, [], S.b⟩ := by
  have h1 : ¬ S.l ≠ [] := fun e => e h
  refine ⟨?_, ?_, ?_, ?_⟩
  · unfold sgV; rw [if_neg h1, if_pos h2]
  · unfold sgW; rw [if_neg h1, if_pos h2]
  · unfold sgB; rw [if_neg h1, if_pos h2]
  · unfold sgS; rw [if_neg h1, if_pos h2, h]
theorem sg_none {S : Nt} (x : Int) {bound : Bool} (h : S.l = []) (h2 : ¬ (bound = true ∧ S.b ≠ [])) : sgV S bound = 0 ∧ sgW S x bound = 0 ∧ sgB S bound = false ∧ sgS S x bound = ⟨orI S.w x, [], S.b⟩ := by
  have h1 : ¬ S.l ≠ [] := fun e => e h
  refine ⟨?_, ?_, ?_, ?_⟩
  · unfold sgV; rw [if_neg h1, if_neg h2]
  · unfold sgW; rw [if_neg h1, if_neg h2]
  · unfold sgB; rw [if_neg h1, if_neg h2]
  · unfold sgS; rw [if_neg h1, if_neg h2, h]
theorem sg_three (S : Nt) (bound : Bool) : S.l ≠ [] ∨ (S.l = [] ∧ (bound = true ∧ S.b ≠ [])) ∨ (S.l = [] ∧ ¬ (bound = true ∧ S.b ≠ [])) := by
  by_cases h : S.l = []
  · by_cases h2 : bound = true ∧ S.b ≠ []
    · exact .inr (.inl ⟨h, h2⟩)
    · exact .inr (.inr ⟨h, h2⟩)
  · exact .inl h
theorem wt_err {S : Nt} {id : Int} {wait : Bool} (h : ¬ pushE S.l id = 0) : wtW S id = 0 ∧ wtB S id = false ∧ wtS S id wait = S :=
  ⟨if_neg h, by unfold wtB; exact decide_eq_false (fun e => h e.1), if_neg h⟩
theorem wt_waits {S : Nt} {id : Int} {wait : Bool} (h : pushE S.l id = 0) (h2 : S.w = 0 ∧ wait = true) : wtW S id = 0 ∧ wtB S id = false ∧ wtS S id wait = ⟨S.w, S.l ++ [id], S.b⟩ :=
  ⟨by unfold wtW; rw [if_pos h, h2.1], by unfold wtB; exact decide_eq_false (fun e => e.2 h2.1), by unfold wtS; rw [if_pos h, if_pos h2]⟩
theorem wt_takes {S : Nt} {id : Int} {wait : Bool} (h : pushE S.l id = 0) (h2 : ¬ (S.w = 0 ∧ wait = true)) : wtW S id = S.w ∧ wtB S id = decide (S.w ≠ 0) ∧ wtS S id wait = ⟨0, S.l, S.b⟩ :=
  ⟨if_pos h, by unfold wtB; exact decide_eq_decide.2 ⟨fun e => e.2, fun e => ⟨h, e⟩⟩, by unfold wtS; rw [if_pos h, if_neg h2]⟩
theorem wt_ok {S : Nt} {id : Int} (h : pushE S.l id = 0) : wtW S id = S.w ∧ wtB S id = decide (S.w ≠ 0) :=
  ⟨if_pos h, by unfold wtB; exact decide_eq_decide.2 ⟨fun e => e.2, fun e => ⟨h, e⟩⟩⟩
theorem wtS_w {S : Nt} {id : Int} {wait : Bool} (h : pushE S.l id = 0) : (wtS S id wait).w = 0 := by
  unfold wtS; rw [if_pos h]
  split
  · rename_i h2; exact h2.1
  · rfl
def bdOf (id : Int) (has : Bool) : List Int := if has then [id] else []
theorem bd_push {id : Int} (h : pushE [] id = 0) : pushL [] id = [id] := (push_ok0 h).1
theorem bdE_err {S : Nt} {id : Int} (h : ¬ pushE [] id = 0) : bdE S id = pushE [] id ∧ bdS S id = S := ⟨if_neg h, if_neg (fun e => h e.1)⟩
theorem bdE_twice {S : Nt} {id : Int} (h : pushE [] id = 0) (h2 : S.b ≠ []) : bdE S id = 4 ∧ bdS S id = S := ⟨by unfold bdE; rw [if_pos h, if_neg h2], if_neg (fun e => h2 e.2)⟩
theorem bdE_ok {S : Nt} {id : Int} (h : pushE [] id = 0) (h2 : S.b = []) : bdE S id = 0 ∧ bdS S id = ⟨S.w, S.l, [id]⟩ := ⟨by unfold bdE; rw [if_pos h, if_pos h2], if_pos ⟨h, h2⟩⟩
theorem orI_zero {x : Int} (h : 0 ≤ x ∧ x < 18446744073709551616) : orI 0 x = x := by
  obtain ⟨n, rfl⟩ : ∃ n : Nat, x = n := ⟨x.toNat, by omega⟩
  have hn : n < 2 ^ 64 := by omega
  have e : (BitVec.ofInt 64 (0 : Int) ||| BitVec.ofInt 64 (n : Int)).toNat = n := by
    rw [BitVec.toNat_or, BitVec.ofInt_natCast, BitVec.toNat_ofNat, Nat.mod_eq_of_lt hn]
    simp
  show IntKind.u64.wrap ((BitVec.ofInt 64 (0 : Int) ||| BitVec.ofInt 64 (n : Int)).toNat : Int) = _
  rw [e]; exact u64n rfl hn
structure OpN where
  kind : Int
  id : Int
  badge : Int
  flag : Bool
abbrev OpN.cells (o : OpN) : List Value := [.int .i64 o.kind, .int .i64 o.id, .int .u64 o.badge, .bool o.flag]
def OpN.wf (o : OpN) : Prop := 0 ≤ o.badge ∧ o.badge < 18446744073709551616
theorem lit_u {a : Int} (w : (Lit.int .u64 a).wf = true) : 0 ≤ a ∧ a < 18446744073709551616 := by
  obtain ⟨g, rfl, hg⟩ := lit_u64 w
  omega
theorem as_opns {els : List (List Value)} (h : ∀ x, x ∈ els → FlatV [some .i64, some .i64, some .u64, none] x) : ∃ l : List OpN, els = l.map OpN.cells ∧ ∀ o, o ∈ l → OpN.wf o :=
  map_of fun x hx => by
    obtain ⟨a, l, rfl, _, h⟩ := (h x hx).int
    obtain ⟨b, l, rfl, _, h1⟩ := h.int
    obtain ⟨c, l, rfl, hc, h2⟩ := h1.int
    obtain ⟨d, l, rfl, h3⟩ := h2.bool
    obtain rfl := h3.nil
    exact ⟨⟨a, b, c, d⟩, rfl, lit_u hc⟩
theorem as_u64s {els : List (List Value)} (h : ∀ x, x ∈ els → FlatV [some .u64] x) : ∃ l : List Int, els = l.map (fun x => [Value.int .u64 x]) ∧ ∀ o, o ∈ l → (fun x : Int => 0 ≤ x ∧ x < 18446744073709551616) o :=
  map_of fun x hx => by
    obtain ⟨a, l, rfl, ha, h⟩ := (h x hx).int
    obtain rfl := h.nil
    exact ⟨a, rfl, lit_u ha⟩
theorem head_bd {b : List Int} (h : b ≠ []) : b = [b.headD 0] ∨ 2 ≤ b.length := by
  cases b with
  | nil => exact absurd rfl h
  | cons a t => cases t with
    | nil => exact .inl rfl
    | cons c t => exact .inr (by simp)
theorem nt_put {w : Int} {i : Nat} (hi : i < 30) : pushE (seg 0 i) i = 0 ∧ wtS ⟨0, seg 0 i, []⟩ i true = ⟨0, seg 0 (i + 1), []⟩ ∧ wtB ⟨0, seg 0 i, []⟩ i = false := by
  have he : pushE (seg 0 i) i = 0 := push_zero (by simp [rightM]; omega) (fun h => by obtain ⟨k, e, _, h2⟩ := seg_mem.1 h; omega)
  obtain ⟨h1, h2, h3⟩ := wt_waits (S := ⟨0, seg 0 i, []⟩) (wait := true) he ⟨rfl, rfl⟩
  exact ⟨he, by rw [h3, seg_snoc (Nat.zero_le _)], h2⟩
theorem nt_sig {i n : Nat} (x : Int) (h : i < n) : sgV ⟨0, seg i n, []⟩ false = i ∧ sgW ⟨0, seg i n, []⟩ x false = x ∧ sgB ⟨0, seg i n, []⟩ false = true ∧ sgS ⟨0, seg i n, []⟩ x false = ⟨0, seg (i + 1) n, []⟩ := by
  obtain ⟨h1, h2, h3, h4⟩ := sg_wait (S := ⟨0, seg i n, []⟩) x false (by dsimp only; rw [seg_cons h]; simp)
  refine ⟨by rw [h1]; dsimp only; rw [seg_cons h]; rfl, h2, h3, by rw [h4]; dsimp only; rw [seg_cons h]; rfl⟩
theorem right_mod (n : Int) : pushE [] ((uI n % 64 : Nat) : Int) = 0 := push_zero (by simp [rightM]; omega) (List.not_mem_nil)

end Go.Proofs.Ytpjodkcghiklcaa
