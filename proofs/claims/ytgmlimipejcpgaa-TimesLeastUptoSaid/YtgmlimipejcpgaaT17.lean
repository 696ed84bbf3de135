/-
  YtgmlimipejcpgaaT17: a step of the proof of a law of the program: what this text proves holds under the hypotheses that its theorems name, and no others.
-/
import Derived.Test.YtgmlimipejcpgaaT13
set_option linter.unusedVariables false
set_option linter.unusedSimpArgs false
namespace Go.Proofs.Ytgmlimipejcpgaa
open Go Go.AM Fx
/-- The first point at 0, the next i at the end, the others not yet. -/
def ends (N : Nat) (e : Int) (i : Nat) : List Int := 0 :: (List.replicate i e ++ List.replicate (N - 1 - i) 0)
theorem ends_len {N i : Nat} {e : Int} (hN : 0 < N) (hi : i ≤ N - 1) : (ends N e i).length = N := by simp [ends]; omega
theorem ends_set {N i : Nat} {e : Int} (hi : i < N - 1) : (ends N e i).set (i + 1) e = ends N e (i + 1) := by
  have h1 : N - 1 - i = (N - 1 - (i + 1)) + 1 := by omega
  unfold ends
  rw [h1]
  simp only [List.set_cons_succ, List.replicate_succ, List.cons.injEq, true_and]
  rw [List.set_append_right _ _ (by simp)]
  simp
  rw [← List.cons_append, ← List.replicate_succ, List.replicate_succ']
  simp
theorem ends_in {N i : Nat} {e : Int} (he : 0 ≤ e ∧ e ≤ 1125899906842624) : ∀ x ∈ ends N e i, -1 ≤ x ∧ x ≤ 1125899906842624 := by
  intro x hx
  simp [ends] at hx
  rcases hx with rfl | ⟨_, rfl⟩ | ⟨_, rfl⟩ <;> omega

def greatSt (n : Int) (l : List D) (e : Int) : List Int × Bool := rounds stepG (arcsL n l) (n.toNat + 1) (ends n.toNat e (n.toNat - 1))
def greatOk (n : Int) (l : List D) (e : Int) : Bool := (greatSt n l e).2 && (greatSt n l e).1.all fun x => decide (0 ≤ x)
def greatV (n : Int) (l : List D) (e : Int) : V := if wrongE n l ≠ 0 then .tup [.nils, .int .i64 (wrongE n l)] else if e < 0 ∨ 1125899906842624 < e then .tup [.nils, .int .i64 2] else
  if greatOk n l e = true then .tup [iv (greatSt n l e).1, .int .i64 0] else .tup [.nils, .int .i64 4]

def okTo (t : List Int) (ok : Bool) (j : Nat) : Bool := ok && (t.take j).all fun x => decide (0 ≤ x)
theorem okTo_succ {t : List Int} {ok : Bool} {j : Nat} (hj : j < t.length) : okTo t ok (j + 1) = (okTo t ok j && decide (0 ≤ t[j])) := by
  unfold okTo
  rw [List.take_add_one, List.getElem?_eq_getElem hj, List.all_append, Bool.and_assoc]
  simp
set_option maxHeartbeats 4000000 in
theorem c_greatest (n : Int) (l : List D) (e : Int) (hn : I64 n) (hl : l.length ≤ 1099511627776) : PC 11 [.int .i64 n, dv l, .int .i64 e] (greatV n l e) := by
  have hw := c_wrong n l (by unfold big; omega)
  refine PCall_body Try.func11 rfl (by decide) Try.ntmps11 (by simp) Try.results11 ?_
  by_cases hok : wrongE n l = 0
  · obtain ⟨h1, h2, h3⟩ := wrongE_ok hok
    obtain ⟨N, rfl⟩ := Int.eq_ofNat_of_zero_le (show 0 ≤ n by omega)
    have hN : N ≤ 4100 := by omega
    have hN0 : 0 < N := by omega
    rw [hok] at hw
    by_cases he : e < 0 ∨ 1125899906842624 < e
    · repeat' (first
    | refine AW_seq_k fun K hK => ?_
    | refine AW_block ?_
    | refine AW_skip ?_
    | refine AW_exit ?_
    | refine AW_ret ?_
    | refine AW_scope ?_
    | refine AW_label ?_
    | refine SScope_normal ?_
    | refine SScope_ret ?_
    | refine SScope_exit ?_
    | refine SThen_normal ?_
    | refine SThen_ret ?_
    | refine SThen_exit ?_
    | refine SBlock_normal ?_
    | refine SBlock_ret ?_
    | refine SBlock_exit ?_
    | refine SBlock_exit_ne (by decide) ?_
    | (refine AW_region_AO ?_; simp)
    | (refine AOg_split_notdec (fun h => ?_) (fun h => ?_) <;> (simp [h]))
    | (refine AOg_split_dec (fun h => ?_) (fun h => ?_) <;> (simp [h]))
    | (refine AOg_split_not (fun h => ?_) (fun h => ?_) <;> (simp [h]))
    | (refine AOg_split (fun h => ?_) (fun h => ?_) <;> (simp [h]))
    | refine AW_cond_t rfl ?_
    | refine AW_cond_f rfl ?_
    | refine AW_cond_notdec rfl (fun h => ?_) (fun h => ?_)
    | refine AW_cond_dec rfl (fun h => ?_) (fun h => ?_)
    | refine AW_cond_not rfl (fun h => ?_) (fun h => ?_)
    | refine AW_cond rfl (fun h => ?_) (fun h => ?_)
    | (refine APg_split_notdec (fun h => ?_) (fun h => ?_) <;> (simp [h]))
    | (refine APg_split_dec (fun h => ?_) (fun h => ?_) <;> (simp [h]))
    | (refine APg_split_not (fun h => ?_) (fun h => ?_) <;> (simp [h]))
    | (refine APg_split (fun h => ?_) (fun h => ?_) <;> (simp [h]))
    | (refine AS_call1 (f := 14) rfl rfl (hw) rfl rfl rfl ?_; simp)
    | (apply hK; clear hK K)
    | (refine AWh (by assumption) ?_))
      all_goals first
        | exact retq2 (conv_eq (by simp [greatV, hok, he]) rfl)
        | (exfalso; omega)
    have he1 : ¬ e < 0 := by omega
    have he2 : ¬ 1125899906842624 < e := by omega
    have n8 : (N : Int) * 8 ≤ 281474976710656 := by omega
    have h1N : 1 ≤ N := hN0
    have hcases : ((1 = N) = True) ∨ ((1 = N) = False) := by
      by_cases h : 1 = N
      · exact .inl (eq_true h)
      · exact .inr (eq_false h)
    have hrep : List.replicate N [V.int .i64 0] = (ends N e 0).map fun n => [V.int .i64 n] := by
      obtain ⟨M, rfl⟩ : ∃ M, N = M + 1 := ⟨N - 1, by omega⟩
      simp [ends, List.replicate_succ]
    rcases hcases with hc | hc
    all_goals
      repeat' (first
    | refine AW_seq_k fun K hK => ?_
    | refine AW_block ?_
    | refine AW_skip ?_
    | refine AW_exit ?_
    | refine AW_ret ?_
    | refine AW_scope ?_
    | refine AW_label ?_
    | refine SScope_normal ?_
    | refine SScope_ret ?_
    | refine SScope_exit ?_
    | refine SThen_normal ?_
    | refine SThen_ret ?_
    | refine SThen_exit ?_
    | refine SBlock_normal ?_
    | refine SBlock_ret ?_
    | refine SBlock_exit ?_
    | refine SBlock_exit_ne (by decide) ?_
    | (refine AW_region_AO ?_; simp [he1, he2, n8, h1N, hc])
    | (refine AOg_split_notdec (fun h => ?_) (fun h => ?_) <;> (simp [h, he1, he2, n8, h1N, hc]))
    | (refine AOg_split_dec (fun h => ?_) (fun h => ?_) <;> (simp [h, he1, he2, n8, h1N, hc]))
    | (refine AOg_split_not (fun h => ?_) (fun h => ?_) <;> (simp [h, he1, he2, n8, h1N, hc]))
    | (refine AOg_split (fun h => ?_) (fun h => ?_) <;> (simp [h, he1, he2, n8, h1N, hc]))
    | refine AW_cond_t rfl ?_
    | refine AW_cond_f rfl ?_
    | refine AW_cond_notdec rfl (fun h => ?_) (fun h => ?_)
    | refine AW_cond_dec rfl (fun h => ?_) (fun h => ?_)
    | refine AW_cond_not rfl (fun h => ?_) (fun h => ?_)
    | refine AW_cond rfl (fun h => ?_) (fun h => ?_)
    | (refine APg_split_notdec (fun h => ?_) (fun h => ?_) <;> (simp [h, he1, he2, n8, h1N, hc]))
    | (refine APg_split_dec (fun h => ?_) (fun h => ?_) <;> (simp [h, he1, he2, n8, h1N, hc]))
    | (refine APg_split_not (fun h => ?_) (fun h => ?_) <;> (simp [h, he1, he2, n8, h1N, hc]))
    | (refine APg_split (fun h => ?_) (fun h => ?_) <;> (simp [h, he1, he2, n8, h1N, hc]))
    | (refine AS_call1 (f := 14) rfl rfl (hw) rfl rfl rfl ?_; simp [he1, he2, n8, h1N, hc])
    | (apply hK; clear hK K)
    | (refine AWh (by assumption) ?_))
    all_goals
      refine AW_loop (fun i : Nat => (⟨61, [(31, .int .i64 i), (30, .int .i64 (N - 1 : Nat)), (9, .ptr 1 0), (0, .int .i64 N), (1, dv l), (2, .int .i64 e), (6, .nils), (7, .int .i64 0)], [.row 2 0 0 true ((ends N e i).map fun n => [V.int .i64 n]), .var [.ref 0 0 0 N]]⟩ : St)) (fun i => i ≤ N - 1) (fun i => N - 1 - i) (x0 := 0) (Nat.zero_le _) (by first | (apply Weak.mk' <;> simp [hrep, dv]; done) | (have h1 : N = 1 := (of_eq_true hc).symm; apply Weak.mk' <;> simp [hrep, dv, h1, ends])) (fun _ _ => rfl) ?_
    all_goals
      intro i hi
      by_cases hlt : i < N - 1
      · have hlt1 : (i : Int) < ((N - 1 : Nat) : Int) := by omega
        have hlt2 : i + 1 < N := by omega
        have hlen : (ends N e i).length = N := ends_len hN0 hi
        have hset : ((ends N e i).map fun n => [V.int .i64 n]).set (i + 1) [V.int .i64 e] = (ends N e (i + 1)).map fun n => [V.int .i64 n] := by rw [← ends_set hlt, List.map_set]
        have hw1 : IntKind.i64.wrap ((i : Int) + 1) = i + 1 := wrap_i64 (by omega) (by omega)
        have ht1 : ((i : Int) + 1).toNat = i + 1 := by omega
        have h01 : (0 : Int) ≤ i + 1 := by omega
        have hlt3 : (i : Int) + 1 < N := by omega
        repeat' (first
    | refine AW_seq_k fun K hK => ?_
    | refine AW_block ?_
    | refine AW_skip ?_
    | refine AW_exit ?_
    | refine AW_ret ?_
    | refine AW_scope ?_
    | refine AW_label ?_
    | refine SScope_normal ?_
    | refine SScope_ret ?_
    | refine SScope_exit ?_
    | refine SThen_normal ?_
    | refine SThen_ret ?_
    | refine SThen_exit ?_
    | refine SBlock_normal ?_
    | refine SBlock_ret ?_
    | refine SBlock_exit ?_
    | refine SBlock_exit_ne (by decide) ?_
    | (refine AW_region_AO ?_; simp [hlt, hlt1, hlt2, hlt3, h01, hlen, hset, hw1, ht1])
    | (refine AOg_split_notdec (fun h => ?_) (fun h => ?_) <;> (simp [h, hlt, hlt1, hlt2, hlt3, h01, hlen, hset, hw1, ht1]))
    | (refine AOg_split_dec (fun h => ?_) (fun h => ?_) <;> (simp [h, hlt, hlt1, hlt2, hlt3, h01, hlen, hset, hw1, ht1]))
    | (refine AOg_split_not (fun h => ?_) (fun h => ?_) <;> (simp [h, hlt, hlt1, hlt2, hlt3, h01, hlen, hset, hw1, ht1]))
    | (refine AOg_split (fun h => ?_) (fun h => ?_) <;> (simp [h, hlt, hlt1, hlt2, hlt3, h01, hlen, hset, hw1, ht1]))
    | refine AW_cond_t rfl ?_
    | refine AW_cond_f rfl ?_
    | refine AW_cond_notdec rfl (fun h => ?_) (fun h => ?_)
    | refine AW_cond_dec rfl (fun h => ?_) (fun h => ?_)
    | refine AW_cond_not rfl (fun h => ?_) (fun h => ?_)
    | refine AW_cond rfl (fun h => ?_) (fun h => ?_)
    | (refine APg_split_notdec (fun h => ?_) (fun h => ?_) <;> (simp [h, hlt, hlt1, hlt2, hlt3, h01, hlen, hset, hw1, ht1]))
    | (refine APg_split_dec (fun h => ?_) (fun h => ?_) <;> (simp [h, hlt, hlt1, hlt2, hlt3, h01, hlen, hset, hw1, ht1]))
    | (refine APg_split_not (fun h => ?_) (fun h => ?_) <;> (simp [h, hlt, hlt1, hlt2, hlt3, h01, hlen, hset, hw1, ht1]))
    | (refine APg_split (fun h => ?_) (fun h => ?_) <;> (simp [h, hlt, hlt1, hlt2, hlt3, h01, hlen, hset, hw1, ht1]))
    | (apply hK; clear hK K)
    | (refine AWh (by assumption) ?_))
        refine ⟨i + 1, by omega, by omega, ?_⟩
        apply Weak.mk' <;> simp [dv]
      · have hlt1 : ¬ (i : Int) < ((N - 1 : Nat) : Int) := by omega
        have hiN : i = N - 1 := by omega
        subst hiN
        have harc := c_arcs N l h1 h2 hl
        have ha := arcs_in hok
        have hset := c_settled stepG 19 [.ptr 1 0] HG 2 (fun t : List Int => t.length = N ∧ ∀ x ∈ t, -1 ≤ x ∧ x ≤ 1125899906842624) (arcsL N l) N (fun _ => rfl) rfl
          (fun x y hy => by simp [HG] at hy; rcases hy with rfl | rfl <;> simp) (by unfold big; exact Nat.le_trans (List.length_filterMap_le _ _) (by omega)) hN
          (fun x a e hx hm => c_greatestStep N x a e hx.1 hx.2 (ha a hm)) (fun x a hx hm => stepG_inv N x a hx.1 hx.2 (ha a hm)) (ends N e (N - 1)) [] (by simp) ⟨ends_len hN0 (Nat.le_refl _), ends_in ⟨by omega, by omega⟩⟩
        have hinv := rounds_inv (step := stepG) (I := fun t : List Int => t.length = N ∧ ∀ x ∈ t, -1 ≤ x ∧ x ≤ 1125899906842624) (l := arcsL N l) (fun x a hx hm => stepG_inv N x a hx.1 hx.2 (ha a hm)) (N + 1) (ends N e (N - 1)) ⟨ends_len hN0 (Nat.le_refl _), ends_in ⟨by omega, by omega⟩⟩
        have hst : greatSt N l e = rounds stepG (arcsL N l) (N + 1) (ends N e (N - 1)) := by unfold greatSt; simp
        rw [← hst] at hset hinv
        obtain ⟨⟨t, ok⟩, hto⟩ : ∃ x, greatSt N l e = x := ⟨_, rfl⟩
        rw [hto] at hset hinv
        simp only at hset hinv
        obtain ⟨i1, i2⟩ := hinv
        have hel : (ends N e (N - 1)).length = N := ends_len hN0 (Nat.le_refl _)
        repeat' (first
    | refine AW_seq_k fun K hK => ?_
    | refine AW_block ?_
    | refine AW_skip ?_
    | refine AW_exit ?_
    | refine AW_ret ?_
    | refine AW_scope ?_
    | refine AW_label ?_
    | refine SScope_normal ?_
    | refine SScope_ret ?_
    | refine SScope_exit ?_
    | refine SThen_normal ?_
    | refine SThen_ret ?_
    | refine SThen_exit ?_
    | refine SBlock_normal ?_
    | refine SBlock_ret ?_
    | refine SBlock_exit ?_
    | refine SBlock_exit_ne (by decide) ?_
    | (refine AW_region_AO ?_; simp [hlt1])
    | (refine AOg_split_notdec (fun h => ?_) (fun h => ?_) <;> (simp [h, hlt1]))
    | (refine AOg_split_dec (fun h => ?_) (fun h => ?_) <;> (simp [h, hlt1]))
    | (refine AOg_split_not (fun h => ?_) (fun h => ?_) <;> (simp [h, hlt1]))
    | (refine AOg_split (fun h => ?_) (fun h => ?_) <;> (simp [h, hlt1]))
    | refine AW_cond_t rfl ?_
    | refine AW_cond_f rfl ?_
    | refine AW_cond_notdec rfl (fun h => ?_) (fun h => ?_)
    | refine AW_cond_dec rfl (fun h => ?_) (fun h => ?_)
    | refine AW_cond_not rfl (fun h => ?_) (fun h => ?_)
    | refine AW_cond rfl (fun h => ?_) (fun h => ?_)
    | (refine APg_split_notdec (fun h => ?_) (fun h => ?_) <;> (simp [h, hlt1]))
    | (refine APg_split_dec (fun h => ?_) (fun h => ?_) <;> (simp [h, hlt1]))
    | (refine APg_split_not (fun h => ?_) (fun h => ?_) <;> (simp [h, hlt1]))
    | (refine APg_split (fun h => ?_) (fun h => ?_) <;> (simp [h, hlt1]))
    | (refine AS_call1 (f := 16) rfl rfl (harc) rfl rfl rfl ?_; simp [hlt1])
    | (refine AS_callG (f := 15) rfl rfl (hset.imp rfl (by simp [HG, hel])) rfl (fun v h' hq => ?_); obtain ⟨rfl, rfl⟩ := hq; simp [HG, i1])
    | (apply hK; clear hK K)
    | (refine AWh (by assumption) ?_))
        refine AW_loop (fun j : Nat => (⟨61, [(48, .int .i64 j), (47, .int .i64 N), (46, .ref 0 0 0 N), (11, .bool (okTo t ok j)), (9, .ptr 1 0), (6, .nils), (7, .int .i64 0)], [.row 2 0 0 true (t.map fun n => [V.int .i64 n]), .var [.ref 0 0 0 N]]⟩ : St)) (fun j => j ≤ N) (fun j => N - j) (x0 := 0) (Nat.zero_le _) (by apply Weak.mk' <;> simp [okTo]) (fun _ _ => rfl) ?_
        intro j hj
        by_cases hjl : j < N
        · have hjl1 : (j : Int) < N := by omega
          have hjt : j < t.length := by omega
          have hs := okTo_succ (ok := ok) hjt
          obtain ⟨x, hx⟩ : ∃ x, t[j] = x := ⟨_, rfl⟩
          rw [hx] at hs
          have hw2 : IntKind.i64.wrap ((j : Int) + 1) = j + 1 := wrap_i64 (by omega) (by omega)
          repeat' (first
    | refine AW_seq_k fun K hK => ?_
    | refine AW_block ?_
    | refine AW_skip ?_
    | refine AW_exit ?_
    | refine AW_ret ?_
    | refine AW_scope ?_
    | refine AW_label ?_
    | refine SScope_normal ?_
    | refine SScope_ret ?_
    | refine SScope_exit ?_
    | refine SThen_normal ?_
    | refine SThen_ret ?_
    | refine SThen_exit ?_
    | refine SBlock_normal ?_
    | refine SBlock_ret ?_
    | refine SBlock_exit ?_
    | refine SBlock_exit_ne (by decide) ?_
    | (refine AW_region_AO ?_; simp [hjl, hjl1, hjt, hx, i1, hw2])
    | (refine AOg_split_notdec (fun h => ?_) (fun h => ?_) <;> (simp [h, hjl, hjl1, hjt, hx, i1, hw2]))
    | (refine AOg_split_dec (fun h => ?_) (fun h => ?_) <;> (simp [h, hjl, hjl1, hjt, hx, i1, hw2]))
    | (refine AOg_split_not (fun h => ?_) (fun h => ?_) <;> (simp [h, hjl, hjl1, hjt, hx, i1, hw2]))
    | (refine AOg_split (fun h => ?_) (fun h => ?_) <;> (simp [h, hjl, hjl1, hjt, hx, i1, hw2]))
    | refine AW_cond_t rfl ?_
    | refine AW_cond_f rfl ?_
    | refine AW_cond_notdec rfl (fun h => ?_) (fun h => ?_)
    | refine AW_cond_dec rfl (fun h => ?_) (fun h => ?_)
    | refine AW_cond_not rfl (fun h => ?_) (fun h => ?_)
    | refine AW_cond rfl (fun h => ?_) (fun h => ?_)
    | (refine APg_split_notdec (fun h => ?_) (fun h => ?_) <;> (simp [h, hjl, hjl1, hjt, hx, i1, hw2]))
    | (refine APg_split_dec (fun h => ?_) (fun h => ?_) <;> (simp [h, hjl, hjl1, hjt, hx, i1, hw2]))
    | (refine APg_split_not (fun h => ?_) (fun h => ?_) <;> (simp [h, hjl, hjl1, hjt, hx, i1, hw2]))
    | (refine APg_split (fun h => ?_) (fun h => ?_) <;> (simp [h, hjl, hjl1, hjt, hx, i1, hw2]))
    | (apply hK; clear hK K)
    | (refine AWh (by assumption) ?_))
          all_goals
            refine ⟨j + 1, by omega, by omega, ?_⟩
            apply Weak.mk' <;> simp [hs, *]
        · have hjl1 : ¬ (j : Int) < N := by omega
          have hjN : j = t.length := by omega
          have hall : okTo t ok j = greatOk N l e := by simp [okTo, greatOk, hto, hjN]
          repeat' (first
    | refine AW_seq_k fun K hK => ?_
    | refine AW_block ?_
    | refine AW_skip ?_
    | refine AW_exit ?_
    | refine AW_ret ?_
    | refine AW_scope ?_
    | refine AW_label ?_
    | refine SScope_normal ?_
    | refine SScope_ret ?_
    | refine SScope_exit ?_
    | refine SThen_normal ?_
    | refine SThen_ret ?_
    | refine SThen_exit ?_
    | refine SBlock_normal ?_
    | refine SBlock_ret ?_
    | refine SBlock_exit ?_
    | refine SBlock_exit_ne (by decide) ?_
    | (refine AW_region_AO ?_; simp [hjl1, hall])
    | (refine AOg_split_notdec (fun h => ?_) (fun h => ?_) <;> (simp [h, hjl1, hall]))
    | (refine AOg_split_dec (fun h => ?_) (fun h => ?_) <;> (simp [h, hjl1, hall]))
    | (refine AOg_split_not (fun h => ?_) (fun h => ?_) <;> (simp [h, hjl1, hall]))
    | (refine AOg_split (fun h => ?_) (fun h => ?_) <;> (simp [h, hjl1, hall]))
    | refine AW_cond_t rfl ?_
    | refine AW_cond_f rfl ?_
    | refine AW_cond_notdec rfl (fun h => ?_) (fun h => ?_)
    | refine AW_cond_dec rfl (fun h => ?_) (fun h => ?_)
    | refine AW_cond_not rfl (fun h => ?_) (fun h => ?_)
    | refine AW_cond rfl (fun h => ?_) (fun h => ?_)
    | (refine APg_split_notdec (fun h => ?_) (fun h => ?_) <;> (simp [h, hjl1, hall]))
    | (refine APg_split_dec (fun h => ?_) (fun h => ?_) <;> (simp [h, hjl1, hall]))
    | (refine APg_split_not (fun h => ?_) (fun h => ?_) <;> (simp [h, hjl1, hall]))
    | (refine APg_split (fun h => ?_) (fun h => ?_) <;> (simp [h, hjl1, hall]))
    | (apply hK; clear hK K)
    | (refine AWh (by assumption) ?_))
          all_goals clear hset harc hw ha
          all_goals first
            | exact retq2 (conv_eq (by simp [greatV, hok, he, *]) rfl)
            | exact retq2 (.inl ⟨3, by simp [greatV, hok, he, hto, iv, i1, *], by simp [greatV, hok, he, hto, iv, i1, *]⟩)
  · repeat' (first
    | refine AW_seq_k fun K hK => ?_
    | refine AW_block ?_
    | refine AW_skip ?_
    | refine AW_exit ?_
    | refine AW_ret ?_
    | refine AW_scope ?_
    | refine AW_label ?_
    | refine SScope_normal ?_
    | refine SScope_ret ?_
    | refine SScope_exit ?_
    | refine SThen_normal ?_
    | refine SThen_ret ?_
    | refine SThen_exit ?_
    | refine SBlock_normal ?_
    | refine SBlock_ret ?_
    | refine SBlock_exit ?_
    | refine SBlock_exit_ne (by decide) ?_
    | (refine AW_region_AO ?_; simp [hok])
    | (refine AOg_split_notdec (fun h => ?_) (fun h => ?_) <;> (simp [h, hok]))
    | (refine AOg_split_dec (fun h => ?_) (fun h => ?_) <;> (simp [h, hok]))
    | (refine AOg_split_not (fun h => ?_) (fun h => ?_) <;> (simp [h, hok]))
    | (refine AOg_split (fun h => ?_) (fun h => ?_) <;> (simp [h, hok]))
    | refine AW_cond_t rfl ?_
    | refine AW_cond_f rfl ?_
    | refine AW_cond_notdec rfl (fun h => ?_) (fun h => ?_)
    | refine AW_cond_dec rfl (fun h => ?_) (fun h => ?_)
    | refine AW_cond_not rfl (fun h => ?_) (fun h => ?_)
    | refine AW_cond rfl (fun h => ?_) (fun h => ?_)
    | (refine APg_split_notdec (fun h => ?_) (fun h => ?_) <;> (simp [h, hok]))
    | (refine APg_split_dec (fun h => ?_) (fun h => ?_) <;> (simp [h, hok]))
    | (refine APg_split_not (fun h => ?_) (fun h => ?_) <;> (simp [h, hok]))
    | (refine APg_split (fun h => ?_) (fun h => ?_) <;> (simp [h, hok]))
    | (refine AS_call1 (f := 14) rfl rfl (hw) rfl rfl rfl ?_; simp [hok])
    | (apply hK; clear hK K)
    | (refine AWh (by assumption) ?_))
    exact retq2 (conv_eq (by simp [greatV, hok]) rfl)
end Go.Proofs.Ytgmlimipejcpgaa
