/-
  YtgmlimipejcpgaaT13: a step of the proof of a law of the program: what this text proves holds under the hypotheses that its theorems name, and no others.
-/
import Derived.Test.YtgmlimipejcpgaaT12
set_option linter.unusedVariables false
set_option linter.unusedSimpArgs false
namespace Go.Proofs.Ytgmlimipejcpgaa
open Go Go.AM Fx
theorem runAll_inv {σ : Type} {step : σ → A → σ × Bool} {I : σ → Prop} : ∀ (l : List A) (x : σ), (∀ x a, I x → a ∈ l → I (step x a).1) → I x → I (runAll step x l)
  | [], _, _, hx => hx
  | a :: r, x, hI, hx => runAll_inv r _ (fun y b hy hb => hI y b hy (List.mem_cons_of_mem _ hb)) (hI x a hx (List.mem_cons_self ..))
theorem round_inv {σ : Type} {step : σ → A → σ × Bool} {I : σ → Prop} : ∀ (l : List A) (x : σ), (∀ x a, I x → a ∈ l → I (step x a).1) → I x → I (round step x l).1
  | [], _, _, hx => hx
  | a :: r, x, hI, hx => by
    have h1 := hI x a hx (List.mem_cons_self ..)
    have hr := fun y b hy hb => hI y b hy (List.mem_cons_of_mem a hb)
    unfold round
    split
    · exact runAll_inv r _ hr h1
    · exact round_inv r _ hr h1
theorem rounds_inv {σ : Type} {step : σ → A → σ × Bool} {I : σ → Prop} {l : List A} (hI : ∀ x a, I x → a ∈ l → I (step x a).1) : ∀ (k : Nat) (x : σ), I x → I (rounds step l k x).1
  | 0, _, hx => hx
  | k + 1, x, hx => by
    unfold rounds
    split
    · exact rounds_inv hI k _ (round_inv l x hI hx)
    · exact round_inv l x hI hx

theorem wrongE_ok {n : Int} {l : List D} (h : wrongE n l = 0) : 1 ≤ n ∧ n ≤ 4100 ∧ ∀ d ∈ l, rightD n d = true := by
  unfold wrongE at h
  split at h
  · cases h
  · split at h
    · rename_i h1 h2
      exact ⟨by omega, by omega, fun d hd => List.all_eq_true.1 h2 d hd⟩
    · cases h
theorem arcs_in {N : Nat} {l : List D} (h : wrongE N l = 0) : ∀ a ∈ arcsL N l, arcIn N a := by
  obtain ⟨h1, h2, h3⟩ := wrongE_ok h
  intro a ha
  obtain ⟨d, hd, hda⟩ := List.mem_filterMap.1 ha
  have hr := h3 d hd
  simp only [rightD, Bool.and_eq_true, decide_eq_true_eq] at hr
  unfold arcOf at hda
  split at hda
  · rename_i hs
    simp at hda
    subst hda
    simp [someB, rightB] at hs
    have k1 : d.b / 2 * N ≤ 268435456 * N := Int.mul_le_mul_of_nonneg_right (by omega) (by omega)
    have k2 : -268435456 * N ≤ d.b / 2 * N := Int.mul_le_mul_of_nonneg_right (by omega) (by omega)
    refine ⟨hr.1.1.1.1, hr.1.1.1.2, hr.1.1.2, hr.1.2, ?_, ?_⟩ <;> simp only <;> split <;> omega
  · cases hda

def neverOf (n : Int) : Int := n * (n * 268435456 + 1) + 1
def leastSt (n : Int) (l : List D) : List Int × Bool := rounds (stepL (neverOf n)) (arcsL n l) (n.toNat + 1) (List.replicate n.toNat 0)
def leastOk (n : Int) (l : List D) : Bool := (leastSt n l).2 && decide ((leastSt n l).1.getD 0 0 = 0) && !decide (neverOf n ∈ (leastSt n l).1)
def leastV (n : Int) (l : List D) : V := if wrongE n l ≠ 0 then .tup [.nils, .int .i64 0, .int .i64 (wrongE n l)] else if leastOk n l = true then .tup [iv (leastSt n l).1, .int .i64 n, .int .i64 0] else .tup [.nils, .int .i64 0, .int .i64 4]

theorem never_in {N : Nat} (h : N ≤ 4100) : 0 ≤ neverOf N ∧ neverOf N ≤ 1152921504606846976 := by
  have k1 : (N : Int) * (N * 268435456 + 1) ≤ 4100 * (N * 268435456 + 1) := Int.mul_le_mul_of_nonneg_right (by omega) (by omega)
  have k2 : 0 ≤ (N : Int) * (N * 268435456 + 1) := Int.mul_nonneg (by omega) (by omega)
  unfold neverOf
  omega

theorem least_inv {N : Nat} {l : List D} (h : wrongE N l = 0) (hN : N ≤ 4100) : (leastSt N l).1.length = N ∧ ∀ x ∈ (leastSt N l).1, 0 ≤ x ∧ x ≤ neverOf N := by
  have hv := never_in hN
  have ha := arcs_in h
  exact rounds_inv (I := fun t : List Int => t.length = N ∧ ∀ x ∈ t, 0 ≤ x ∧ x ≤ neverOf N) (fun x a hx hm => stepL_inv _ N x a hv.1 hx.1 hx.2 (ha a hm)) _ _
    ⟨by simp, fun x hx => by rw [List.eq_of_mem_replicate hx]; omega⟩

set_option maxHeartbeats 4000000 in
theorem c_least (n : Int) (l : List D) (hn : I64 n) (hl : l.length ≤ 1099511627776) : PC 9 [.int .i64 n, dv l] (leastV n l) := by
  have hw := c_wrong n l (by unfold big; omega)
  refine PCall_body Try.func9 rfl (by decide) Try.ntmps9 (by simp) Try.results9 ?_
  by_cases hok : wrongE n l = 0
  · obtain ⟨h1, h2, h3⟩ := wrongE_ok hok
    obtain ⟨N, rfl⟩ := Int.eq_ofNat_of_zero_le (show 0 ≤ n by omega)
    have hN : N ≤ 4100 := by omega
    have hv := never_in hN
    have harc := c_arcs N l h1 h2 hl
    have ha := arcs_in hok
    have hset := c_settled (stepL (neverOf N)) 17 [.ptr 1 0, .ptr 2 0] (HL (neverOf N)) 3 (fun t : List Int => t.length = N ∧ ∀ x ∈ t, 0 ≤ x ∧ x ≤ neverOf N) (arcsL N l) N (fun _ => rfl) rfl
      (fun x y hy => by simp [HL] at hy; rcases hy with rfl | rfl | rfl <;> simp) (by unfold big; exact Nat.le_trans (List.length_filterMap_le _ _) (by omega)) hN
      (fun x a e hx hm => c_leastStep _ N x a e hv hx.1 hx.2 (ha a hm)) (fun x a hx hm => stepL_inv _ N x a hv.1 hx.1 hx.2 (ha a hm)) (List.replicate N 0) [] (by simp) ⟨by simp, fun x hx => by rw [List.eq_of_mem_replicate hx]; omega⟩
    obtain ⟨i1, i2⟩ := least_inv hok hN
    have hst : rounds (stepL (neverOf N)) (arcsL N l) (N + 1) (List.replicate N 0) = leastSt N l := by unfold leastSt; simp
    rw [hst] at hset
    have w1 : IntKind.i64.wrap ((N : Int) * 268435456) = N * 268435456 := wrap_i64 (by omega) (by omega)
    have w2 : IntKind.i64.wrap ((N : Int) * 268435456 + 1) = N * 268435456 + 1 := wrap_i64 (by omega) (by omega)
    have w3 : IntKind.i64.wrap ((N : Int) * (N * 268435456 + 1)) = N * (N * 268435456 + 1) := wrap_i64 (by unfold neverOf at hv; omega) (by unfold neverOf at hv; omega)
    have w4 : IntKind.i64.wrap ((N : Int) * (N * 268435456 + 1) + 1) = neverOf N := wrap_i64 (by unfold neverOf at hv; omega) (by unfold neverOf at hv; omega)
    rw [hok] at hw
    have n8 : (N : Int) * 8 ≤ 281474976710656 := by omega
    have hN0 : 0 < N := by omega
    obtain ⟨⟨t, ok⟩, hto⟩ : ∃ x, leastSt N l = x := ⟨_, rfl⟩
    rw [hto] at hset i1 i2
    simp only at hset i1 i2
    have h0 : 0 < t.length := by omega
    have hcon := c_contains t (neverOf N) (by unfold big; omega)
    repeat' (first
    | refine AW_seq_k fun K hK => ?_
    | refine AW_block ?_
    | refine AW_skip ?_
    | refine AW_exit ?_
    | refine AW_ret ?_
    | refine AW_scope ?_
    | refine AW_label ?_
    | refine SScope_normal ?_
    | refine SScope_ret ?_
    | refine SScope_exit ?_
    | refine SThen_normal ?_
    | refine SThen_ret ?_
    | refine SThen_exit ?_
    | refine SBlock_normal ?_
    | refine SBlock_ret ?_
    | refine SBlock_exit ?_
    | refine SBlock_exit_ne (by decide) ?_
    | (refine AW_region_AO ?_; simp [w1, w2, w3, w4, n8, h0, hN0])
    | (refine AOg_split_notdec (fun h => ?_) (fun h => ?_) <;> (simp [h, w1, w2, w3, w4, n8, h0, hN0]))
    | (refine AOg_split_dec (fun h => ?_) (fun h => ?_) <;> (simp [h, w1, w2, w3, w4, n8, h0, hN0]))
    | (refine AOg_split_not (fun h => ?_) (fun h => ?_) <;> (simp [h, w1, w2, w3, w4, n8, h0, hN0]))
    | (refine AOg_split (fun h => ?_) (fun h => ?_) <;> (simp [h, w1, w2, w3, w4, n8, h0, hN0]))
    | refine AW_cond_t rfl ?_
    | refine AW_cond_f rfl ?_
    | refine AW_cond_notdec rfl (fun h => ?_) (fun h => ?_)
    | refine AW_cond_dec rfl (fun h => ?_) (fun h => ?_)
    | refine AW_cond_not rfl (fun h => ?_) (fun h => ?_)
    | refine AW_cond rfl (fun h => ?_) (fun h => ?_)
    | (refine APg_split_notdec (fun h => ?_) (fun h => ?_) <;> (simp [h, w1, w2, w3, w4, n8, h0, hN0]))
    | (refine APg_split_dec (fun h => ?_) (fun h => ?_) <;> (simp [h, w1, w2, w3, w4, n8, h0, hN0]))
    | (refine APg_split_not (fun h => ?_) (fun h => ?_) <;> (simp [h, w1, w2, w3, w4, n8, h0, hN0]))
    | (refine APg_split (fun h => ?_) (fun h => ?_) <;> (simp [h, w1, w2, w3, w4, n8, h0, hN0]))
    | (refine AS_call1 (f := 14) rfl rfl (hw) rfl rfl rfl ?_; simp [w1, w2, w3, w4, n8, h0, hN0])
    | (refine AS_call1 (f := 16) rfl rfl (harc) rfl rfl rfl ?_; simp [w1, w2, w3, w4, n8, h0, hN0])
    | (refine AS_callG (f := 15) rfl rfl (hset.imp rfl (by simp [HL])) rfl (fun v h' hq => ?_); obtain ⟨rfl, rfl⟩ := hq; simp [HL, i1])
    | (refine AS_view 40 rfl rfl (by simp [i1]) ?_; simp; refine AS_call1 (f := 18) rfl rfl (by simpa [iv, i1] using hcon) rfl rfl rfl ?_; simp [h0])
    | (apply hK; clear hK K)
    | (refine AWh (by assumption) ?_))
    all_goals (have hlo : leastOk (N : Int) l = (ok && decide (t[0] = 0) && !decide (neverOf N ∈ t)) := by simp [leastOk, hto, h0])
    all_goals clear hset hcon harc hw ha
    all_goals first
      | exact retq3 (conv_eq (by simp [leastV, hok, hlo, *]) rfl)
      | exact retq3 (.inl ⟨3, by simp [leastV, hok, hlo, *, iv], by simp [leastV, hok, hlo, *, iv]⟩)
  · repeat' (first
    | refine AW_seq_k fun K hK => ?_
    | refine AW_block ?_
    | refine AW_skip ?_
    | refine AW_exit ?_
    | refine AW_ret ?_
    | refine AW_scope ?_
    | refine AW_label ?_
    | refine SScope_normal ?_
    | refine SScope_ret ?_
    | refine SScope_exit ?_
    | refine SThen_normal ?_
    | refine SThen_ret ?_
    | refine SThen_exit ?_
    | refine SBlock_normal ?_
    | refine SBlock_ret ?_
    | refine SBlock_exit ?_
    | refine SBlock_exit_ne (by decide) ?_
    | (refine AW_region_AO ?_; simp [hok])
    | (refine AOg_split_notdec (fun h => ?_) (fun h => ?_) <;> (simp [h, hok]))
    | (refine AOg_split_dec (fun h => ?_) (fun h => ?_) <;> (simp [h, hok]))
    | (refine AOg_split_not (fun h => ?_) (fun h => ?_) <;> (simp [h, hok]))
    | (refine AOg_split (fun h => ?_) (fun h => ?_) <;> (simp [h, hok]))
    | refine AW_cond_t rfl ?_
    | refine AW_cond_f rfl ?_
    | refine AW_cond_notdec rfl (fun h => ?_) (fun h => ?_)
    | refine AW_cond_dec rfl (fun h => ?_) (fun h => ?_)
    | refine AW_cond_not rfl (fun h => ?_) (fun h => ?_)
    | refine AW_cond rfl (fun h => ?_) (fun h => ?_)
    | (refine APg_split_notdec (fun h => ?_) (fun h => ?_) <;> (simp [h, hok]))
    | (refine APg_split_dec (fun h => ?_) (fun h => ?_) <;> (simp [h, hok]))
    | (refine APg_split_not (fun h => ?_) (fun h => ?_) <;> (simp [h, hok]))
    | (refine APg_split (fun h => ?_) (fun h => ?_) <;> (simp [h, hok]))
    | (refine AS_call1 (f := 14) rfl rfl (hw) rfl rfl rfl ?_; simp [hok])
    | (apply hK; clear hK K)
    | (refine AWh (by assumption) ?_))
    exact retq3 (conv_eq (by simp [leastV, hok]) rfl)
end Go.Proofs.Ytgmlimipejcpgaa
