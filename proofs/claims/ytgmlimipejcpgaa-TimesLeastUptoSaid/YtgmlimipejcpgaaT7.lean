/-
  YtgmlimipejcpgaaT7: a step of the proof of a law of the program: what this text proves holds under the hypotheses that its theorems name, and no others.
-/
import Derived.Test.YtgmlimipejcpgaaTD
set_option linter.unusedVariables false
set_option linter.unusedSimpArgs false
namespace Go.Proofs.Ytgmlimipejcpgaa
open Go Go.AM Fx
def timeOk (x : Int) : Bool := decide (0 ≤ x) && decide (x ≤ 1125899906842624)
def diffOk (t : List Int) (grid : Int) (d : D) : Bool :=
  decide (0 ≤ d.i) && decide (d.i < t.length) && decide (0 ≤ d.j) && decide (d.j < t.length) && holdsB d.b (t.getD d.i.toNat 0 - t.getD d.j.toNat 0) grid
def keepsB (t : List Int) (grid : Int) (l : List D) : Bool := t.all timeOk && l.all (diffOk t grid) && decide (1 ≤ grid)
theorem diffOk_nat {t : List Int} {grid : Int} {a b : Nat} {bb : Int} (ha : a < t.length) (hb : b < t.length) : diffOk t grid ⟨a, b, bb⟩ = holdsB bb (t[a] - t[b]) grid := by
  simp [diffOk, ha, hb]
set_option maxRecDepth 8000 in
set_option maxHeartbeats 2000000 in
theorem c_keeps (t : List Int) (grid : Int) (l : List D) (ht : big t.length) (hl : big l.length) (hg : I64 grid) : PC 6 [iv t, .int .i64 grid, dv l] (.bool (keepsB t grid l)) := by
  unfold big at ht hl
  refine PCall_body Try.func6 rfl (by decide) Try.ntmps6 (by simp) Try.results6 ?_
  repeat' (first
    | refine AW_seq_k fun K hK => ?_
    | refine AW_block ?_
    | refine AW_skip ?_
    | refine AW_exit ?_
    | refine AW_ret ?_
    | refine AW_scope ?_
    | refine AW_label ?_
    | refine SScope_normal ?_
    | refine SScope_ret ?_
    | refine SScope_exit ?_
    | refine SThen_normal ?_
    | refine SThen_ret ?_
    | refine SThen_exit ?_
    | refine SBlock_normal ?_
    | refine SBlock_ret ?_
    | refine SBlock_exit ?_
    | refine SBlock_exit_ne (by decide) ?_
    | (refine AW_region_AO ?_; simp [iv])
    | (refine AOg_split_notdec (fun h => ?_) (fun h => ?_) <;> (simp [h, iv]))
    | (refine AOg_split_dec (fun h => ?_) (fun h => ?_) <;> (simp [h, iv]))
    | (refine AOg_split_not (fun h => ?_) (fun h => ?_) <;> (simp [h, iv]))
    | (refine AOg_split (fun h => ?_) (fun h => ?_) <;> (simp [h, iv]))
    | refine AW_cond_t rfl ?_
    | refine AW_cond_f rfl ?_
    | refine AW_cond_notdec rfl (fun h => ?_) (fun h => ?_)
    | refine AW_cond_dec rfl (fun h => ?_) (fun h => ?_)
    | refine AW_cond_not rfl (fun h => ?_) (fun h => ?_)
    | refine AW_cond rfl (fun h => ?_) (fun h => ?_)
    | (refine APg_split_notdec (fun h => ?_) (fun h => ?_) <;> (simp [h, iv]))
    | (refine APg_split_dec (fun h => ?_) (fun h => ?_) <;> (simp [h, iv]))
    | (refine APg_split_not (fun h => ?_) (fun h => ?_) <;> (simp [h, iv]))
    | (refine APg_split (fun h => ?_) (fun h => ?_) <;> (simp [h, iv]))
    | (apply hK; clear hK K)
    | (refine AWh (by assumption) ?_))
  refine AW_loop (fun i : Nat => (⟨73, [(13, .int .i64 i), (12, .int .i64 t.length), (11, iv t), (6, .bool false), (0, iv t), (1, .int .i64 grid), (2, dv l)], []⟩ : St)) (fun i => i ≤ t.length ∧ Pre t (fun x => timeOk x = true) i) (fun i => t.length - i) (x0 := 0) ?_ ?_ ?_ ?_
  · simp [Pre.zero]
  · constructor <;> simp [iv, dv]
  · simp
  · intro i hi
    by_cases hlt : i < t.length
    · obtain ⟨x, hx⟩ : ∃ x, t[i] = x := ⟨_, rfl⟩
      have hx' : t[i]? = some x := by rw [List.getElem?_eq_getElem hlt, hx]
      have bad : timeOk x = false → keepsB t grid l = false := fun h => by unfold keepsB; rw [all_idx_f i x hx' h]; rfl
      repeat' (first
    | refine AW_seq_k fun K hK => ?_
    | refine AW_block ?_
    | refine AW_skip ?_
    | refine AW_exit ?_
    | refine AW_ret ?_
    | refine AW_scope ?_
    | refine AW_label ?_
    | refine SScope_normal ?_
    | refine SScope_ret ?_
    | refine SScope_exit ?_
    | refine SThen_normal ?_
    | refine SThen_ret ?_
    | refine SThen_exit ?_
    | refine SBlock_normal ?_
    | refine SBlock_ret ?_
    | refine SBlock_exit ?_
    | refine SBlock_exit_ne (by decide) ?_
    | (refine AW_region_AO ?_; simp [iv, hlt, hx, wrap_i64]; try (simp (disch := omega) only [wrap_i64]; try simp [iv, hlt, hx, wrap_i64]))
    | (refine AOg_split_notdec (fun h => ?_) (fun h => ?_) <;> (simp [h, iv, hlt, hx, wrap_i64]; try (simp (disch := omega) only [wrap_i64]; try simp [iv, hlt, hx, wrap_i64])))
    | (refine AOg_split_dec (fun h => ?_) (fun h => ?_) <;> (simp [h, iv, hlt, hx, wrap_i64]; try (simp (disch := omega) only [wrap_i64]; try simp [iv, hlt, hx, wrap_i64])))
    | (refine AOg_split_not (fun h => ?_) (fun h => ?_) <;> (simp [h, iv, hlt, hx, wrap_i64]; try (simp (disch := omega) only [wrap_i64]; try simp [iv, hlt, hx, wrap_i64])))
    | (refine AOg_split (fun h => ?_) (fun h => ?_) <;> (simp [h, iv, hlt, hx, wrap_i64]; try (simp (disch := omega) only [wrap_i64]; try simp [iv, hlt, hx, wrap_i64])))
    | refine AW_cond_t rfl ?_
    | refine AW_cond_f rfl ?_
    | refine AW_cond_notdec rfl (fun h => ?_) (fun h => ?_)
    | refine AW_cond_dec rfl (fun h => ?_) (fun h => ?_)
    | refine AW_cond_not rfl (fun h => ?_) (fun h => ?_)
    | refine AW_cond rfl (fun h => ?_) (fun h => ?_)
    | (refine APg_split_notdec (fun h => ?_) (fun h => ?_) <;> (simp [h, iv, hlt, hx, wrap_i64]; try (simp (disch := omega) only [wrap_i64]; try simp [iv, hlt, hx, wrap_i64])))
    | (refine APg_split_dec (fun h => ?_) (fun h => ?_) <;> (simp [h, iv, hlt, hx, wrap_i64]; try (simp (disch := omega) only [wrap_i64]; try simp [iv, hlt, hx, wrap_i64])))
    | (refine APg_split_not (fun h => ?_) (fun h => ?_) <;> (simp [h, iv, hlt, hx, wrap_i64]; try (simp (disch := omega) only [wrap_i64]; try simp [iv, hlt, hx, wrap_i64])))
    | (refine APg_split (fun h => ?_) (fun h => ?_) <;> (simp [h, iv, hlt, hx, wrap_i64]; try (simp (disch := omega) only [wrap_i64]; try simp [iv, hlt, hx, wrap_i64])))
    | (apply hK; clear hK K)
    | (refine AWh (by assumption) ?_))
      · exact retq1 (conv_eq (by simp; exact bad (by simp [timeOk]; omega)) rfl)
      · refine ⟨i + 1, ⟨by omega, hi.2.succ hx' (by simp [timeOk]; omega)⟩, by omega, ?_⟩
        constructor <;> simp [dv]
      · exact retq1 (conv_eq (by simp; exact bad (by simp [timeOk]; omega)) rfl)
    · have hall : t.all timeOk = true := hi.2.all (by omega)
      repeat' (first
    | refine AW_seq_k fun K hK => ?_
    | refine AW_block ?_
    | refine AW_skip ?_
    | refine AW_exit ?_
    | refine AW_ret ?_
    | refine AW_scope ?_
    | refine AW_label ?_
    | refine SScope_normal ?_
    | refine SScope_ret ?_
    | refine SScope_exit ?_
    | refine SThen_normal ?_
    | refine SThen_ret ?_
    | refine SThen_exit ?_
    | refine SBlock_normal ?_
    | refine SBlock_ret ?_
    | refine SBlock_exit ?_
    | refine SBlock_exit_ne (by decide) ?_
    | (refine AW_region_AO ?_; simp [iv, hlt, dv])
    | (refine AOg_split_notdec (fun h => ?_) (fun h => ?_) <;> (simp [h, iv, hlt, dv]))
    | (refine AOg_split_dec (fun h => ?_) (fun h => ?_) <;> (simp [h, iv, hlt, dv]))
    | (refine AOg_split_not (fun h => ?_) (fun h => ?_) <;> (simp [h, iv, hlt, dv]))
    | (refine AOg_split (fun h => ?_) (fun h => ?_) <;> (simp [h, iv, hlt, dv]))
    | refine AW_cond_t rfl ?_
    | refine AW_cond_f rfl ?_
    | refine AW_cond_notdec rfl (fun h => ?_) (fun h => ?_)
    | refine AW_cond_dec rfl (fun h => ?_) (fun h => ?_)
    | refine AW_cond_not rfl (fun h => ?_) (fun h => ?_)
    | refine AW_cond rfl (fun h => ?_) (fun h => ?_)
    | (refine APg_split_notdec (fun h => ?_) (fun h => ?_) <;> (simp [h, iv, hlt, dv]))
    | (refine APg_split_dec (fun h => ?_) (fun h => ?_) <;> (simp [h, iv, hlt, dv]))
    | (refine APg_split_not (fun h => ?_) (fun h => ?_) <;> (simp [h, iv, hlt, dv]))
    | (refine APg_split (fun h => ?_) (fun h => ?_) <;> (simp [h, iv, hlt, dv]))
    | (apply hK; clear hK K)
    | (refine AWh (by assumption) ?_))
      refine AW_loop (fun i : Nat => (⟨73, [(26, .int .i64 i), (25, .int .i64 l.length), (24, dv l), (6, .bool false), (0, iv t), (1, .int .i64 grid)], []⟩ : St)) (fun i => i ≤ l.length ∧ Pre l (fun x => diffOk t grid x = true) i) (fun i => l.length - i) (x0 := 0) ?_ ?_ ?_ ?_
      · simp [Pre.zero]
      · constructor <;> simp [iv, dv]
      · simp
      · intro i hi
        by_cases hlt : i < l.length
        · obtain ⟨x, hx⟩ : ∃ x, l[i] = x := ⟨_, rfl⟩
          have hx' : l[i]? = some x := by rw [List.getElem?_eq_getElem hlt, hx]
          have bad : diffOk t grid x = false → keepsB t grid l = false := fun h => by unfold keepsB; rw [all_idx_f i x hx' h]; simp
          obtain ⟨di, dj, db⟩ := x
          by_cases h1 : 0 ≤ di ∧ di < t.length ∧ 0 ≤ dj ∧ dj < t.length
          · obtain ⟨g1, g2, g3, g4⟩ := h1
            obtain ⟨a, rfl⟩ := Int.eq_ofNat_of_zero_le g1
            obtain ⟨b, rfl⟩ := Int.eq_ofNat_of_zero_le g3
            have ha : a < t.length := by omega
            have hb : b < t.length := by omega
            have oa := all_at hall ha
            have ob := all_at hall hb
            simp only [timeOk, Bool.and_eq_true, decide_eq_true_eq] at oa ob
            have hc := c_holds db (t[a] - t[b]) grid (by unfold I64; omega) hg
            rw [diffOk_nat ha hb] at bad
            have good : holdsB db (t[a] - t[b]) grid = true → diffOk t grid ⟨a, b, db⟩ = true := fun h => by rw [diffOk_nat ha hb]; exact h
            have n1 : ¬ (a : Int) < 0 := by omega
            have n2 : ¬ (b : Int) < 0 := by omega
            have n3 : ¬ t.length ≤ a := by omega
            have n4 : ¬ t.length ≤ b := by omega
            repeat' (first
    | refine AW_seq_k fun K hK => ?_
    | refine AW_block ?_
    | refine AW_skip ?_
    | refine AW_exit ?_
    | refine AW_ret ?_
    | refine AW_scope ?_
    | refine AW_label ?_
    | refine SScope_normal ?_
    | refine SScope_ret ?_
    | refine SScope_exit ?_
    | refine SThen_normal ?_
    | refine SThen_ret ?_
    | refine SThen_exit ?_
    | refine SBlock_normal ?_
    | refine SBlock_ret ?_
    | refine SBlock_exit ?_
    | refine SBlock_exit_ne (by decide) ?_
    | (refine AW_region_AO ?_; simp [iv, dv, D.cells, hlt, hx, ha, hb, n1, n2, n3, n4, wrap_i64]; try (simp (disch := omega) only [wrap_i64]; try simp [iv, dv, D.cells, hlt, hx, ha, hb, n1, n2, n3, n4, wrap_i64]))
    | (refine AOg_split_notdec (fun h => ?_) (fun h => ?_) <;> (simp [h, iv, dv, D.cells, hlt, hx, ha, hb, n1, n2, n3, n4, wrap_i64]; try (simp (disch := omega) only [wrap_i64]; try simp [iv, dv, D.cells, hlt, hx, ha, hb, n1, n2, n3, n4, wrap_i64])))
    | (refine AOg_split_dec (fun h => ?_) (fun h => ?_) <;> (simp [h, iv, dv, D.cells, hlt, hx, ha, hb, n1, n2, n3, n4, wrap_i64]; try (simp (disch := omega) only [wrap_i64]; try simp [iv, dv, D.cells, hlt, hx, ha, hb, n1, n2, n3, n4, wrap_i64])))
    | (refine AOg_split_not (fun h => ?_) (fun h => ?_) <;> (simp [h, iv, dv, D.cells, hlt, hx, ha, hb, n1, n2, n3, n4, wrap_i64]; try (simp (disch := omega) only [wrap_i64]; try simp [iv, dv, D.cells, hlt, hx, ha, hb, n1, n2, n3, n4, wrap_i64])))
    | (refine AOg_split (fun h => ?_) (fun h => ?_) <;> (simp [h, iv, dv, D.cells, hlt, hx, ha, hb, n1, n2, n3, n4, wrap_i64]; try (simp (disch := omega) only [wrap_i64]; try simp [iv, dv, D.cells, hlt, hx, ha, hb, n1, n2, n3, n4, wrap_i64])))
    | refine AW_cond_t rfl ?_
    | refine AW_cond_f rfl ?_
    | refine AW_cond_notdec rfl (fun h => ?_) (fun h => ?_)
    | refine AW_cond_dec rfl (fun h => ?_) (fun h => ?_)
    | refine AW_cond_not rfl (fun h => ?_) (fun h => ?_)
    | refine AW_cond rfl (fun h => ?_) (fun h => ?_)
    | (refine APg_split_notdec (fun h => ?_) (fun h => ?_) <;> (simp [h, iv, dv, D.cells, hlt, hx, ha, hb, n1, n2, n3, n4, wrap_i64]; try (simp (disch := omega) only [wrap_i64]; try simp [iv, dv, D.cells, hlt, hx, ha, hb, n1, n2, n3, n4, wrap_i64])))
    | (refine APg_split_dec (fun h => ?_) (fun h => ?_) <;> (simp [h, iv, dv, D.cells, hlt, hx, ha, hb, n1, n2, n3, n4, wrap_i64]; try (simp (disch := omega) only [wrap_i64]; try simp [iv, dv, D.cells, hlt, hx, ha, hb, n1, n2, n3, n4, wrap_i64])))
    | (refine APg_split_not (fun h => ?_) (fun h => ?_) <;> (simp [h, iv, dv, D.cells, hlt, hx, ha, hb, n1, n2, n3, n4, wrap_i64]; try (simp (disch := omega) only [wrap_i64]; try simp [iv, dv, D.cells, hlt, hx, ha, hb, n1, n2, n3, n4, wrap_i64])))
    | (refine APg_split (fun h => ?_) (fun h => ?_) <;> (simp [h, iv, dv, D.cells, hlt, hx, ha, hb, n1, n2, n3, n4, wrap_i64]; try (simp (disch := omega) only [wrap_i64]; try simp [iv, dv, D.cells, hlt, hx, ha, hb, n1, n2, n3, n4, wrap_i64])))
    | (refine AW_region_APx (id := 10) 40 mixed (by decide) ?_; simp [iv, dv, D.cells, hlt, hx, ha, hb, n1, n2, n3, n4, wrap_i64]; try (simp (disch := omega) only [wrap_i64]; try simp [iv, dv, D.cells, hlt, hx, ha, hb, n1, n2, n3, n4, wrap_i64]))
    | (refine AP_call1 (f := 12) rfl rfl (hc) rfl rfl rfl ?_; simp [iv, dv, D.cells, hlt, hx, ha, hb, n1, n2, n3, n4, wrap_i64]; try (simp (disch := omega) only [wrap_i64]; try simp [iv, dv, D.cells, hlt, hx, ha, hb, n1, n2, n3, n4, wrap_i64]))
    | (apply hK; clear hK K)
    | (refine AWh (by assumption) ?_))
            · exact retq1 (conv_eq (by simp; exact bad (by simpa using h)) rfl)
            · refine ⟨i + 1, ⟨by omega, hi.2.succ hx' (good (by simpa using h))⟩, by omega, ?_⟩
              constructor <;> simp [iv, dv]
          · have bad' : keepsB t grid l = false := bad (by simp [diffOk]; omega)
            repeat' (first
    | refine AW_seq_k fun K hK => ?_
    | refine AW_block ?_
    | refine AW_skip ?_
    | refine AW_exit ?_
    | refine AW_ret ?_
    | refine AW_scope ?_
    | refine AW_label ?_
    | refine SScope_normal ?_
    | refine SScope_ret ?_
    | refine SScope_exit ?_
    | refine SThen_normal ?_
    | refine SThen_ret ?_
    | refine SThen_exit ?_
    | refine SBlock_normal ?_
    | refine SBlock_ret ?_
    | refine SBlock_exit ?_
    | refine SBlock_exit_ne (by decide) ?_
    | (refine AW_region_AO ?_; simp [iv, dv, D.cells, hlt, hx, wrap_i64]; try (simp (disch := omega) only [wrap_i64]; try simp [iv, dv, D.cells, hlt, hx, wrap_i64]))
    | (refine AOg_split_notdec (fun h => ?_) (fun h => ?_) <;> (simp [h, iv, dv, D.cells, hlt, hx, wrap_i64]; try (simp (disch := omega) only [wrap_i64]; try simp [iv, dv, D.cells, hlt, hx, wrap_i64])))
    | (refine AOg_split_dec (fun h => ?_) (fun h => ?_) <;> (simp [h, iv, dv, D.cells, hlt, hx, wrap_i64]; try (simp (disch := omega) only [wrap_i64]; try simp [iv, dv, D.cells, hlt, hx, wrap_i64])))
    | (refine AOg_split_not (fun h => ?_) (fun h => ?_) <;> (simp [h, iv, dv, D.cells, hlt, hx, wrap_i64]; try (simp (disch := omega) only [wrap_i64]; try simp [iv, dv, D.cells, hlt, hx, wrap_i64])))
    | (refine AOg_split (fun h => ?_) (fun h => ?_) <;> (simp [h, iv, dv, D.cells, hlt, hx, wrap_i64]; try (simp (disch := omega) only [wrap_i64]; try simp [iv, dv, D.cells, hlt, hx, wrap_i64])))
    | refine AW_cond_t rfl ?_
    | refine AW_cond_f rfl ?_
    | refine AW_cond_notdec rfl (fun h => ?_) (fun h => ?_)
    | refine AW_cond_dec rfl (fun h => ?_) (fun h => ?_)
    | refine AW_cond_not rfl (fun h => ?_) (fun h => ?_)
    | refine AW_cond rfl (fun h => ?_) (fun h => ?_)
    | (refine APg_split_notdec (fun h => ?_) (fun h => ?_) <;> (simp [h, iv, dv, D.cells, hlt, hx, wrap_i64]; try (simp (disch := omega) only [wrap_i64]; try simp [iv, dv, D.cells, hlt, hx, wrap_i64])))
    | (refine APg_split_dec (fun h => ?_) (fun h => ?_) <;> (simp [h, iv, dv, D.cells, hlt, hx, wrap_i64]; try (simp (disch := omega) only [wrap_i64]; try simp [iv, dv, D.cells, hlt, hx, wrap_i64])))
    | (refine APg_split_not (fun h => ?_) (fun h => ?_) <;> (simp [h, iv, dv, D.cells, hlt, hx, wrap_i64]; try (simp (disch := omega) only [wrap_i64]; try simp [iv, dv, D.cells, hlt, hx, wrap_i64])))
    | (refine APg_split (fun h => ?_) (fun h => ?_) <;> (simp [h, iv, dv, D.cells, hlt, hx, wrap_i64]; try (simp (disch := omega) only [wrap_i64]; try simp [iv, dv, D.cells, hlt, hx, wrap_i64])))
    | (refine AW_region_APx (id := 10) 40 mixed (by decide) ?_; simp [iv, dv, D.cells, hlt, hx, wrap_i64]; try (simp (disch := omega) only [wrap_i64]; try simp [iv, dv, D.cells, hlt, hx, wrap_i64]))
    | (apply hK; clear hK K)
    | (refine AWh (by assumption) ?_))
            all_goals (first | exact retq1 (conv_eq (by simp [bad']) rfl) | (exfalso; omega))
        · have hall2 : l.all (diffOk t grid) = true := hi.2.all (by omega)
          repeat' (first
    | refine AW_seq_k fun K hK => ?_
    | refine AW_block ?_
    | refine AW_skip ?_
    | refine AW_exit ?_
    | refine AW_ret ?_
    | refine AW_scope ?_
    | refine AW_label ?_
    | refine SScope_normal ?_
    | refine SScope_ret ?_
    | refine SScope_exit ?_
    | refine SThen_normal ?_
    | refine SThen_ret ?_
    | refine SThen_exit ?_
    | refine SBlock_normal ?_
    | refine SBlock_ret ?_
    | refine SBlock_exit ?_
    | refine SBlock_exit_ne (by decide) ?_
    | (refine AW_region_AO ?_; simp [iv, hlt, dv])
    | (refine AOg_split_notdec (fun h => ?_) (fun h => ?_) <;> (simp [h, iv, hlt, dv]))
    | (refine AOg_split_dec (fun h => ?_) (fun h => ?_) <;> (simp [h, iv, hlt, dv]))
    | (refine AOg_split_not (fun h => ?_) (fun h => ?_) <;> (simp [h, iv, hlt, dv]))
    | (refine AOg_split (fun h => ?_) (fun h => ?_) <;> (simp [h, iv, hlt, dv]))
    | refine AW_cond_t rfl ?_
    | refine AW_cond_f rfl ?_
    | refine AW_cond_notdec rfl (fun h => ?_) (fun h => ?_)
    | refine AW_cond_dec rfl (fun h => ?_) (fun h => ?_)
    | refine AW_cond_not rfl (fun h => ?_) (fun h => ?_)
    | refine AW_cond rfl (fun h => ?_) (fun h => ?_)
    | (refine APg_split_notdec (fun h => ?_) (fun h => ?_) <;> (simp [h, iv, hlt, dv]))
    | (refine APg_split_dec (fun h => ?_) (fun h => ?_) <;> (simp [h, iv, hlt, dv]))
    | (refine APg_split_not (fun h => ?_) (fun h => ?_) <;> (simp [h, iv, hlt, dv]))
    | (refine APg_split (fun h => ?_) (fun h => ?_) <;> (simp [h, iv, hlt, dv]))
    | (apply hK; clear hK K)
    | (refine AWh (by assumption) ?_))
          exact retq1 (conv_eq (by simp [keepsB, hall, hall2]) rfl)
end Go.Proofs.Ytgmlimipejcpgaa
