/-
  YtgmlimipejcpgaaT18: a step of the proof of a law of the program: what this text proves holds under the hypotheses that its theorems name, and no others.
-/
import Derived.Test.YtgmlimipejcpgaaT13
set_option linter.unusedVariables false
set_option linter.unusedSimpArgs false
namespace Go.Proofs.Ytgmlimipejcpgaa
open Go Go.AM Fx
theorem and_one64 (b : Int) : bits .and .i64 b 1 = b % 2 := by
  have h : (BitVec.ofInt 64 b &&& BitVec.ofInt 64 1).toNat = (b % 2).toNat := by
    have h1 : BitVec.ofInt 64 1 = 1#64 := by decide
    rw [h1, BitVec.toNat_and]
    have h2 : (1#64).toNat = 1 := by decide
    rw [h2, Nat.and_one_is_mod, BitVec.toNat_ofInt]
    omega
  show IntKind.i64.wrap ((BitVec.ofInt 64 b &&& BitVec.ofInt 64 1).toNat : Int) = b % 2
  rw [h]
  exact (wrap_i64 (by omega) (by omega)).trans (by omega)

/-- A difference is kept on the grid of N. -/
def gridD (N : Nat) (t : List Int) (d : D) : Bool := decide (d.b = 2147483647) || decide (t.getD d.i.toNat 0 - t.getD d.j.toNat 0 ≤ d.b / 2 * N - (if d.b % 2 = 1 then 0 else 1))
def griddedB (N : Nat) (t : List Int) (l : List D) : Bool := l.all (gridD N t)
/-- A system. -/
def sysV (N : Int) (l : List D) (e : Int) : V := .agg [.int .i64 N, dv l, .int .i64 e]

set_option maxRecDepth 8000 in
set_option maxHeartbeats 4000000 in
theorem c_gridded (N : Nat) (t : List Int) (l : List D) (e : Int) (hok : wrongE N l = 0) (ht : t.length = N) (hr : ∀ x ∈ t, 0 ≤ x ∧ x ≤ 1152921504606846976) (hl : big l.length) :
    PC 10 [iv t, sysV N l e] (.bool (griddedB N t l)) := by
  unfold big at hl
  obtain ⟨h1, h2, h3⟩ := wrongE_ok hok
  refine PCall_body Try.func10 rfl (by decide) Try.ntmps10 (by simp) Try.results10 ?_
  repeat' (first
    | refine AW_seq_k fun K hK => ?_
    | refine AW_block ?_
    | refine AW_skip ?_
    | refine AW_exit ?_
    | refine AW_ret ?_
    | refine AW_scope ?_
    | refine AW_label ?_
    | refine SScope_normal ?_
    | refine SScope_ret ?_
    | refine SScope_exit ?_
    | refine SThen_normal ?_
    | refine SThen_ret ?_
    | refine SThen_exit ?_
    | refine SBlock_normal ?_
    | refine SBlock_ret ?_
    | refine SBlock_exit ?_
    | refine SBlock_exit_ne (by decide) ?_
    | (refine AW_region_AO ?_; simp [iv, sysV, dv])
    | (refine AOg_split_notdec (fun h => ?_) (fun h => ?_) <;> (simp [h, iv, sysV, dv]))
    | (refine AOg_split_dec (fun h => ?_) (fun h => ?_) <;> (simp [h, iv, sysV, dv]))
    | (refine AOg_split_not (fun h => ?_) (fun h => ?_) <;> (simp [h, iv, sysV, dv]))
    | (refine AOg_split (fun h => ?_) (fun h => ?_) <;> (simp [h, iv, sysV, dv]))
    | refine AW_cond_t rfl ?_
    | refine AW_cond_f rfl ?_
    | refine AW_cond_notdec rfl (fun h => ?_) (fun h => ?_)
    | refine AW_cond_dec rfl (fun h => ?_) (fun h => ?_)
    | refine AW_cond_not rfl (fun h => ?_) (fun h => ?_)
    | refine AW_cond rfl (fun h => ?_) (fun h => ?_)
    | (refine APg_split_notdec (fun h => ?_) (fun h => ?_) <;> (simp [h, iv, sysV, dv]))
    | (refine APg_split_dec (fun h => ?_) (fun h => ?_) <;> (simp [h, iv, sysV, dv]))
    | (refine APg_split_not (fun h => ?_) (fun h => ?_) <;> (simp [h, iv, sysV, dv]))
    | (refine APg_split (fun h => ?_) (fun h => ?_) <;> (simp [h, iv, sysV, dv]))
    | (apply hK; clear hK K)
    | (refine AWh (by assumption) ?_))
  refine AW_loop (fun i : Nat => (⟨53, [(5, .int .i64 i), (3, .ptr 0 0), (0, iv t), (4, .bool false)], [.var [.int .i64 N, dv l, .int .i64 e]]⟩ : St)) (fun i => i ≤ l.length ∧ Pre l (fun x => gridD N t x = true) i) (fun i => l.length - i) (x0 := 0) ⟨Nat.zero_le _, Pre.zero⟩ (by apply Weak.mk' <;> simp [iv, dv]) (fun _ _ => rfl) ?_
  intro i hi
  by_cases hlt : i < l.length
  · obtain ⟨x, hx⟩ : ∃ x, l[i] = x := ⟨_, rfl⟩
    have hx' : l[i]? = some x := by rw [List.getElem?_eq_getElem hlt, hx]
    have bad : gridD N t x = false → griddedB N t l = false := fun h => by unfold griddedB; rw [all_idx_f i x hx' h]
    have hd := h3 x (List.mem_of_getElem? hx')
    obtain ⟨di, dj, db⟩ := x
    simp only [rightD, Bool.and_eq_true, decide_eq_true_eq] at hd
    obtain ⟨⟨⟨⟨g1, g2⟩, g3⟩, g4⟩, g5⟩ := hd
    obtain ⟨a, rfl⟩ := Int.eq_ofNat_of_zero_le g1
    obtain ⟨b, rfl⟩ := Int.eq_ofNat_of_zero_le g3
    have ha : a < t.length := by omega
    have hb : b < t.length := by omega
    have ra := hr _ (List.getElem_mem ha)
    have rb := hr _ (List.getElem_mem hb)
    by_cases hinf : db = 2147483647
    · have good : gridD N t ⟨a, b, db⟩ = true := by simp [gridD, hinf]
      repeat' (first
    | refine AW_seq_k fun K hK => ?_
    | refine AW_block ?_
    | refine AW_skip ?_
    | refine AW_exit ?_
    | refine AW_ret ?_
    | refine AW_scope ?_
    | refine AW_label ?_
    | refine SScope_normal ?_
    | refine SScope_ret ?_
    | refine SScope_exit ?_
    | refine SThen_normal ?_
    | refine SThen_ret ?_
    | refine SThen_exit ?_
    | refine SBlock_normal ?_
    | refine SBlock_ret ?_
    | refine SBlock_exit ?_
    | refine SBlock_exit_ne (by decide) ?_
    | (refine AW_region_AO ?_; simp [iv, dv, D.cells, hlt, hx, hinf, wrap_i64]; try (simp (disch := omega) only [wrap_i64]; try simp [iv, dv, D.cells, hlt, hx, hinf, wrap_i64]))
    | (refine AOg_split_notdec (fun h => ?_) (fun h => ?_) <;> (simp [h, iv, dv, D.cells, hlt, hx, hinf, wrap_i64]; try (simp (disch := omega) only [wrap_i64]; try simp [iv, dv, D.cells, hlt, hx, hinf, wrap_i64])))
    | (refine AOg_split_dec (fun h => ?_) (fun h => ?_) <;> (simp [h, iv, dv, D.cells, hlt, hx, hinf, wrap_i64]; try (simp (disch := omega) only [wrap_i64]; try simp [iv, dv, D.cells, hlt, hx, hinf, wrap_i64])))
    | (refine AOg_split_not (fun h => ?_) (fun h => ?_) <;> (simp [h, iv, dv, D.cells, hlt, hx, hinf, wrap_i64]; try (simp (disch := omega) only [wrap_i64]; try simp [iv, dv, D.cells, hlt, hx, hinf, wrap_i64])))
    | (refine AOg_split (fun h => ?_) (fun h => ?_) <;> (simp [h, iv, dv, D.cells, hlt, hx, hinf, wrap_i64]; try (simp (disch := omega) only [wrap_i64]; try simp [iv, dv, D.cells, hlt, hx, hinf, wrap_i64])))
    | refine AW_cond_t rfl ?_
    | refine AW_cond_f rfl ?_
    | refine AW_cond_notdec rfl (fun h => ?_) (fun h => ?_)
    | refine AW_cond_dec rfl (fun h => ?_) (fun h => ?_)
    | refine AW_cond_not rfl (fun h => ?_) (fun h => ?_)
    | refine AW_cond rfl (fun h => ?_) (fun h => ?_)
    | (refine APg_split_notdec (fun h => ?_) (fun h => ?_) <;> (simp [h, iv, dv, D.cells, hlt, hx, hinf, wrap_i64]; try (simp (disch := omega) only [wrap_i64]; try simp [iv, dv, D.cells, hlt, hx, hinf, wrap_i64])))
    | (refine APg_split_dec (fun h => ?_) (fun h => ?_) <;> (simp [h, iv, dv, D.cells, hlt, hx, hinf, wrap_i64]; try (simp (disch := omega) only [wrap_i64]; try simp [iv, dv, D.cells, hlt, hx, hinf, wrap_i64])))
    | (refine APg_split_not (fun h => ?_) (fun h => ?_) <;> (simp [h, iv, dv, D.cells, hlt, hx, hinf, wrap_i64]; try (simp (disch := omega) only [wrap_i64]; try simp [iv, dv, D.cells, hlt, hx, hinf, wrap_i64])))
    | (refine APg_split (fun h => ?_) (fun h => ?_) <;> (simp [h, iv, dv, D.cells, hlt, hx, hinf, wrap_i64]; try (simp (disch := omega) only [wrap_i64]; try simp [iv, dv, D.cells, hlt, hx, hinf, wrap_i64])))
    | (apply hK; clear hK K)
    | (refine AWh (by assumption) ?_))
      refine ⟨i + 1, ⟨by omega, hi.2.succ hx' good⟩, by omega, ?_⟩
      apply Weak.mk' <;> simp [iv, dv]
    · simp [rightB, hinf] at g5
      have k1 : db / 2 * N ≤ 268435456 * N := Int.mul_le_mul_of_nonneg_right (by omega) (by omega)
      have k2 : -268435456 * N ≤ db / 2 * N := Int.mul_le_mul_of_nonneg_right (by omega) (by omega)
      have w1 : IntKind.i64.wrap db = db := wrap_i64 (by omega) (by omega)
      have w2 : IntKind.i64.wrap (db - db % 2) = db - db % 2 := wrap_i64 (by omega) (by omega)
      have w3 : IntKind.i64.wrap ((db - db % 2).tdiv 2) = db / 2 := by
        rw [Int.tdiv_eq_ediv_of_dvd (by omega), show (db - db % 2) / 2 = db / 2 from by omega]
        exact wrap_i64 (by omega) (by omega)
      have w4 : IntKind.i64.wrap (db / 2 * N) = db / 2 * N := wrap_i64 (by omega) (by omega)
      have w5 : IntKind.i64.wrap (db / 2 * N - 1) = db / 2 * N - 1 := wrap_i64 (by omega) (by omega)
      have w6 : IntKind.i64.wrap (t[a] - t[b]) = t[a] - t[b] := wrap_i64 (by omega) (by omega)
      have hg : gridD N t ⟨a, b, db⟩ = decide (t[a] - t[b] ≤ db / 2 * N - (if db % 2 = 1 then 0 else 1)) := by simp [gridD, hinf, ha, hb]
      rw [hg] at bad
      have good := fun h => hi.2.succ hx' (hg.trans h)
      repeat' (first
    | refine AW_seq_k fun K hK => ?_
    | refine AW_block ?_
    | refine AW_skip ?_
    | refine AW_exit ?_
    | refine AW_ret ?_
    | refine AW_scope ?_
    | refine AW_label ?_
    | refine SScope_normal ?_
    | refine SScope_ret ?_
    | refine SScope_exit ?_
    | refine SThen_normal ?_
    | refine SThen_ret ?_
    | refine SThen_exit ?_
    | refine SBlock_normal ?_
    | refine SBlock_ret ?_
    | refine SBlock_exit ?_
    | refine SBlock_exit_ne (by decide) ?_
    | (refine AW_region_AO ?_; simp [iv, dv, D.cells, hlt, hx, hinf, ha, hb, and_one64, w1, w2, w3, w4, w5, w6, wrap_i64]; try (simp (disch := omega) only [wrap_i64]; try simp [iv, dv, D.cells, hlt, hx, hinf, ha, hb, and_one64, w1, w2, w3, w4, w5, w6, wrap_i64]))
    | (refine AOg_split_notdec (fun h => ?_) (fun h => ?_) <;> (simp [h, iv, dv, D.cells, hlt, hx, hinf, ha, hb, and_one64, w1, w2, w3, w4, w5, w6, wrap_i64]; try (simp (disch := omega) only [wrap_i64]; try simp [iv, dv, D.cells, hlt, hx, hinf, ha, hb, and_one64, w1, w2, w3, w4, w5, w6, wrap_i64])))
    | (refine AOg_split_dec (fun h => ?_) (fun h => ?_) <;> (simp [h, iv, dv, D.cells, hlt, hx, hinf, ha, hb, and_one64, w1, w2, w3, w4, w5, w6, wrap_i64]; try (simp (disch := omega) only [wrap_i64]; try simp [iv, dv, D.cells, hlt, hx, hinf, ha, hb, and_one64, w1, w2, w3, w4, w5, w6, wrap_i64])))
    | (refine AOg_split_not (fun h => ?_) (fun h => ?_) <;> (simp [h, iv, dv, D.cells, hlt, hx, hinf, ha, hb, and_one64, w1, w2, w3, w4, w5, w6, wrap_i64]; try (simp (disch := omega) only [wrap_i64]; try simp [iv, dv, D.cells, hlt, hx, hinf, ha, hb, and_one64, w1, w2, w3, w4, w5, w6, wrap_i64])))
    | (refine AOg_split (fun h => ?_) (fun h => ?_) <;> (simp [h, iv, dv, D.cells, hlt, hx, hinf, ha, hb, and_one64, w1, w2, w3, w4, w5, w6, wrap_i64]; try (simp (disch := omega) only [wrap_i64]; try simp [iv, dv, D.cells, hlt, hx, hinf, ha, hb, and_one64, w1, w2, w3, w4, w5, w6, wrap_i64])))
    | refine AW_cond_t rfl ?_
    | refine AW_cond_f rfl ?_
    | refine AW_cond_notdec rfl (fun h => ?_) (fun h => ?_)
    | refine AW_cond_dec rfl (fun h => ?_) (fun h => ?_)
    | refine AW_cond_not rfl (fun h => ?_) (fun h => ?_)
    | refine AW_cond rfl (fun h => ?_) (fun h => ?_)
    | (refine APg_split_notdec (fun h => ?_) (fun h => ?_) <;> (simp [h, iv, dv, D.cells, hlt, hx, hinf, ha, hb, and_one64, w1, w2, w3, w4, w5, w6, wrap_i64]; try (simp (disch := omega) only [wrap_i64]; try simp [iv, dv, D.cells, hlt, hx, hinf, ha, hb, and_one64, w1, w2, w3, w4, w5, w6, wrap_i64])))
    | (refine APg_split_dec (fun h => ?_) (fun h => ?_) <;> (simp [h, iv, dv, D.cells, hlt, hx, hinf, ha, hb, and_one64, w1, w2, w3, w4, w5, w6, wrap_i64]; try (simp (disch := omega) only [wrap_i64]; try simp [iv, dv, D.cells, hlt, hx, hinf, ha, hb, and_one64, w1, w2, w3, w4, w5, w6, wrap_i64])))
    | (refine APg_split_not (fun h => ?_) (fun h => ?_) <;> (simp [h, iv, dv, D.cells, hlt, hx, hinf, ha, hb, and_one64, w1, w2, w3, w4, w5, w6, wrap_i64]; try (simp (disch := omega) only [wrap_i64]; try simp [iv, dv, D.cells, hlt, hx, hinf, ha, hb, and_one64, w1, w2, w3, w4, w5, w6, wrap_i64])))
    | (refine APg_split (fun h => ?_) (fun h => ?_) <;> (simp [h, iv, dv, D.cells, hlt, hx, hinf, ha, hb, and_one64, w1, w2, w3, w4, w5, w6, wrap_i64]; try (simp (disch := omega) only [wrap_i64]; try simp [iv, dv, D.cells, hlt, hx, hinf, ha, hb, and_one64, w1, w2, w3, w4, w5, w6, wrap_i64])))
    | (refine AW_region_APx (id := 10) 13 mixed (by decide) ?_; simp [iv, dv, D.cells, hlt, hx, hinf, ha, hb, and_one64, w1, w2, w3, w4, w5, w6, wrap_i64]; try (simp (disch := omega) only [wrap_i64]; try simp [iv, dv, D.cells, hlt, hx, hinf, ha, hb, and_one64, w1, w2, w3, w4, w5, w6, wrap_i64]))
    | (apply hK; clear hK K)
    | (refine AWh (by assumption) ?_))
      all_goals first
        | exact retq1 (conv_eq (by simp; exact bad (by simp only [decide_eq_false_iff_not]; split <;> omega)) rfl)
        | (refine ⟨i + 1, ⟨by omega, good (by simp only [decide_eq_true_eq]; split <;> omega)⟩, by omega, ?_⟩
           apply Weak.mk' <;> simp [iv, dv])
  · have hall : l.all (gridD N t) = true := hi.2.all (by omega)
    repeat' (first
    | refine AW_seq_k fun K hK => ?_
    | refine AW_block ?_
    | refine AW_skip ?_
    | refine AW_exit ?_
    | refine AW_ret ?_
    | refine AW_scope ?_
    | refine AW_label ?_
    | refine SScope_normal ?_
    | refine SScope_ret ?_
    | refine SScope_exit ?_
    | refine SThen_normal ?_
    | refine SThen_ret ?_
    | refine SThen_exit ?_
    | refine SBlock_normal ?_
    | refine SBlock_ret ?_
    | refine SBlock_exit ?_
    | refine SBlock_exit_ne (by decide) ?_
    | (refine AW_region_AO ?_; simp [iv, dv, hlt])
    | (refine AOg_split_notdec (fun h => ?_) (fun h => ?_) <;> (simp [h, iv, dv, hlt]))
    | (refine AOg_split_dec (fun h => ?_) (fun h => ?_) <;> (simp [h, iv, dv, hlt]))
    | (refine AOg_split_not (fun h => ?_) (fun h => ?_) <;> (simp [h, iv, dv, hlt]))
    | (refine AOg_split (fun h => ?_) (fun h => ?_) <;> (simp [h, iv, dv, hlt]))
    | refine AW_cond_t rfl ?_
    | refine AW_cond_f rfl ?_
    | refine AW_cond_notdec rfl (fun h => ?_) (fun h => ?_)
    | refine AW_cond_dec rfl (fun h => ?_) (fun h => ?_)
    | refine AW_cond_not rfl (fun h => ?_) (fun h => ?_)
    | refine AW_cond rfl (fun h => ?_) (fun h => ?_)
    | (refine APg_split_notdec (fun h => ?_) (fun h => ?_) <;> (simp [h, iv, dv, hlt]))
    | (refine APg_split_dec (fun h => ?_) (fun h => ?_) <;> (simp [h, iv, dv, hlt]))
    | (refine APg_split_not (fun h => ?_) (fun h => ?_) <;> (simp [h, iv, dv, hlt]))
    | (refine APg_split (fun h => ?_) (fun h => ?_) <;> (simp [h, iv, dv, hlt]))
    | (apply hK; clear hK K)
    | (refine AWh (by assumption) ?_))
    exact retq1 (conv_eq (by simp [griddedB, hall]) rfl)
end Go.Proofs.Ytgmlimipejcpgaa
