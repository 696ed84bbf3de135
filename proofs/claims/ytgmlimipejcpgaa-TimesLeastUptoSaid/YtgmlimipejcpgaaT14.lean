/-
  YtgmlimipejcpgaaT14: a step of the proof of a law of the program: what this text proves holds under the hypotheses that its theorems name, and no others.
-/
import Derived.Test.YtgmlimipejcpgaaT8
import Derived.Test.YtgmlimipejcpgaaT6
import Derived.Test.YtgmlimipejcpgaaT13
set_option linter.unusedVariables false
set_option linter.unusedSimpArgs false
namespace Go.Proofs.Ytgmlimipejcpgaa
open Go Go.AM Fx
theorem live_least : leastV 3 [⟨0, 1, -5⟩, ⟨1, 2, -14⟩] = .tup [iv [0, 9, 31], .int .i64 3, .int .i64 0] := by
  have h1 : wrongE 3 [⟨0, 1, -5⟩, ⟨1, 2, -14⟩] = 0 := by decide
  have h2 : leastSt 3 [⟨0, 1, -5⟩, ⟨1, 2, -14⟩] = ([0, 9, 31], true) := by decide
  have h3 : leastOk 3 [⟨0, 1, -5⟩, ⟨1, 2, -14⟩] = true := by decide
  simp [leastV, h1, h2, h3]
theorem c_live : PC 5 [] (.bool true) := by
  have hc := c_least 3 [⟨0, 1, -5⟩, ⟨1, 2, -14⟩] (by unfold I64; omega) (by simp)
  rw [live_least] at hc
  refine PCall_body Try.func5 rfl (by decide) Try.ntmps5 (by simp) Try.results5 ?_
  repeat' (first
    | refine AW_seq_k fun K hK => ?_
    | refine AW_block ?_
    | refine AW_skip ?_
    | refine AW_exit ?_
    | refine AW_ret ?_
    | refine AW_scope ?_
    | refine AW_label ?_
    | refine SScope_normal ?_
    | refine SScope_ret ?_
    | refine SScope_exit ?_
    | refine SThen_normal ?_
    | refine SThen_ret ?_
    | refine SThen_exit ?_
    | refine SBlock_normal ?_
    | refine SBlock_ret ?_
    | refine SBlock_exit ?_
    | refine SBlock_exit_ne (by decide) ?_
    | (refine AW_region_AO ?_; simp [iv])
    | (refine AOg_split_notdec (fun h => ?_) (fun h => ?_) <;> (simp [h, iv]))
    | (refine AOg_split_dec (fun h => ?_) (fun h => ?_) <;> (simp [h, iv]))
    | (refine AOg_split_not (fun h => ?_) (fun h => ?_) <;> (simp [h, iv]))
    | (refine AOg_split (fun h => ?_) (fun h => ?_) <;> (simp [h, iv]))
    | refine AW_cond_t rfl ?_
    | refine AW_cond_f rfl ?_
    | refine AW_cond_notdec rfl (fun h => ?_) (fun h => ?_)
    | refine AW_cond_dec rfl (fun h => ?_) (fun h => ?_)
    | refine AW_cond_not rfl (fun h => ?_) (fun h => ?_)
    | refine AW_cond rfl (fun h => ?_) (fun h => ?_)
    | (refine APg_split_notdec (fun h => ?_) (fun h => ?_) <;> (simp [h, iv]))
    | (refine APg_split_dec (fun h => ?_) (fun h => ?_) <;> (simp [h, iv]))
    | (refine APg_split_not (fun h => ?_) (fun h => ?_) <;> (simp [h, iv]))
    | (refine APg_split (fun h => ?_) (fun h => ?_) <;> (simp [h, iv]))
    | (refine AS_view 7 rfl rfl (by simp) ?_; refine AS_call1 (f := 9) rfl rfl hc rfl rfl rfl ?_; simp [iv])
    | (apply hK; clear hK K)
    | (refine AWh (by assumption) ?_))
  exact retq1 (conv_eq rfl rfl)

theorem c_TimesKeeps (t : List Int) (grid : Int) (l : List D) (ht : t.length ≤ 1099511627776) (hl : l.length ≤ 1099511627776) (hg : I64 grid) (hb : ∀ d ∈ l, I32 d.b) :
    PC 3 [iv t, .int .i64 grid, dv l] (.bool true) := by
  have h1 := c_keeps t grid l (by unfold big; omega) (by unfold big; omega) hg
  have h2 := r_keeps t grid l (by unfold big; omega) (by unfold big; omega) hg hb
  have h3 := c_sameTimes t t (by omega) (by omega)
  have h4 : t.length * 8 ≤ 140737488355328 := by omega
  have h5 : (t.map fun n => [V.int .i64 n]).take t.length = t.map fun n => [V.int .i64 n] := List.take_of_length_le (by simp)
  refine PCall_body Try.func3 rfl (by decide) Try.ntmps3 (by simp) Try.results3 ?_
  repeat' (first
    | refine AW_seq_k fun K hK => ?_
    | refine AW_block ?_
    | refine AW_skip ?_
    | refine AW_exit ?_
    | refine AW_ret ?_
    | refine AW_scope ?_
    | refine AW_label ?_
    | refine SScope_normal ?_
    | refine SScope_ret ?_
    | refine SScope_exit ?_
    | refine SThen_normal ?_
    | refine SThen_ret ?_
    | refine SThen_exit ?_
    | refine SBlock_normal ?_
    | refine SBlock_ret ?_
    | refine SBlock_exit ?_
    | refine SBlock_exit_ne (by decide) ?_
    | (refine AW_region_AO ?_; simp [iv, h4, h5])
    | (refine AOg_split_notdec (fun h => ?_) (fun h => ?_) <;> (simp [h, iv, h4, h5]))
    | (refine AOg_split_dec (fun h => ?_) (fun h => ?_) <;> (simp [h, iv, h4, h5]))
    | (refine AOg_split_not (fun h => ?_) (fun h => ?_) <;> (simp [h, iv, h4, h5]))
    | (refine AOg_split (fun h => ?_) (fun h => ?_) <;> (simp [h, iv, h4, h5]))
    | refine AW_cond_t rfl ?_
    | refine AW_cond_f rfl ?_
    | refine AW_cond_notdec rfl (fun h => ?_) (fun h => ?_)
    | refine AW_cond_dec rfl (fun h => ?_) (fun h => ?_)
    | refine AW_cond_not rfl (fun h => ?_) (fun h => ?_)
    | refine AW_cond rfl (fun h => ?_) (fun h => ?_)
    | (refine APg_split_notdec (fun h => ?_) (fun h => ?_) <;> (simp [h, iv, h4, h5]))
    | (refine APg_split_dec (fun h => ?_) (fun h => ?_) <;> (simp [h, iv, h4, h5]))
    | (refine APg_split_not (fun h => ?_) (fun h => ?_) <;> (simp [h, iv, h4, h5]))
    | (refine APg_split (fun h => ?_) (fun h => ?_) <;> (simp [h, iv, h4, h5]))
    | (refine AS_call1 (f := 5) rfl rfl (c_live) rfl rfl rfl ?_; simp [iv, h4, h5])
    | (refine AS_view 13 rfl rfl (by simp) ?_; refine AS_call1 (f := 6) rfl rfl h1 rfl rfl rfl ?_; simp [iv])
    | (refine AS_call1 (f := 7) rfl rfl (h2) rfl rfl rfl ?_; simp [iv, h4, h5])
    | (refine AS_view 24 rfl rfl (by simp) ?_; refine AS_call1 (f := 8) rfl rfl h3 rfl rfl rfl ?_; simp [iv])
    | (apply hK; clear hK K)
    | (refine AWh (by assumption) ?_))
  all_goals trace_state
  exact retq1 (conv_eq (by simp) rfl)
end Go.Proofs.Ytgmlimipejcpgaa
