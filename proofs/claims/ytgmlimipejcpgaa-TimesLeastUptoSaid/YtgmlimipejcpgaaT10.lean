/-
  YtgmlimipejcpgaaT10: a step of the proof of a law of the program: what this text proves holds under the hypotheses that its theorems name, and no others.
-/
import Derived.Test.YtgmlimipejcpgaaT9
set_option linter.unusedVariables false
set_option linter.unusedSimpArgs false
namespace Go.Proofs.Ytgmlimipejcpgaa
open Go Go.AM Fx
/-- A point is at most so many units behind another one. -/
structure A where
  i : Int
  j : Int
  most : Int
def A.cells (a : A) : List V := [.int .i64 a.i, .int .i64 a.j, .int .i64 a.most]
def av (l : List A) : V := .vec (l.map A.cells) l.length
def arcOf (n : Int) (d : D) : Option A := if someB d.b = true then some ⟨d.i, d.j, d.b / 2 * n - (if d.b % 2 = 1 then 0 else 1)⟩ else none
def arcsL (n : Int) (l : List D) : List A := l.filterMap (arcOf n)

theorem arcsL_succ {n : Int} {l : List D} {i : Nat} {d : D} (h : l[i]? = some d) : arcsL n (l.take (i + 1)) = arcsL n (l.take i) ++ (arcOf n d).toList := by
  have hlt := (List.getElem?_eq_some_iff.1 h).1
  have : l.take (i + 1) = l.take i ++ [d] := by
    rw [List.take_add_one, h]; rfl
  rw [arcsL, this, List.filterMap_append]
  cases he : arcOf n d <;> simp [he, arcsL]
theorem arcsL_len {n : Int} {l : List D} {i : Nat} : (arcsL n (l.take i)).length ≤ l.length :=
  Nat.le_trans (List.length_filterMap_le _ _) (by simp; omega)

set_option maxHeartbeats 2000000 in
theorem c_arcs (n : Int) (l : List D) (hn : 1 ≤ n) (hn' : n ≤ 4100) (hl : l.length ≤ 1099511627776) : PC 16 [.int .i64 n, dv l] (av (arcsL n l)) := by
  refine PCall_body Try.func16 rfl (by decide) Try.ntmps16 (by simp) Try.results16 ?_
  repeat' (first
    | refine AW_seq_k fun K hK => ?_
    | refine AW_block ?_
    | refine AW_skip ?_
    | refine AW_exit ?_
    | refine AW_ret ?_
    | refine SThen_normal ?_
    | refine SThen_ret ?_
    | refine SThen_exit ?_
    | refine SBlock_normal ?_
    | refine SBlock_ret ?_
    | refine SBlock_exit ?_
    | refine SBlock_exit_ne (by decide) ?_
    | (refine AW_region_AO ?_; simp [dv])
    | (refine AOg_split_notdec (fun h => ?_) (fun h => ?_) <;> (simp [h, dv]))
    | (refine AOg_split_dec (fun h => ?_) (fun h => ?_) <;> (simp [h, dv]))
    | (refine AOg_split_not (fun h => ?_) (fun h => ?_) <;> (simp [h, dv]))
    | (refine AOg_split (fun h => ?_) (fun h => ?_) <;> (simp [h, dv]))
    | refine AW_cond_t rfl ?_
    | refine AW_cond_f rfl ?_
    | refine AW_cond_notdec rfl (fun h => ?_) (fun h => ?_)
    | refine AW_cond_dec rfl (fun h => ?_) (fun h => ?_)
    | refine AW_cond_not rfl (fun h => ?_) (fun h => ?_)
    | refine AW_cond rfl (fun h => ?_) (fun h => ?_)
    | (refine APg_split_notdec (fun h => ?_) (fun h => ?_) <;> (simp [h, dv]))
    | (refine APg_split_dec (fun h => ?_) (fun h => ?_) <;> (simp [h, dv]))
    | (refine APg_split_not (fun h => ?_) (fun h => ?_) <;> (simp [h, dv]))
    | (refine APg_split (fun h => ?_) (fun h => ?_) <;> (simp [h, dv]))
    | (refine AW_nilrow 5 45 rfl (by simp) ?_; simp)
    | (apply hK; clear hK K)
    | (refine AWh (by assumption) ?_))
  refine AW_loop (fun i : Nat => (⟨47, [(14, .int .i64 i), (13, .int .i64 l.length), (12, dv l), (0, .int .i64 n), (5, .ref 0 (arcsL n (l.take i)).length 0 (arcsL n (l.take i)).length)], [.row 45 (arcsL n (l.take i)).length 0 true ((arcsL n (l.take i)).map A.cells)]⟩ : St)) (fun i => i ≤ l.length) (fun i => l.length - i) (x0 := 0) ?_ ?_ ?_ ?_
  · simp
  · apply Weak.mk' <;> simp [dv, arcsL]
  · simp
  · intro i hi
    by_cases hlt : i < l.length
    · obtain ⟨x, hx⟩ : ∃ x, l[i] = x := ⟨_, rfl⟩
      have hx' : l[i]? = some x := by rw [List.getElem?_eq_getElem hlt, hx]
      have hlen : (arcsL n (l.take i)).length ≤ l.length := arcsL_len
      have hsucc := arcsL_succ (n := n) hx'
      generalize arcsL n (l.take i) = xs at *
      obtain ⟨di, dj, db⟩ := x
      by_cases hs : someB db = true
      · have hv : PC 20 [.int .i32 db] (.tup [.int .i64 (db / 2), .bool (decide (db % 2 = 1)), .bool true]) := by have := c_value db; simpa [valueV, hs] using this
        have hb := sq_lo (n := 268435456) (a := db / 2) (b := n) (by simp [someB, rightB] at hs; omega) (by simp [someB, rightB] at hs; omega) (by omega) (by omega) (by omega)
        simp at hb
        simp only [arcOf, hs, if_true, Option.toList] at hsucc
        obtain ⟨q, hq⟩ : ∃ q, db / 2 * n = q := ⟨_, rfl⟩
        rw [hq] at hb hsucc
        have hw : IntKind.i64.wrap q = q := wrap_i64 (by omega) (by omega)
        have hw1 : IntKind.i64.wrap (q - 1) = q - 1 := wrap_i64 (by omega) (by omega)
        have hcap : (xs.length + 1) * 24 ≤ 140737488355328 := by omega
        repeat' (first
    | refine AW_seq_k fun K hK => ?_
    | refine AW_block ?_
    | refine AW_skip ?_
    | refine AW_exit ?_
    | refine AW_ret ?_
    | refine SThen_normal ?_
    | refine SThen_ret ?_
    | refine SThen_exit ?_
    | refine SBlock_normal ?_
    | refine SBlock_ret ?_
    | refine SBlock_exit ?_
    | refine SBlock_exit_ne (by decide) ?_
    | (refine AW_region_AO ?_; simp [dv, D.cells, hlt, hx, hq, hw, hw1, hcap, wrap_i64]; try (simp (disch := omega) only [wrap_i64]; try simp [dv, D.cells, hlt, hx, hq, hw, hw1, hcap, wrap_i64]))
    | (refine AOg_split_notdec (fun h => ?_) (fun h => ?_) <;> (simp [h, dv, D.cells, hlt, hx, hq, hw, hw1, hcap, wrap_i64]; try (simp (disch := omega) only [wrap_i64]; try simp [dv, D.cells, hlt, hx, hq, hw, hw1, hcap, wrap_i64])))
    | (refine AOg_split_dec (fun h => ?_) (fun h => ?_) <;> (simp [h, dv, D.cells, hlt, hx, hq, hw, hw1, hcap, wrap_i64]; try (simp (disch := omega) only [wrap_i64]; try simp [dv, D.cells, hlt, hx, hq, hw, hw1, hcap, wrap_i64])))
    | (refine AOg_split_not (fun h => ?_) (fun h => ?_) <;> (simp [h, dv, D.cells, hlt, hx, hq, hw, hw1, hcap, wrap_i64]; try (simp (disch := omega) only [wrap_i64]; try simp [dv, D.cells, hlt, hx, hq, hw, hw1, hcap, wrap_i64])))
    | (refine AOg_split (fun h => ?_) (fun h => ?_) <;> (simp [h, dv, D.cells, hlt, hx, hq, hw, hw1, hcap, wrap_i64]; try (simp (disch := omega) only [wrap_i64]; try simp [dv, D.cells, hlt, hx, hq, hw, hw1, hcap, wrap_i64])))
    | refine AW_cond_t rfl ?_
    | refine AW_cond_f rfl ?_
    | refine AW_cond_notdec rfl (fun h => ?_) (fun h => ?_)
    | refine AW_cond_dec rfl (fun h => ?_) (fun h => ?_)
    | refine AW_cond_not rfl (fun h => ?_) (fun h => ?_)
    | refine AW_cond rfl (fun h => ?_) (fun h => ?_)
    | (refine APg_split_notdec (fun h => ?_) (fun h => ?_) <;> (simp [h, dv, D.cells, hlt, hx, hq, hw, hw1, hcap, wrap_i64]; try (simp (disch := omega) only [wrap_i64]; try simp [dv, D.cells, hlt, hx, hq, hw, hw1, hcap, wrap_i64])))
    | (refine APg_split_dec (fun h => ?_) (fun h => ?_) <;> (simp [h, dv, D.cells, hlt, hx, hq, hw, hw1, hcap, wrap_i64]; try (simp (disch := omega) only [wrap_i64]; try simp [dv, D.cells, hlt, hx, hq, hw, hw1, hcap, wrap_i64])))
    | (refine APg_split_not (fun h => ?_) (fun h => ?_) <;> (simp [h, dv, D.cells, hlt, hx, hq, hw, hw1, hcap, wrap_i64]; try (simp (disch := omega) only [wrap_i64]; try simp [dv, D.cells, hlt, hx, hq, hw, hw1, hcap, wrap_i64])))
    | (refine APg_split (fun h => ?_) (fun h => ?_) <;> (simp [h, dv, D.cells, hlt, hx, hq, hw, hw1, hcap, wrap_i64]; try (simp (disch := omega) only [wrap_i64]; try simp [dv, D.cells, hlt, hx, hq, hw, hw1, hcap, wrap_i64])))
    | (refine AS_call1 (f := 20) rfl rfl (hv) rfl rfl rfl ?_; simp [dv, D.cells, hlt, hx, hq, hw, hw1, hcap, wrap_i64]; try (simp (disch := omega) only [wrap_i64]; try simp [dv, D.cells, hlt, hx, hq, hw, hw1, hcap, wrap_i64]))
    | (apply hK; clear hK K)
    | (refine AWh (by assumption) ?_))
        all_goals (refine ⟨i + 1, by omega, by omega, ?_⟩; apply Weak.mk' <;> simp [dv, hsucc, A.cells, h])
      · have hv : PC 20 [.int .i32 db] (.tup [.int .i64 0, .bool false, .bool false]) := by have := c_value db; simpa [valueV, hs] using this
        have hnone : arcOf n ⟨di, dj, db⟩ = none := by simp [arcOf, hs]
        simp only [hnone, Option.toList, List.append_nil] at hsucc
        repeat' (first
    | refine AW_seq_k fun K hK => ?_
    | refine AW_block ?_
    | refine AW_skip ?_
    | refine AW_exit ?_
    | refine AW_ret ?_
    | refine SThen_normal ?_
    | refine SThen_ret ?_
    | refine SThen_exit ?_
    | refine SBlock_normal ?_
    | refine SBlock_ret ?_
    | refine SBlock_exit ?_
    | refine SBlock_exit_ne (by decide) ?_
    | (refine AW_region_AO ?_; simp [dv, D.cells, hlt, hx, wrap_i64]; try (simp (disch := omega) only [wrap_i64]; try simp [dv, D.cells, hlt, hx, wrap_i64]))
    | (refine AOg_split_notdec (fun h => ?_) (fun h => ?_) <;> (simp [h, dv, D.cells, hlt, hx, wrap_i64]; try (simp (disch := omega) only [wrap_i64]; try simp [dv, D.cells, hlt, hx, wrap_i64])))
    | (refine AOg_split_dec (fun h => ?_) (fun h => ?_) <;> (simp [h, dv, D.cells, hlt, hx, wrap_i64]; try (simp (disch := omega) only [wrap_i64]; try simp [dv, D.cells, hlt, hx, wrap_i64])))
    | (refine AOg_split_not (fun h => ?_) (fun h => ?_) <;> (simp [h, dv, D.cells, hlt, hx, wrap_i64]; try (simp (disch := omega) only [wrap_i64]; try simp [dv, D.cells, hlt, hx, wrap_i64])))
    | (refine AOg_split (fun h => ?_) (fun h => ?_) <;> (simp [h, dv, D.cells, hlt, hx, wrap_i64]; try (simp (disch := omega) only [wrap_i64]; try simp [dv, D.cells, hlt, hx, wrap_i64])))
    | refine AW_cond_t rfl ?_
    | refine AW_cond_f rfl ?_
    | refine AW_cond_notdec rfl (fun h => ?_) (fun h => ?_)
    | refine AW_cond_dec rfl (fun h => ?_) (fun h => ?_)
    | refine AW_cond_not rfl (fun h => ?_) (fun h => ?_)
    | refine AW_cond rfl (fun h => ?_) (fun h => ?_)
    | (refine APg_split_notdec (fun h => ?_) (fun h => ?_) <;> (simp [h, dv, D.cells, hlt, hx, wrap_i64]; try (simp (disch := omega) only [wrap_i64]; try simp [dv, D.cells, hlt, hx, wrap_i64])))
    | (refine APg_split_dec (fun h => ?_) (fun h => ?_) <;> (simp [h, dv, D.cells, hlt, hx, wrap_i64]; try (simp (disch := omega) only [wrap_i64]; try simp [dv, D.cells, hlt, hx, wrap_i64])))
    | (refine APg_split_not (fun h => ?_) (fun h => ?_) <;> (simp [h, dv, D.cells, hlt, hx, wrap_i64]; try (simp (disch := omega) only [wrap_i64]; try simp [dv, D.cells, hlt, hx, wrap_i64])))
    | (refine APg_split (fun h => ?_) (fun h => ?_) <;> (simp [h, dv, D.cells, hlt, hx, wrap_i64]; try (simp (disch := omega) only [wrap_i64]; try simp [dv, D.cells, hlt, hx, wrap_i64])))
    | (refine AS_call1 (f := 20) rfl rfl (hv) rfl rfl rfl ?_; simp [dv, D.cells, hlt, hx, wrap_i64]; try (simp (disch := omega) only [wrap_i64]; try simp [dv, D.cells, hlt, hx, wrap_i64]))
    | (apply hK; clear hK K)
    | (refine AWh (by assumption) ?_))
        all_goals (refine ⟨i + 1, by omega, by omega, ?_⟩; apply Weak.mk' <;> simp [dv, hsucc])
    · have htake : l.take i = l := List.take_of_length_le (by omega)
      repeat' (first
    | refine AW_seq_k fun K hK => ?_
    | refine AW_block ?_
    | refine AW_skip ?_
    | refine AW_exit ?_
    | refine AW_ret ?_
    | refine SThen_normal ?_
    | refine SThen_ret ?_
    | refine SThen_exit ?_
    | refine SBlock_normal ?_
    | refine SBlock_ret ?_
    | refine SBlock_exit ?_
    | refine SBlock_exit_ne (by decide) ?_
    | (refine AW_region_AO ?_; simp [dv, hlt, htake])
    | (refine AOg_split_notdec (fun h => ?_) (fun h => ?_) <;> (simp [h, dv, hlt, htake]))
    | (refine AOg_split_dec (fun h => ?_) (fun h => ?_) <;> (simp [h, dv, hlt, htake]))
    | (refine AOg_split_not (fun h => ?_) (fun h => ?_) <;> (simp [h, dv, hlt, htake]))
    | (refine AOg_split (fun h => ?_) (fun h => ?_) <;> (simp [h, dv, hlt, htake]))
    | refine AW_cond_t rfl ?_
    | refine AW_cond_f rfl ?_
    | refine AW_cond_notdec rfl (fun h => ?_) (fun h => ?_)
    | refine AW_cond_dec rfl (fun h => ?_) (fun h => ?_)
    | refine AW_cond_not rfl (fun h => ?_) (fun h => ?_)
    | refine AW_cond rfl (fun h => ?_) (fun h => ?_)
    | (refine APg_split_notdec (fun h => ?_) (fun h => ?_) <;> (simp [h, dv, hlt, htake]))
    | (refine APg_split_dec (fun h => ?_) (fun h => ?_) <;> (simp [h, dv, hlt, htake]))
    | (refine APg_split_not (fun h => ?_) (fun h => ?_) <;> (simp [h, dv, hlt, htake]))
    | (refine APg_split (fun h => ?_) (fun h => ?_) <;> (simp [h, dv, hlt, htake]))
    | (apply hK; clear hK K)
    | (refine AWh (by assumption) ?_))
      exact retq1 (.inl ⟨1, by simp [av], rfl⟩)
end Go.Proofs.Ytgmlimipejcpgaa
