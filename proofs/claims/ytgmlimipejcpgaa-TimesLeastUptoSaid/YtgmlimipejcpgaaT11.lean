/-
  YtgmlimipejcpgaaT11: a step of the proof of a law of the program: what this text proves holds under the hypotheses that its theorems name, and no others.
-/
import Derived.Test.YtgmlimipejcpgaaT10
import Derived.Test.YtgmlimipejcpgaaAmR
set_option linter.unusedVariables false
set_option linter.unusedSimpArgs false
namespace Go.Proofs.Ytgmlimipejcpgaa
open Go Go.AM Fx
section
variable {σ : Type} (step : σ → A → σ × Bool)
def runAll : σ → List A → σ
  | x, [] => x
  | x, a :: r => runAll (step x a).1 r
def round : σ → List A → σ × Bool
  | x, [] => (x, false)
  | x, a :: r => if (step x a).2 = true then (runAll step (step x a).1 r, true) else round (step x a).1 r
def rounds (l : List A) : Nat → σ → σ × Bool
  | 0, x => (x, false)
  | k + 1, x => if (round step x l).2 = true then rounds l k (round step x l).1 else ((round step x l).1, true)
end

set_option maxHeartbeats 4000000 in
theorem c_settled {σ : Type} (step : σ → A → σ × Bool) (f : Nat) (C : List V) (H : σ → List B) (m : Nat) (I : σ → Prop) (l : List A) (n : Nat)
    (hm : ∀ x, (H x).length = m) (hC : V.lts m C = true) (hH : ∀ x, ∀ y ∈ H x, y.lt m) (hl : big l.length) (hn : n ≤ 4100)
    (hstep : ∀ x a e, I x → a ∈ l → GCall Try.prog GV f (.agg a.cells :: C) (H x ++ e) (fun v h' => v = .bool (step x a).2 ∧ h' = H (step x a).1 ++ e))
    (hI : ∀ x a, I x → a ∈ l → I (step x a).1) (x0 : σ) (e : List B) (he : ∀ y ∈ e, y.lt (m + e.length)) (h0 : I x0) :
    GCall Try.prog GV 15 [.int .i64 n, av l, .fn (.func f) [] C] (H x0 ++ e) (fun v h' => v = .bool (rounds step l (n + 1) x0).2 ∧ h' = H (rounds step l (n + 1) x0).1 ++ e) := by
  unfold big at hl
  have hCe : V.lts (m + e.length) C = true := V.lts_mono (by omega) hC
  have hHe : ∀ x, ∀ y ∈ H x, y.lt (H x ++ e).length := fun x y hy => B.lt_mono (by simp [hm]) (hH x y hy)
  have hee : ∀ x, ∀ y ∈ e, y.lt (H x ++ e).length := fun x y hy => B.lt_mono (by simp [hm]) (he y hy)
  have nw : IntKind.i64.wrap ((n : Int) + 1) = n + 1 := wrap_i64 (by omega) (by omega)
  have g1 : ∀ x b, (H x ++ (e ++ [b]))[m + e.length]? = some b := fun x b => by
    rw [← List.append_assoc, List.getElem?_append_right (by simp [hm])]; simp [hm]
  have g2 : ∀ x b c, (H x ++ (e ++ [b, c]))[m + (e.length + 1)]? = some c := fun x b c => by
    rw [← List.append_assoc, List.getElem?_append_right (by simp [hm])]
    have : m + (e.length + 1) - (H x ++ e).length = 1 := by simp [hm]; omega
    rw [this]; rfl
  have s1 : ∀ x b c, (H x ++ (e ++ [b])).set (m + e.length) c = H x ++ (e ++ [c]) := fun x b c => by
    rw [← List.append_assoc, List.set_append_right _ _ (by simp [hm])]; simp [hm]
  have s2 : ∀ x b c d, (H x ++ (e ++ [b, c])).set (m + (e.length + 1)) d = H x ++ (e ++ [b, d]) := fun x b c d => by
    rw [← List.append_assoc, List.set_append_right _ _ (by simp [hm])]
    have : m + (e.length + 1) - (H x ++ e).length = 1 := by simp [hm]; omega
    rw [this]; simp
  refine GCall_body Try.func15 rfl (by decide) Try.ntmps15 (by simp) Try.results15 ?_
  repeat' (first
    | refine AW_seq_k fun K hK => ?_
    | refine AW_block ?_
    | refine AW_skip ?_
    | refine AW_exit ?_
    | refine AW_ret ?_
    | refine AW_scope ?_
    | refine AW_label ?_
    | refine SScope_normal ?_
    | refine SScope_ret ?_
    | refine SScope_exit ?_
    | refine SThen_normal ?_
    | refine SThen_ret ?_
    | refine SThen_exit ?_
    | refine SBlock_normal ?_
    | refine SBlock_ret ?_
    | refine SBlock_exit ?_
    | refine SBlock_exit_ne (by decide) ?_
    | (refine AW_region_AO ?_; simp [av, nw])
    | (refine AOg_split_notdec (fun h => ?_) (fun h => ?_) <;> (simp [h, av, nw]))
    | (refine AOg_split_dec (fun h => ?_) (fun h => ?_) <;> (simp [h, av, nw]))
    | (refine AOg_split_not (fun h => ?_) (fun h => ?_) <;> (simp [h, av, nw]))
    | (refine AOg_split (fun h => ?_) (fun h => ?_) <;> (simp [h, av, nw]))
    | refine AW_cond_t rfl ?_
    | refine AW_cond_f rfl ?_
    | refine AW_cond_notdec rfl (fun h => ?_) (fun h => ?_)
    | refine AW_cond_dec rfl (fun h => ?_) (fun h => ?_)
    | refine AW_cond_not rfl (fun h => ?_) (fun h => ?_)
    | refine AW_cond rfl (fun h => ?_) (fun h => ?_)
    | (refine APg_split_notdec (fun h => ?_) (fun h => ?_) <;> (simp [h, av, nw]))
    | (refine APg_split_dec (fun h => ?_) (fun h => ?_) <;> (simp [h, av, nw]))
    | (refine APg_split_not (fun h => ?_) (fun h => ?_) <;> (simp [h, av, nw]))
    | (refine APg_split (fun h => ?_) (fun h => ?_) <;> (simp [h, av, nw]))
    | (apply hK; clear hK K)
    | (refine AWh (by assumption) ?_))
  refine AW_loop (fun s : Nat × σ => (⟨41, [(13, .int .i64 s.1), (12, .int .i64 (n + 1 : Nat)), (0, .int .i64 n), (1, av l), (2, .fn (.func f) [] C)], H s.2 ++ e⟩ : St)) (fun s => s.1 ≤ n + 1 ∧ I s.2 ∧ rounds step l (n + 1 - s.1) s.2 = rounds step l (n + 1) x0) (fun s => n + 1 - s.1) (x0 := (0, x0)) ?_ ?_ ?_ ?_
  · simp [h0]
  · refine ⟨rfl, by simp, ?_, fun b y hy => .inr ⟨hy, ?_⟩⟩
    · simp [av, hCe, hm]
    · rcases List.mem_append.1 (List.mem_of_getElem? hy) with h | h
      · exact hHe _ _ h
      · exact hee _ _ h
  · simp [hm]
  · rintro ⟨k, x⟩ ⟨hk, hx, hr⟩
    simp only at hk hx hr
    by_cases hlt : k < n + 1
    · have hlt' : (k : Int) < n + 1 := by omega
      repeat' (first
    | refine AW_seq_k fun K hK => ?_
    | refine AW_block ?_
    | refine AW_skip ?_
    | refine AW_exit ?_
    | refine AW_ret ?_
    | refine AW_scope ?_
    | refine AW_label ?_
    | refine SScope_normal ?_
    | refine SScope_ret ?_
    | refine SScope_exit ?_
    | refine SThen_normal ?_
    | refine SThen_ret ?_
    | refine SThen_exit ?_
    | refine SBlock_normal ?_
    | refine SBlock_ret ?_
    | refine SBlock_exit ?_
    | refine SBlock_exit_ne (by decide) ?_
    | (refine AW_region_AO ?_; simp [av, hlt, hlt'])
    | (refine AOg_split_notdec (fun h => ?_) (fun h => ?_) <;> (simp [h, av, hlt, hlt']))
    | (refine AOg_split_dec (fun h => ?_) (fun h => ?_) <;> (simp [h, av, hlt, hlt']))
    | (refine AOg_split_not (fun h => ?_) (fun h => ?_) <;> (simp [h, av, hlt, hlt']))
    | (refine AOg_split (fun h => ?_) (fun h => ?_) <;> (simp [h, av, hlt, hlt']))
    | refine AW_cond_t rfl ?_
    | refine AW_cond_f rfl ?_
    | refine AW_cond_notdec rfl (fun h => ?_) (fun h => ?_)
    | refine AW_cond_dec rfl (fun h => ?_) (fun h => ?_)
    | refine AW_cond_not rfl (fun h => ?_) (fun h => ?_)
    | refine AW_cond rfl (fun h => ?_) (fun h => ?_)
    | (refine APg_split_notdec (fun h => ?_) (fun h => ?_) <;> (simp [h, av, hlt, hlt']))
    | (refine APg_split_dec (fun h => ?_) (fun h => ?_) <;> (simp [h, av, hlt, hlt']))
    | (refine APg_split_not (fun h => ?_) (fun h => ?_) <;> (simp [h, av, hlt, hlt']))
    | (refine APg_split (fun h => ?_) (fun h => ?_) <;> (simp [h, av, hlt, hlt']))
    | (apply hK; clear hK K)
    | (refine AWh (by assumption) ?_))
      refine AW_loop (fun s : Nat × σ => (⟨41, [(17, .int .i64 s.1), (16, .int .i64 l.length), (15, av l), (13, .int .i64 k), (12, .int .i64 (n + 1 : Nat)), (0, .int .i64 n), (1, av l), (2, .fn (.func f) [] C)], H s.2 ++ e⟩ : St)) (fun s => s.1 ≤ l.length ∧ I s.2 ∧ round step s.2 (l.drop s.1) = round step x l) (fun s => l.length - s.1) (x0 := (0, x)) ?_ ?_ ?_ ?_
      · simp [hx]
      · exact Weak.tail (x := []) (by simp) (by simp [av, hCe, hm]) (hHe _) (hee _)
      · simp [hm]
      · rintro ⟨i, y⟩ ⟨hi, hy, hrd⟩
        simp only at hi hy hrd
        by_cases hil : i < l.length
        · have hil' : (i : Int) < l.length := by omega
          obtain ⟨a, ha⟩ : ∃ a, l[i] = a := ⟨_, rfl⟩
          have hal : a ∈ l := ha ▸ List.getElem_mem hil
          rw [List.drop_eq_getElem_cons hil, ha] at hrd
          have hil2 : (0 : Int) ≤ i + 1 := by omega
          have hil3 : (i : Int) + 1 ≤ l.length := by omega
          have hA : ∀ z : A, z.cells.length = 3 := fun _ => rfl
          repeat' (first
    | refine AW_seq_k fun K hK => ?_
    | refine AW_block ?_
    | refine AW_skip ?_
    | refine AW_exit ?_
    | refine AW_ret ?_
    | refine AW_scope ?_
    | refine AW_label ?_
    | refine SScope_normal ?_
    | refine SScope_ret ?_
    | refine SScope_exit ?_
    | refine SThen_normal ?_
    | refine SThen_ret ?_
    | refine SThen_exit ?_
    | refine SBlock_normal ?_
    | refine SBlock_ret ?_
    | refine SBlock_exit ?_
    | refine SBlock_exit_ne (by decide) ?_
    | (refine AW_region_AO ?_; simp [av, hil, hil', hil2, hil3, ha, g1, s1, hm, A.cells, wrap_i64]; try (simp (disch := omega) only [wrap_i64]; try simp [av, hil, hil', hil2, hil3, ha, g1, s1, hm, A.cells, wrap_i64]))
    | (refine AOg_split_notdec (fun h => ?_) (fun h => ?_) <;> (simp [h, av, hil, hil', hil2, hil3, ha, g1, s1, hm, A.cells, wrap_i64]; try (simp (disch := omega) only [wrap_i64]; try simp [av, hil, hil', hil2, hil3, ha, g1, s1, hm, A.cells, wrap_i64])))
    | (refine AOg_split_dec (fun h => ?_) (fun h => ?_) <;> (simp [h, av, hil, hil', hil2, hil3, ha, g1, s1, hm, A.cells, wrap_i64]; try (simp (disch := omega) only [wrap_i64]; try simp [av, hil, hil', hil2, hil3, ha, g1, s1, hm, A.cells, wrap_i64])))
    | (refine AOg_split_not (fun h => ?_) (fun h => ?_) <;> (simp [h, av, hil, hil', hil2, hil3, ha, g1, s1, hm, A.cells, wrap_i64]; try (simp (disch := omega) only [wrap_i64]; try simp [av, hil, hil', hil2, hil3, ha, g1, s1, hm, A.cells, wrap_i64])))
    | (refine AOg_split (fun h => ?_) (fun h => ?_) <;> (simp [h, av, hil, hil', hil2, hil3, ha, g1, s1, hm, A.cells, wrap_i64]; try (simp (disch := omega) only [wrap_i64]; try simp [av, hil, hil', hil2, hil3, ha, g1, s1, hm, A.cells, wrap_i64])))
    | refine AW_cond_t rfl ?_
    | refine AW_cond_f rfl ?_
    | refine AW_cond_notdec rfl (fun h => ?_) (fun h => ?_)
    | refine AW_cond_dec rfl (fun h => ?_) (fun h => ?_)
    | refine AW_cond_not rfl (fun h => ?_) (fun h => ?_)
    | refine AW_cond rfl (fun h => ?_) (fun h => ?_)
    | (refine APg_split_notdec (fun h => ?_) (fun h => ?_) <;> (simp [h, av, hil, hil', hil2, hil3, ha, g1, s1, hm, A.cells, wrap_i64]; try (simp (disch := omega) only [wrap_i64]; try simp [av, hil, hil', hil2, hil3, ha, g1, s1, hm, A.cells, wrap_i64])))
    | (refine APg_split_dec (fun h => ?_) (fun h => ?_) <;> (simp [h, av, hil, hil', hil2, hil3, ha, g1, s1, hm, A.cells, wrap_i64]; try (simp (disch := omega) only [wrap_i64]; try simp [av, hil, hil', hil2, hil3, ha, g1, s1, hm, A.cells, wrap_i64])))
    | (refine APg_split_not (fun h => ?_) (fun h => ?_) <;> (simp [h, av, hil, hil', hil2, hil3, ha, g1, s1, hm, A.cells, wrap_i64]; try (simp (disch := omega) only [wrap_i64]; try simp [av, hil, hil', hil2, hil3, ha, g1, s1, hm, A.cells, wrap_i64])))
    | (refine APg_split (fun h => ?_) (fun h => ?_) <;> (simp [h, av, hil, hil', hil2, hil3, ha, g1, s1, hm, A.cells, wrap_i64]; try (simp (disch := omega) only [wrap_i64]; try simp [av, hil, hil', hil2, hil3, ha, g1, s1, hm, A.cells, wrap_i64])))
    | (refine AS_callG (f := f) rfl rfl ((hstep y a (e ++ [.var a.cells]) hy hal).imp (by simp [A.cells]) (by simp [A.cells])) rfl (fun v h' hq => ?_); obtain ⟨rfl, rfl⟩ := hq; simp [av, g1, s1, hm, A.cells])
    | (apply hK; clear hK K)
    | (refine AWh (by assumption) ?_))
          · have hmv : (step y a).2 = false := by assumption
            refine ⟨i + 1, (step y a).1, ⟨by omega, hI y a hy hal, ?_⟩, by omega, ?_⟩
            · rw [← hrd, round, if_neg (by simp [hmv])]
            · exact Weak.tail rfl (by simp [hCe, hm]) (hHe _) (hee _)
          · have hmv : (step y a).2 = true := by assumption
            rw [round, if_pos hmv] at hrd
            have hy1 := hI y a hy hal
            generalize (step y a).1 = y1 at *
            have hee1 : ∀ z, ∀ q ∈ e ++ [B.var [V.int .i64 a.i, .int .i64 a.j, .int .i64 a.most]], q.lt (H z ++ (e ++ [B.var [V.int .i64 a.i, .int .i64 a.j, .int .i64 a.most]])).length := fun z q hq => by
              rcases List.mem_append.1 hq with h | h
              · exact B.lt_mono (by simp [hm]) (he q h)
              · simp at h; subst h; simp
            have hHe1 : ∀ z, ∀ q ∈ H z, q.lt (H z ++ (e ++ [B.var [V.int .i64 a.i, .int .i64 a.j, .int .i64 a.most]])).length := fun z q hq => B.lt_mono (by simp [hm]) (hH z q hq)
            refine AW_loop (fun s : Nat × σ => (⟨41, [(31, .int .i64 s.1), (30, .int .i64 (l.length - (i + 1) : Nat)), (29, .vec ((l.map A.cells).drop (i + 1)) (l.length - (i + 1))), (13, .int .i64 k), (12, .int .i64 (n + 1 : Nat)), (0, .int .i64 n), (1, av l), (2, .fn (.func f) [] C)], H s.2 ++ (e ++ [.var [.int .i64 a.i, .int .i64 a.j, .int .i64 a.most]])⟩ : St)) (fun s => s.1 ≤ l.length - (i + 1) ∧ I s.2 ∧ runAll step s.2 (l.drop (i + 1 + s.1)) = runAll step y1 (l.drop (i + 1))) (fun s => l.length - (i + 1) - s.1) (x0 := (0, y1)) ?_ ?_ ?_ ?_
            · simp [hy1]
            · exact Weak.tail (x := []) (by simp) (by simp [av, hCe, hm]; exact V.lts_mono (by omega) hC) (hHe1 _) (hee1 _)
            · simp [hm]
            · rintro ⟨j, z⟩ ⟨hj, hz, hrj⟩
              simp only at hj hz hrj
              by_cases hjl : j < l.length - (i + 1)
              · have hjl2 : i + 1 + j < l.length := by omega
                obtain ⟨b, hb⟩ : ∃ b, l[i + 1 + j] = b := ⟨_, rfl⟩
                have hbl : b ∈ l := hb ▸ List.getElem_mem hjl2
                rw [List.drop_eq_getElem_cons hjl2, hb] at hrj
                have hjl' : (j : Int) < ((l.length - (i + 1) : Nat) : Int) := by omega
                repeat' (first
    | refine AW_seq_k fun K hK => ?_
    | refine AW_block ?_
    | refine AW_skip ?_
    | refine AW_exit ?_
    | refine AW_ret ?_
    | refine AW_scope ?_
    | refine AW_label ?_
    | refine SScope_normal ?_
    | refine SScope_ret ?_
    | refine SScope_exit ?_
    | refine SThen_normal ?_
    | refine SThen_ret ?_
    | refine SThen_exit ?_
    | refine SBlock_normal ?_
    | refine SBlock_ret ?_
    | refine SBlock_exit ?_
    | refine SBlock_exit_ne (by decide) ?_
    | (refine AW_region_AO ?_; simp [av, hjl, hjl', hjl2, hb, g2, s2, hm, A.cells, wrap_i64]; try (simp (disch := omega) only [wrap_i64]; try simp [av, hjl, hjl', hjl2, hb, g2, s2, hm, A.cells, wrap_i64]))
    | (refine AOg_split_notdec (fun h => ?_) (fun h => ?_) <;> (simp [h, av, hjl, hjl', hjl2, hb, g2, s2, hm, A.cells, wrap_i64]; try (simp (disch := omega) only [wrap_i64]; try simp [av, hjl, hjl', hjl2, hb, g2, s2, hm, A.cells, wrap_i64])))
    | (refine AOg_split_dec (fun h => ?_) (fun h => ?_) <;> (simp [h, av, hjl, hjl', hjl2, hb, g2, s2, hm, A.cells, wrap_i64]; try (simp (disch := omega) only [wrap_i64]; try simp [av, hjl, hjl', hjl2, hb, g2, s2, hm, A.cells, wrap_i64])))
    | (refine AOg_split_not (fun h => ?_) (fun h => ?_) <;> (simp [h, av, hjl, hjl', hjl2, hb, g2, s2, hm, A.cells, wrap_i64]; try (simp (disch := omega) only [wrap_i64]; try simp [av, hjl, hjl', hjl2, hb, g2, s2, hm, A.cells, wrap_i64])))
    | (refine AOg_split (fun h => ?_) (fun h => ?_) <;> (simp [h, av, hjl, hjl', hjl2, hb, g2, s2, hm, A.cells, wrap_i64]; try (simp (disch := omega) only [wrap_i64]; try simp [av, hjl, hjl', hjl2, hb, g2, s2, hm, A.cells, wrap_i64])))
    | refine AW_cond_t rfl ?_
    | refine AW_cond_f rfl ?_
    | refine AW_cond_notdec rfl (fun h => ?_) (fun h => ?_)
    | refine AW_cond_dec rfl (fun h => ?_) (fun h => ?_)
    | refine AW_cond_not rfl (fun h => ?_) (fun h => ?_)
    | refine AW_cond rfl (fun h => ?_) (fun h => ?_)
    | (refine APg_split_notdec (fun h => ?_) (fun h => ?_) <;> (simp [h, av, hjl, hjl', hjl2, hb, g2, s2, hm, A.cells, wrap_i64]; try (simp (disch := omega) only [wrap_i64]; try simp [av, hjl, hjl', hjl2, hb, g2, s2, hm, A.cells, wrap_i64])))
    | (refine APg_split_dec (fun h => ?_) (fun h => ?_) <;> (simp [h, av, hjl, hjl', hjl2, hb, g2, s2, hm, A.cells, wrap_i64]; try (simp (disch := omega) only [wrap_i64]; try simp [av, hjl, hjl', hjl2, hb, g2, s2, hm, A.cells, wrap_i64])))
    | (refine APg_split_not (fun h => ?_) (fun h => ?_) <;> (simp [h, av, hjl, hjl', hjl2, hb, g2, s2, hm, A.cells, wrap_i64]; try (simp (disch := omega) only [wrap_i64]; try simp [av, hjl, hjl', hjl2, hb, g2, s2, hm, A.cells, wrap_i64])))
    | (refine APg_split (fun h => ?_) (fun h => ?_) <;> (simp [h, av, hjl, hjl', hjl2, hb, g2, s2, hm, A.cells, wrap_i64]; try (simp (disch := omega) only [wrap_i64]; try simp [av, hjl, hjl', hjl2, hb, g2, s2, hm, A.cells, wrap_i64])))
    | (refine AS_callG (f := f) rfl rfl ((hstep z b (e ++ [.var a.cells, .var b.cells]) hz hbl).imp (by simp [A.cells]) (by simp [A.cells])) rfl (fun v h' hq => ?_); obtain ⟨rfl, rfl⟩ := hq; simp [av, g2, s2, hm, A.cells])
    | (apply hK; clear hK K)
    | (refine AWh (by assumption) ?_))
                refine ⟨j + 1, (step z b).1, ⟨by omega, hI z b hz hbl, ?_⟩, by omega, ?_⟩
                · rw [← hrj]; rfl
                · refine Weak.tail (a := H (step z b).1) (e := e ++ [.var [.int .i64 a.i, .int .i64 a.j, .int .i64 a.most]]) (x := [.var [.int .i64 b.i, .int .i64 b.j, .int .i64 b.most]]) ?_ ?_ (hHe1 _) (hee1 _)
                  · simp
                  · simp [hm]; exact V.lts_mono (by omega) hC
              · have hjl' : ¬ (j : Int) < ((l.length - (i + 1) : Nat) : Int) := by omega
                have kw : IntKind.i64.wrap ((k : Int) + 1) = k + 1 := wrap_i64 (by omega) (by omega)
                repeat' (first
    | refine AW_seq_k fun K hK => ?_
    | refine AW_block ?_
    | refine AW_skip ?_
    | refine AW_exit ?_
    | refine AW_ret ?_
    | refine AW_scope ?_
    | refine AW_label ?_
    | refine SScope_normal ?_
    | refine SScope_ret ?_
    | refine SScope_exit ?_
    | refine SThen_normal ?_
    | refine SThen_ret ?_
    | refine SThen_exit ?_
    | refine SBlock_normal ?_
    | refine SBlock_ret ?_
    | refine SBlock_exit ?_
    | refine SBlock_exit_ne (by decide) ?_
    | (refine AW_region_AO ?_; simp [av, hjl, hjl', kw])
    | (refine AOg_split_notdec (fun h => ?_) (fun h => ?_) <;> (simp [h, av, hjl, hjl', kw]))
    | (refine AOg_split_dec (fun h => ?_) (fun h => ?_) <;> (simp [h, av, hjl, hjl', kw]))
    | (refine AOg_split_not (fun h => ?_) (fun h => ?_) <;> (simp [h, av, hjl, hjl', kw]))
    | (refine AOg_split (fun h => ?_) (fun h => ?_) <;> (simp [h, av, hjl, hjl', kw]))
    | refine AW_cond_t rfl ?_
    | refine AW_cond_f rfl ?_
    | refine AW_cond_notdec rfl (fun h => ?_) (fun h => ?_)
    | refine AW_cond_dec rfl (fun h => ?_) (fun h => ?_)
    | refine AW_cond_not rfl (fun h => ?_) (fun h => ?_)
    | refine AW_cond rfl (fun h => ?_) (fun h => ?_)
    | (refine APg_split_notdec (fun h => ?_) (fun h => ?_) <;> (simp [h, av, hjl, hjl', kw]))
    | (refine APg_split_dec (fun h => ?_) (fun h => ?_) <;> (simp [h, av, hjl, hjl', kw]))
    | (refine APg_split_not (fun h => ?_) (fun h => ?_) <;> (simp [h, av, hjl, hjl', kw]))
    | (refine APg_split (fun h => ?_) (fun h => ?_) <;> (simp [h, av, hjl, hjl', kw]))
    | (apply hK; clear hK K)
    | (refine AWh (by assumption) ?_))
                have hdrop : l.drop (i + 1 + j) = [] := List.drop_eq_nil_of_le (by omega)
                rw [hdrop] at hrj
                have hkn : n + 1 - k = (n - k) + 1 := by omega
                rw [hkn, rounds, ← hrd] at hr
                simp only [if_true] at hr
                rw [← hrj] at hr
                refine ⟨k + 1, z, ⟨by omega, hz, ?_⟩, by omega, ?_⟩
                · rw [← hr]
                  have : n + 1 - (k + 1) = n - k := by omega
                  rw [this]; rfl
                · exact Weak.tail rfl (by simp [hCe, hm]) (hHe _) (hee _)
        · have hil' : ¬ (i : Int) < l.length := by omega
          repeat' (first
    | refine AW_seq_k fun K hK => ?_
    | refine AW_block ?_
    | refine AW_skip ?_
    | refine AW_exit ?_
    | refine AW_ret ?_
    | refine AW_scope ?_
    | refine AW_label ?_
    | refine SScope_normal ?_
    | refine SScope_ret ?_
    | refine SScope_exit ?_
    | refine SThen_normal ?_
    | refine SThen_ret ?_
    | refine SThen_exit ?_
    | refine SBlock_normal ?_
    | refine SBlock_ret ?_
    | refine SBlock_exit ?_
    | refine SBlock_exit_ne (by decide) ?_
    | (refine AW_region_AO ?_; simp [av, hil, hil'])
    | (refine AOg_split_notdec (fun h => ?_) (fun h => ?_) <;> (simp [h, av, hil, hil']))
    | (refine AOg_split_dec (fun h => ?_) (fun h => ?_) <;> (simp [h, av, hil, hil']))
    | (refine AOg_split_not (fun h => ?_) (fun h => ?_) <;> (simp [h, av, hil, hil']))
    | (refine AOg_split (fun h => ?_) (fun h => ?_) <;> (simp [h, av, hil, hil']))
    | refine AW_cond_t rfl ?_
    | refine AW_cond_f rfl ?_
    | refine AW_cond_notdec rfl (fun h => ?_) (fun h => ?_)
    | refine AW_cond_dec rfl (fun h => ?_) (fun h => ?_)
    | refine AW_cond_not rfl (fun h => ?_) (fun h => ?_)
    | refine AW_cond rfl (fun h => ?_) (fun h => ?_)
    | (refine APg_split_notdec (fun h => ?_) (fun h => ?_) <;> (simp [h, av, hil, hil']))
    | (refine APg_split_dec (fun h => ?_) (fun h => ?_) <;> (simp [h, av, hil, hil']))
    | (refine APg_split_not (fun h => ?_) (fun h => ?_) <;> (simp [h, av, hil, hil']))
    | (refine APg_split (fun h => ?_) (fun h => ?_) <;> (simp [h, av, hil, hil']))
    | (apply hK; clear hK K)
    | (refine AWh (by assumption) ?_))
          have hdrop : l.drop i = [] := List.drop_eq_nil_of_le (by omega)
          rw [hdrop] at hrd
          have hkn : n + 1 - k = (n - k) + 1 := by omega
          rw [hkn, rounds, ← hrd] at hr
          rw [show round step y [] = (y, false) from rfl] at hr
          simp only [Bool.false_eq_true, if_false] at hr
          rw [← hr]
          exact retg1 ⟨rfl, rfl⟩ rfl (by simpa using Leaves.tail (a := H x0) (a' := H y) (e := e) (x := []) (by simp [hm]) (fun z hz => by rw [hm]; exact hH y z hz))
    · have hlt' : ¬ (k : Int) < n + 1 := by omega
      repeat' (first
    | refine AW_seq_k fun K hK => ?_
    | refine AW_block ?_
    | refine AW_skip ?_
    | refine AW_exit ?_
    | refine AW_ret ?_
    | refine AW_scope ?_
    | refine AW_label ?_
    | refine SScope_normal ?_
    | refine SScope_ret ?_
    | refine SScope_exit ?_
    | refine SThen_normal ?_
    | refine SThen_ret ?_
    | refine SThen_exit ?_
    | refine SBlock_normal ?_
    | refine SBlock_ret ?_
    | refine SBlock_exit ?_
    | refine SBlock_exit_ne (by decide) ?_
    | (refine AW_region_AO ?_; simp [av, hlt, hlt'])
    | (refine AOg_split_notdec (fun h => ?_) (fun h => ?_) <;> (simp [h, av, hlt, hlt']))
    | (refine AOg_split_dec (fun h => ?_) (fun h => ?_) <;> (simp [h, av, hlt, hlt']))
    | (refine AOg_split_not (fun h => ?_) (fun h => ?_) <;> (simp [h, av, hlt, hlt']))
    | (refine AOg_split (fun h => ?_) (fun h => ?_) <;> (simp [h, av, hlt, hlt']))
    | refine AW_cond_t rfl ?_
    | refine AW_cond_f rfl ?_
    | refine AW_cond_notdec rfl (fun h => ?_) (fun h => ?_)
    | refine AW_cond_dec rfl (fun h => ?_) (fun h => ?_)
    | refine AW_cond_not rfl (fun h => ?_) (fun h => ?_)
    | refine AW_cond rfl (fun h => ?_) (fun h => ?_)
    | (refine APg_split_notdec (fun h => ?_) (fun h => ?_) <;> (simp [h, av, hlt, hlt']))
    | (refine APg_split_dec (fun h => ?_) (fun h => ?_) <;> (simp [h, av, hlt, hlt']))
    | (refine APg_split_not (fun h => ?_) (fun h => ?_) <;> (simp [h, av, hlt, hlt']))
    | (refine APg_split (fun h => ?_) (fun h => ?_) <;> (simp [h, av, hlt, hlt']))
    | (apply hK; clear hK K)
    | (refine AWh (by assumption) ?_))
      have hkn : n + 1 - k = 0 := by omega
      rw [hkn] at hr
      rw [show rounds step l 0 x = (x, false) from rfl] at hr
      rw [← hr]
      exact retg1 ⟨rfl, rfl⟩ rfl (by simpa using Leaves.tail (a := H x0) (a' := H x) (e := e) (x := []) (by simp [hm]) (fun z hz => by rw [hm]; exact hH x z hz))
end Go.Proofs.Ytgmlimipejcpgaa
