/-
  YtgmlimipejcpgaaT19: a step of the proof of a law of the program: what this text proves holds under the hypotheses that its theorems name, and no others.
-/
import Derived.Test.YtgmlimipejcpgaaT14
import Derived.Test.YtgmlimipejcpgaaL7
import Derived.Test.YtgmlimipejcpgaaT18
import Derived.Test.YtgmlimipejcpgaaAmU
import Derived.Test.YtgmlimipejcpgaaT17
import Derived.Test.YtgmlimipejcpgaaL5
set_option linter.unusedVariables false
set_option linter.unusedSimpArgs false
namespace Go.Proofs.Ytgmlimipejcpgaa
open Go Go.AM Fx
theorem wrongE_tail {N : Nat} {d : D} {ls : List D} (h : wrongE N (d :: ls) = 0) : wrongE N ls = 0 := by
  unfold wrongE at h ⊢
  split at h
  · cases h
  · rename_i h1
    rw [if_neg h1]
    split at h
    · rename_i h2; simp only [List.all_cons, Bool.and_eq_true] at h2; rw [if_pos h2.2]
    · cases h
theorem arcsL_tail {N : Int} {d : D} {ls : List D} {x : A} (h : x ∈ arcsL N ls) : x ∈ arcsL N (d :: ls) := by
  unfold arcsL at h ⊢
  rw [List.filterMap_cons]
  split
  · exact h
  · exact List.mem_cons_of_mem _ h
set_option maxRecDepth 8000 in
set_option maxHeartbeats 4000000 in
theorem c_TimesLeast (n : Int) (l : List D) (e : Int) (t : List Int) (grid : Int) (hn : I64 n) (he : I64 e) (hl : l.length ≤ 1099511627776) (ht : t.length ≤ 1099511627776) (hg : I64 grid) :
    PC 4 [sysV n l e, iv t, .int .i64 grid] (.bool true) := by
  have hleast := c_least n l hn hl
  refine PCall_body Try.func4 rfl (by decide) Try.ntmps4 (by simp) Try.results4 ?_
  by_cases hok : wrongE n l = 0
  · obtain ⟨h1, h2, h3⟩ := wrongE_ok hok
    obtain ⟨N, rfl⟩ := Int.eq_ofNat_of_zero_le (show 0 ≤ n by omega)
    have hN0 : 0 < N := by omega
    have hN : N ≤ 4100 := by omega
    have hkeeps := c_keeps t grid l (by unfold big; omega) (by unfold big; omega) hg
    by_cases hlo : leastOk N l = true
    · obtain ⟨hsol, hpos, hz0⟩ := least_is hok hlo
      obtain ⟨i1, i2⟩ := least_inv hok hN
      have hnv := never_in hN
      have hc : PC 9 [.int .i64 N, dv l] (.tup [iv (leastSt N l).1, .int .i64 N, .int .i64 0]) := by have := hleast; simpa [leastV, hok, hlo] using this
      have hgr := c_gridded N (leastSt N l).1 l e hok i1 (fun x hx => by have := i2 x hx; omega) (by unfold big; omega)
      rw [(gridded_sol hok).2 hsol] at hgr
      have hle := fun {s : Nat → Int} (hs : Sol (arcsL N l) s) (hp : Pos s) => least_le hok hs hp
      have hval : ∀ (u : List Int) (i : Nat) (h : i < u.length), val u i = u[i] := fun u i h => by simp [val, h]
      have hgv : (∃ f : Int, f ≠ 0 ∧ greatV N l e = .tup [.nils, .int .i64 f]) ∨ ∃ b : List Int, greatV N l e = .tup [iv b, .int .i64 0] ∧ b.length = N ∧ ∀ i, i < N → val (leastSt N l).1 i ≤ val b i ∧ val b i ≤ e := by
        by_cases he1 : e < 0 ∨ 1125899906842624 < e
        · exact .inl ⟨2, by omega, by simp [greatV, hok, he1]⟩
        · by_cases hgo : greatOk N l e = true
          · obtain ⟨p1, p2, p3, p4⟩ := great_is hok (by omega) hgo
            exact .inr ⟨(greatSt N l e).1, by simp [greatV, hok, he1, hgo], p1, fun i hi => ⟨hle p2 p3 i hi, p4 i⟩⟩
          · exact .inl ⟨4, by omega, by simp [greatV, hok, he1, hgo]⟩
      generalize (leastSt N l).1 = a at *
      have ha0 : 0 < a.length := by omega
      have haz : a[0] = 0 := by have := hz0; unfold val at this; rw [List.getD_eq_getElem?_getD, List.getElem?_eq_getElem ha0] at this; simpa using this
      have hgr' : PC 10 [.vec (a.map fun n => [V.int .i64 n]) N, .agg [.int .i64 N, dv l, .int .i64 e], ] (.bool true) := by simpa [iv, sysV, i1] using hgr
      have hN1 : ¬ (N : Int) < 1 := by omega
      -- do the points keep the system?
      obtain ⟨kb, hkb, hkb'⟩ : ∃ kb : Bool, (kb = true ↔ (t.length = N ∧ val t 0 = 0 ∧ keepsB t grid l = true)) ∧ True := by
        by_cases h : t.length = N ∧ val t 0 = 0 ∧ keepsB t grid l = true
        · exact ⟨true, by simp [h], trivial⟩
        · exact ⟨false, by simpa using h, trivial⟩
      repeat' (first
    | refine AW_mid1 (id := 4) ⟨202, [(3, .ptr 0 0), (7, iv a), (8, .int .i64 N), (9, .int .i64 0), (1, iv t), (2, .int .i64 grid), (10, .bool kb)], [.var [.int .i64 N, dv l, .int .i64 e]]⟩ (Hold.mk ?_) (Hold.mk ?_)
    | refine AW_seq_k fun K hK => ?_
    | refine AW_block ?_
    | refine AW_skip ?_
    | refine AW_exit ?_
    | refine AW_ret ?_
    | refine AW_scope ?_
    | refine AW_label ?_
    | refine SScope_normal ?_
    | refine SScope_ret ?_
    | refine SScope_exit ?_
    | refine SThen_normal ?_
    | refine SThen_ret ?_
    | refine SThen_exit ?_
    | refine SBlock_normal ?_
    | refine SBlock_ret ?_
    | refine SBlock_exit ?_
    | refine SBlock_exit_ne (by decide) ?_
    | (refine AW_region_AO ?_; simp [sysV, iv, i1, ha0, haz, hN0, hN1])
    | (refine AOg_split_notdec (fun h => ?_) (fun h => ?_) <;> (simp [h, sysV, iv, i1, ha0, haz, hN0, hN1]))
    | (refine AOg_split_dec (fun h => ?_) (fun h => ?_) <;> (simp [h, sysV, iv, i1, ha0, haz, hN0, hN1]))
    | (refine AOg_split_not (fun h => ?_) (fun h => ?_) <;> (simp [h, sysV, iv, i1, ha0, haz, hN0, hN1]))
    | (refine AOg_split (fun h => ?_) (fun h => ?_) <;> (simp [h, sysV, iv, i1, ha0, haz, hN0, hN1]))
    | refine AW_cond_t rfl ?_
    | refine AW_cond_f rfl ?_
    | refine AW_cond_notdec rfl (fun h => ?_) (fun h => ?_)
    | refine AW_cond_dec rfl (fun h => ?_) (fun h => ?_)
    | refine AW_cond_not rfl (fun h => ?_) (fun h => ?_)
    | refine AW_cond rfl (fun h => ?_) (fun h => ?_)
    | (refine APg_split_notdec (fun h => ?_) (fun h => ?_) <;> (simp [h, sysV, iv, i1, ha0, haz, hN0, hN1]))
    | (refine APg_split_dec (fun h => ?_) (fun h => ?_) <;> (simp [h, sysV, iv, i1, ha0, haz, hN0, hN1]))
    | (refine APg_split_not (fun h => ?_) (fun h => ?_) <;> (simp [h, sysV, iv, i1, ha0, haz, hN0, hN1]))
    | (refine APg_split (fun h => ?_) (fun h => ?_) <;> (simp [h, sysV, iv, i1, ha0, haz, hN0, hN1]))
    | (refine AS_call1 (f := 9) rfl rfl (hc) rfl rfl rfl ?_; simp [sysV, iv, i1, ha0, haz, hN0, hN1])
    | refine SMeet_ret ?_
    | refine SMeet_exit ?_
    | (apply hK; clear hK K)
    | (refine AWh (by assumption) ?_))
      · refine Hold.out ?_
        cases t with
        | nil =>
          have hkf : kb = false := by
            cases kb
            · rfl
            · have := (hkb.1 rfl).1; simp at this; omega
          have hN2 : ¬ (0 : Int) = N := by omega
          repeat' (first
    | refine AW_seq_k fun K hK => ?_
    | refine AW_block ?_
    | refine AW_skip ?_
    | refine AW_exit ?_
    | refine AW_ret ?_
    | refine AW_scope ?_
    | refine AW_label ?_
    | refine SScope_normal ?_
    | refine SScope_ret ?_
    | refine SScope_exit ?_
    | refine SThen_normal ?_
    | refine SThen_ret ?_
    | refine SThen_exit ?_
    | refine SBlock_normal ?_
    | refine SBlock_ret ?_
    | refine SBlock_exit ?_
    | refine SBlock_exit_ne (by decide) ?_
    | (refine AW_region_AO ?_; simp [sysV, iv, hN2])
    | (refine AOg_split_notdec (fun h => ?_) (fun h => ?_) <;> (simp [h, sysV, iv, hN2]))
    | (refine AOg_split_dec (fun h => ?_) (fun h => ?_) <;> (simp [h, sysV, iv, hN2]))
    | (refine AOg_split_not (fun h => ?_) (fun h => ?_) <;> (simp [h, sysV, iv, hN2]))
    | (refine AOg_split (fun h => ?_) (fun h => ?_) <;> (simp [h, sysV, iv, hN2]))
    | refine AW_cond_t rfl ?_
    | refine AW_cond_f rfl ?_
    | refine AW_cond_notdec rfl (fun h => ?_) (fun h => ?_)
    | refine AW_cond_dec rfl (fun h => ?_) (fun h => ?_)
    | refine AW_cond_not rfl (fun h => ?_) (fun h => ?_)
    | refine AW_cond rfl (fun h => ?_) (fun h => ?_)
    | (refine APg_split_notdec (fun h => ?_) (fun h => ?_) <;> (simp [h, sysV, iv, hN2]))
    | (refine APg_split_dec (fun h => ?_) (fun h => ?_) <;> (simp [h, sysV, iv, hN2]))
    | (refine APg_split_not (fun h => ?_) (fun h => ?_) <;> (simp [h, sysV, iv, hN2]))
    | (refine APg_split (fun h => ?_) (fun h => ?_) <;> (simp [h, sysV, iv, hN2]))
    | (apply hK; clear hK K)
    | (refine AWh (by assumption) ?_))
          refine SMeet_normal ?_ rfl
          apply Weak.mk' <;> simp [i1, hkf, dv]
        | cons t0 ts =>
          by_cases hlen : ts.length + 1 = N
          · have hlen' : (ts.length : Int) + 1 = N := by omega
            by_cases hz : t0 = 0
            · subst hz
              have hkk : keepsB (0 :: ts) grid l = kb := by
                cases kb
                · cases hk : keepsB (0 :: ts) grid l
                  · rfl
                  · exfalso
                    have := hkb.2 ⟨by simpa using hlen, by simp [val], hk⟩
                    cases this
                · exact (hkb.1 rfl).2.2
              rw [hkk] at hkeeps
              repeat' (first
    | refine AW_seq_k fun K hK => ?_
    | refine AW_block ?_
    | refine AW_skip ?_
    | refine AW_exit ?_
    | refine AW_ret ?_
    | refine AW_scope ?_
    | refine AW_label ?_
    | refine SScope_normal ?_
    | refine SScope_ret ?_
    | refine SScope_exit ?_
    | refine SThen_normal ?_
    | refine SThen_ret ?_
    | refine SThen_exit ?_
    | refine SBlock_normal ?_
    | refine SBlock_ret ?_
    | refine SBlock_exit ?_
    | refine SBlock_exit_ne (by decide) ?_
    | (refine AW_region_AO ?_; simp [sysV, iv, hlen', hN0])
    | (refine AOg_split_notdec (fun h => ?_) (fun h => ?_) <;> (simp [h, sysV, iv, hlen', hN0]))
    | (refine AOg_split_dec (fun h => ?_) (fun h => ?_) <;> (simp [h, sysV, iv, hlen', hN0]))
    | (refine AOg_split_not (fun h => ?_) (fun h => ?_) <;> (simp [h, sysV, iv, hlen', hN0]))
    | (refine AOg_split (fun h => ?_) (fun h => ?_) <;> (simp [h, sysV, iv, hlen', hN0]))
    | refine AW_cond_t rfl ?_
    | refine AW_cond_f rfl ?_
    | refine AW_cond_notdec rfl (fun h => ?_) (fun h => ?_)
    | refine AW_cond_dec rfl (fun h => ?_) (fun h => ?_)
    | refine AW_cond_not rfl (fun h => ?_) (fun h => ?_)
    | refine AW_cond rfl (fun h => ?_) (fun h => ?_)
    | (refine APg_split_notdec (fun h => ?_) (fun h => ?_) <;> (simp [h, sysV, iv, hlen', hN0]))
    | (refine APg_split_dec (fun h => ?_) (fun h => ?_) <;> (simp [h, sysV, iv, hlen', hN0]))
    | (refine APg_split_not (fun h => ?_) (fun h => ?_) <;> (simp [h, sysV, iv, hlen', hN0]))
    | (refine APg_split (fun h => ?_) (fun h => ?_) <;> (simp [h, sysV, iv, hlen', hN0]))
    | (refine AS_call1 (f := 6) rfl rfl (hkeeps) rfl rfl rfl ?_; simp [sysV, iv, hlen', hN0])
    | (apply hK; clear hK K)
    | (refine AWh (by assumption) ?_))
              all_goals (refine SMeet_normal ?_ rfl; apply Weak.mk' <;> simp [i1, dv])
            · have hkf : kb = false := by
                cases kb
                · rfl
                · have := (hkb.1 rfl).2.1; simp [val] at this; exact absurd this hz
              repeat' (first
    | refine AW_seq_k fun K hK => ?_
    | refine AW_block ?_
    | refine AW_skip ?_
    | refine AW_exit ?_
    | refine AW_ret ?_
    | refine AW_scope ?_
    | refine AW_label ?_
    | refine SScope_normal ?_
    | refine SScope_ret ?_
    | refine SScope_exit ?_
    | refine SThen_normal ?_
    | refine SThen_ret ?_
    | refine SThen_exit ?_
    | refine SBlock_normal ?_
    | refine SBlock_ret ?_
    | refine SBlock_exit ?_
    | refine SBlock_exit_ne (by decide) ?_
    | (refine AW_region_AO ?_; simp [sysV, iv, hlen', hN0, hz])
    | (refine AOg_split_notdec (fun h => ?_) (fun h => ?_) <;> (simp [h, sysV, iv, hlen', hN0, hz]))
    | (refine AOg_split_dec (fun h => ?_) (fun h => ?_) <;> (simp [h, sysV, iv, hlen', hN0, hz]))
    | (refine AOg_split_not (fun h => ?_) (fun h => ?_) <;> (simp [h, sysV, iv, hlen', hN0, hz]))
    | (refine AOg_split (fun h => ?_) (fun h => ?_) <;> (simp [h, sysV, iv, hlen', hN0, hz]))
    | refine AW_cond_t rfl ?_
    | refine AW_cond_f rfl ?_
    | refine AW_cond_notdec rfl (fun h => ?_) (fun h => ?_)
    | refine AW_cond_dec rfl (fun h => ?_) (fun h => ?_)
    | refine AW_cond_not rfl (fun h => ?_) (fun h => ?_)
    | refine AW_cond rfl (fun h => ?_) (fun h => ?_)
    | (refine APg_split_notdec (fun h => ?_) (fun h => ?_) <;> (simp [h, sysV, iv, hlen', hN0, hz]))
    | (refine APg_split_dec (fun h => ?_) (fun h => ?_) <;> (simp [h, sysV, iv, hlen', hN0, hz]))
    | (refine APg_split_not (fun h => ?_) (fun h => ?_) <;> (simp [h, sysV, iv, hlen', hN0, hz]))
    | (refine APg_split (fun h => ?_) (fun h => ?_) <;> (simp [h, sysV, iv, hlen', hN0, hz]))
    | (apply hK; clear hK K)
    | (refine AWh (by assumption) ?_))
              all_goals (refine SMeet_normal ?_ rfl; apply Weak.mk' <;> simp [i1, hkf, dv])
          · have hlen' : ¬ (ts.length : Int) + 1 = N := by omega
            have hkf : kb = false := by
              cases kb
              · rfl
              · have := (hkb.1 rfl).1; simp at this; exact absurd this hlen
            repeat' (first
    | refine AW_seq_k fun K hK => ?_
    | refine AW_block ?_
    | refine AW_skip ?_
    | refine AW_exit ?_
    | refine AW_ret ?_
    | refine AW_scope ?_
    | refine AW_label ?_
    | refine SScope_normal ?_
    | refine SScope_ret ?_
    | refine SScope_exit ?_
    | refine SThen_normal ?_
    | refine SThen_ret ?_
    | refine SThen_exit ?_
    | refine SBlock_normal ?_
    | refine SBlock_ret ?_
    | refine SBlock_exit ?_
    | refine SBlock_exit_ne (by decide) ?_
    | (refine AW_region_AO ?_; simp [sysV, iv, hlen'])
    | (refine AOg_split_notdec (fun h => ?_) (fun h => ?_) <;> (simp [h, sysV, iv, hlen']))
    | (refine AOg_split_dec (fun h => ?_) (fun h => ?_) <;> (simp [h, sysV, iv, hlen']))
    | (refine AOg_split_not (fun h => ?_) (fun h => ?_) <;> (simp [h, sysV, iv, hlen']))
    | (refine AOg_split (fun h => ?_) (fun h => ?_) <;> (simp [h, sysV, iv, hlen']))
    | refine AW_cond_t rfl ?_
    | refine AW_cond_f rfl ?_
    | refine AW_cond_notdec rfl (fun h => ?_) (fun h => ?_)
    | refine AW_cond_dec rfl (fun h => ?_) (fun h => ?_)
    | refine AW_cond_not rfl (fun h => ?_) (fun h => ?_)
    | refine AW_cond rfl (fun h => ?_) (fun h => ?_)
    | (refine APg_split_notdec (fun h => ?_) (fun h => ?_) <;> (simp [h, sysV, iv, hlen']))
    | (refine APg_split_dec (fun h => ?_) (fun h => ?_) <;> (simp [h, sysV, iv, hlen']))
    | (refine APg_split_not (fun h => ?_) (fun h => ?_) <;> (simp [h, sysV, iv, hlen']))
    | (refine APg_split (fun h => ?_) (fun h => ?_) <;> (simp [h, sysV, iv, hlen']))
    | (apply hK; clear hK K)
    | (refine AWh (by assumption) ?_))
            all_goals (refine SMeet_normal ?_ rfl; apply Weak.mk' <;> simp [i1, hkf, dv])
      · refine Hold.out ?_
        repeat' (first
    | refine AW_mid (id := 9) ⟨202, [(3, .ptr 0 0), (7, iv a)], [.var [.int .i64 N, dv l, .int .i64 e]]⟩ (Hold.mk ?_) (Hold.mk ?_)
    | refine AW_seq_k fun K hK => ?_
    | refine AW_block ?_
    | refine AW_skip ?_
    | refine AW_exit ?_
    | refine AW_ret ?_
    | refine AW_scope ?_
    | refine AW_label ?_
    | refine SScope_normal ?_
    | refine SScope_ret ?_
    | refine SScope_exit ?_
    | refine SThen_normal ?_
    | refine SThen_ret ?_
    | refine SThen_exit ?_
    | refine SBlock_normal ?_
    | refine SBlock_ret ?_
    | refine SBlock_exit ?_
    | refine SBlock_exit_ne (by decide) ?_
    | (refine AW_region_AO ?_; simp [sysV, iv, i1, ha0, haz, hN0, hN1])
    | (refine AOg_split_notdec (fun h => ?_) (fun h => ?_) <;> (simp [h, sysV, iv, i1, ha0, haz, hN0, hN1]))
    | (refine AOg_split_dec (fun h => ?_) (fun h => ?_) <;> (simp [h, sysV, iv, i1, ha0, haz, hN0, hN1]))
    | (refine AOg_split_not (fun h => ?_) (fun h => ?_) <;> (simp [h, sysV, iv, i1, ha0, haz, hN0, hN1]))
    | (refine AOg_split (fun h => ?_) (fun h => ?_) <;> (simp [h, sysV, iv, i1, ha0, haz, hN0, hN1]))
    | refine AW_cond_t rfl ?_
    | refine AW_cond_f rfl ?_
    | refine AW_cond_notdec rfl (fun h => ?_) (fun h => ?_)
    | refine AW_cond_dec rfl (fun h => ?_) (fun h => ?_)
    | refine AW_cond_not rfl (fun h => ?_) (fun h => ?_)
    | refine AW_cond rfl (fun h => ?_) (fun h => ?_)
    | (refine APg_split_notdec (fun h => ?_) (fun h => ?_) <;> (simp [h, sysV, iv, i1, ha0, haz, hN0, hN1]))
    | (refine APg_split_dec (fun h => ?_) (fun h => ?_) <;> (simp [h, sysV, iv, i1, ha0, haz, hN0, hN1]))
    | (refine APg_split_not (fun h => ?_) (fun h => ?_) <;> (simp [h, sysV, iv, i1, ha0, haz, hN0, hN1]))
    | (refine APg_split (fun h => ?_) (fun h => ?_) <;> (simp [h, sysV, iv, i1, ha0, haz, hN0, hN1]))
    | (refine AS_call1 (f := 10) rfl rfl (hgr') rfl rfl rfl ?_; simp [sysV, iv, i1, ha0, haz, hN0, hN1])
    | refine SMeet_ret ?_
    | refine SMeet_exit ?_
    | (apply hK; clear hK K)
    | (refine AWh (by assumption) ?_))
        · -- the points that keep the system, on the same grid
          refine Hold.out ?_
          by_cases hkb1 : kb = true
          · by_cases hgN : grid = N
            · obtain ⟨q1, q2, q3⟩ := hkb.1 hkb1
              subst hgN
              have htb : ∀ x ∈ t, 0 ≤ x ∧ x ≤ 1152921504606846976 := fun x hx => by
                have := List.all_eq_true.1 (by simp only [keepsB, Bool.and_eq_true] at q3; exact q3.1.1) x hx
                simp only [timeOk, Bool.and_eq_true, decide_eq_true_eq] at this
                omega
              have hgt := c_gridded N t l e hok q1 htb (by unfold big; omega)
              have hgle : griddedB N t l = true → ∀ i, i < N → val a i ≤ val t i := fun h i hi => hle ((gridded_sol hok).1 h) (fun j => by
                unfold val
                rw [List.getD_eq_getElem?_getD]
                rcases Nat.lt_or_ge j t.length with h | h
                · rw [List.getElem?_eq_getElem h]; exact (htb _ (List.getElem_mem h)).1
                · rw [List.getElem?_eq_none h]; exact Int.le_refl 0) i hi
              generalize griddedB N t l = gb at *
              have hgt' : PC 10 [.vec (t.map fun n => [V.int .i64 n]) N, .agg [.int .i64 N, dv l, .int .i64 e]] (.bool gb) := by simpa [iv, sysV, q1] using hgt
              repeat' (first
    | refine AW_seq_k fun K hK => ?_
    | refine AW_block ?_
    | refine AW_skip ?_
    | refine AW_exit ?_
    | refine AW_ret ?_
    | refine AW_scope ?_
    | refine AW_label ?_
    | refine SScope_normal ?_
    | refine SScope_ret ?_
    | refine SScope_exit ?_
    | refine SThen_normal ?_
    | refine SThen_ret ?_
    | refine SThen_exit ?_
    | refine SBlock_normal ?_
    | refine SBlock_ret ?_
    | refine SBlock_exit ?_
    | refine SBlock_exit_ne (by decide) ?_
    | (refine AW_region_AO ?_; simp [sysV, iv, i1, q1, hkb1])
    | (refine AOg_split_notdec (fun h => ?_) (fun h => ?_) <;> (simp [h, sysV, iv, i1, q1, hkb1]))
    | (refine AOg_split_dec (fun h => ?_) (fun h => ?_) <;> (simp [h, sysV, iv, i1, q1, hkb1]))
    | (refine AOg_split_not (fun h => ?_) (fun h => ?_) <;> (simp [h, sysV, iv, i1, q1, hkb1]))
    | (refine AOg_split (fun h => ?_) (fun h => ?_) <;> (simp [h, sysV, iv, i1, q1, hkb1]))
    | refine AW_cond_t rfl ?_
    | refine AW_cond_f rfl ?_
    | refine AW_cond_notdec rfl (fun h => ?_) (fun h => ?_)
    | refine AW_cond_dec rfl (fun h => ?_) (fun h => ?_)
    | refine AW_cond_not rfl (fun h => ?_) (fun h => ?_)
    | refine AW_cond rfl (fun h => ?_) (fun h => ?_)
    | (refine APg_split_notdec (fun h => ?_) (fun h => ?_) <;> (simp [h, sysV, iv, i1, q1, hkb1]))
    | (refine APg_split_dec (fun h => ?_) (fun h => ?_) <;> (simp [h, sysV, iv, i1, q1, hkb1]))
    | (refine APg_split_not (fun h => ?_) (fun h => ?_) <;> (simp [h, sysV, iv, i1, q1, hkb1]))
    | (refine APg_split (fun h => ?_) (fun h => ?_) <;> (simp [h, sysV, iv, i1, q1, hkb1]))
    | (refine AS_call1 (f := 10) rfl rfl (hgt') rfl rfl rfl ?_; simp [sysV, iv, i1, q1, hkb1])
    | refine SMeet_ret ?_
    | refine SMeet_exit ?_
    | (apply hK; clear hK K)
    | (refine AWh (by assumption) ?_))
              refine AW_loopL [1, 3, 7, 11] (fun i : Nat => [(12, .int .i64 i)]) (fun _ => [.var [.int .i64 N, dv l, .int .i64 e]]) (fun i => i ≤ N) (fun i => N - i) 0 (Nat.zero_le _) (by apply Weak.mk' <;> simp [iv, dv]) (fun _ _ => rfl) ?_
              intro i hi
              by_cases hlt : i < N
              · have hia : i < a.length := by omega
                have hit : i < t.length := by omega
                have hgli := fun h => hgle h i hlt
                rw [hval _ _ hia, hval _ _ hit] at hgli
                have hlt' : (i : Int) < N := by omega
                repeat' (first
    | refine AW_seq_k fun K hK => ?_
    | refine AW_block ?_
    | refine AW_skip ?_
    | refine AW_exit ?_
    | refine AW_ret ?_
    | refine AW_scope ?_
    | refine AW_label ?_
    | refine SScope_normal ?_
    | refine SScope_ret ?_
    | refine SScope_exit ?_
    | refine SThen_normal ?_
    | refine SThen_ret ?_
    | refine SThen_exit ?_
    | refine SBlock_normal ?_
    | refine SBlock_ret ?_
    | refine SBlock_exit ?_
    | refine SBlock_exit_ne (by decide) ?_
    | (refine AW_region_AO ?_; simp [sysV, iv, i1, q1, hlt, hlt', hia, hit, wrap_i64]; try (simp (disch := omega) only [wrap_i64]; try simp [sysV, iv, i1, q1, hlt, hlt', hia, hit, wrap_i64]))
    | (refine AOg_split_notdec (fun h => ?_) (fun h => ?_) <;> (simp [h, sysV, iv, i1, q1, hlt, hlt', hia, hit, wrap_i64]; try (simp (disch := omega) only [wrap_i64]; try simp [sysV, iv, i1, q1, hlt, hlt', hia, hit, wrap_i64])))
    | (refine AOg_split_dec (fun h => ?_) (fun h => ?_) <;> (simp [h, sysV, iv, i1, q1, hlt, hlt', hia, hit, wrap_i64]; try (simp (disch := omega) only [wrap_i64]; try simp [sysV, iv, i1, q1, hlt, hlt', hia, hit, wrap_i64])))
    | (refine AOg_split_not (fun h => ?_) (fun h => ?_) <;> (simp [h, sysV, iv, i1, q1, hlt, hlt', hia, hit, wrap_i64]; try (simp (disch := omega) only [wrap_i64]; try simp [sysV, iv, i1, q1, hlt, hlt', hia, hit, wrap_i64])))
    | (refine AOg_split (fun h => ?_) (fun h => ?_) <;> (simp [h, sysV, iv, i1, q1, hlt, hlt', hia, hit, wrap_i64]; try (simp (disch := omega) only [wrap_i64]; try simp [sysV, iv, i1, q1, hlt, hlt', hia, hit, wrap_i64])))
    | refine AW_cond_t rfl ?_
    | refine AW_cond_f rfl ?_
    | refine AW_cond_notdec rfl (fun h => ?_) (fun h => ?_)
    | refine AW_cond_dec rfl (fun h => ?_) (fun h => ?_)
    | refine AW_cond_not rfl (fun h => ?_) (fun h => ?_)
    | refine AW_cond rfl (fun h => ?_) (fun h => ?_)
    | (refine APg_split_notdec (fun h => ?_) (fun h => ?_) <;> (simp [h, sysV, iv, i1, q1, hlt, hlt', hia, hit, wrap_i64]; try (simp (disch := omega) only [wrap_i64]; try simp [sysV, iv, i1, q1, hlt, hlt', hia, hit, wrap_i64])))
    | (refine APg_split_dec (fun h => ?_) (fun h => ?_) <;> (simp [h, sysV, iv, i1, q1, hlt, hlt', hia, hit, wrap_i64]; try (simp (disch := omega) only [wrap_i64]; try simp [sysV, iv, i1, q1, hlt, hlt', hia, hit, wrap_i64])))
    | (refine APg_split_not (fun h => ?_) (fun h => ?_) <;> (simp [h, sysV, iv, i1, q1, hlt, hlt', hia, hit, wrap_i64]; try (simp (disch := omega) only [wrap_i64]; try simp [sysV, iv, i1, q1, hlt, hlt', hia, hit, wrap_i64])))
    | (refine APg_split (fun h => ?_) (fun h => ?_) <;> (simp [h, sysV, iv, i1, q1, hlt, hlt', hia, hit, wrap_i64]; try (simp (disch := omega) only [wrap_i64]; try simp [sysV, iv, i1, q1, hlt, hlt', hia, hit, wrap_i64])))
    | (refine AW_region_APx (id := 14) 12 mixed (by decide) ?_; simp [sysV, iv, i1, q1, hlt, hlt', hia, hit, wrap_i64]; try (simp (disch := omega) only [wrap_i64]; try simp [sysV, iv, i1, q1, hlt, hlt', hia, hit, wrap_i64]))
    | refine SMeet_ret ?_
    | refine SMeet_exit ?_
    | (apply hK; clear hK K)
    | (refine AWh (by assumption) ?_))
                all_goals first
                  | (exfalso; have := hgli (by assumption); omega)
                  | (refine ⟨i + 1, by omega, by omega, ?_⟩; apply Weak.mk' <;> simp [iv, dv] <;> assumption)
                  | trace_state
              · have hlt' : ¬ (i : Int) < N := by omega
                repeat' (first
    | refine AW_seq_k fun K hK => ?_
    | refine AW_block ?_
    | refine AW_skip ?_
    | refine AW_exit ?_
    | refine AW_ret ?_
    | refine AW_scope ?_
    | refine AW_label ?_
    | refine SScope_normal ?_
    | refine SScope_ret ?_
    | refine SScope_exit ?_
    | refine SThen_normal ?_
    | refine SThen_ret ?_
    | refine SThen_exit ?_
    | refine SBlock_normal ?_
    | refine SBlock_ret ?_
    | refine SBlock_exit ?_
    | refine SBlock_exit_ne (by decide) ?_
    | (refine AW_region_AO ?_; simp [sysV, iv, i1, hlt, hlt'])
    | (refine AOg_split_notdec (fun h => ?_) (fun h => ?_) <;> (simp [h, sysV, iv, i1, hlt, hlt']))
    | (refine AOg_split_dec (fun h => ?_) (fun h => ?_) <;> (simp [h, sysV, iv, i1, hlt, hlt']))
    | (refine AOg_split_not (fun h => ?_) (fun h => ?_) <;> (simp [h, sysV, iv, i1, hlt, hlt']))
    | (refine AOg_split (fun h => ?_) (fun h => ?_) <;> (simp [h, sysV, iv, i1, hlt, hlt']))
    | refine AW_cond_t rfl ?_
    | refine AW_cond_f rfl ?_
    | refine AW_cond_notdec rfl (fun h => ?_) (fun h => ?_)
    | refine AW_cond_dec rfl (fun h => ?_) (fun h => ?_)
    | refine AW_cond_not rfl (fun h => ?_) (fun h => ?_)
    | refine AW_cond rfl (fun h => ?_) (fun h => ?_)
    | (refine APg_split_notdec (fun h => ?_) (fun h => ?_) <;> (simp [h, sysV, iv, i1, hlt, hlt']))
    | (refine APg_split_dec (fun h => ?_) (fun h => ?_) <;> (simp [h, sysV, iv, i1, hlt, hlt']))
    | (refine APg_split_not (fun h => ?_) (fun h => ?_) <;> (simp [h, sysV, iv, i1, hlt, hlt']))
    | (refine APg_split (fun h => ?_) (fun h => ?_) <;> (simp [h, sysV, iv, i1, hlt, hlt']))
    | refine SMeet_ret ?_
    | refine SMeet_exit ?_
    | (apply hK; clear hK K)
    | (refine AWh (by assumption) ?_))
                all_goals (refine SMeet_normal ?_ rfl; apply Weak.mk' <;> simp [i1, iv, dv, q1])
            · repeat' (first
    | refine AW_seq_k fun K hK => ?_
    | refine AW_block ?_
    | refine AW_skip ?_
    | refine AW_exit ?_
    | refine AW_ret ?_
    | refine AW_scope ?_
    | refine AW_label ?_
    | refine SScope_normal ?_
    | refine SScope_ret ?_
    | refine SScope_exit ?_
    | refine SThen_normal ?_
    | refine SThen_ret ?_
    | refine SThen_exit ?_
    | refine SBlock_normal ?_
    | refine SBlock_ret ?_
    | refine SBlock_exit ?_
    | refine SBlock_exit_ne (by decide) ?_
    | (refine AW_region_AO ?_; simp [sysV, iv, i1, hgN, hkb1])
    | (refine AOg_split_notdec (fun h => ?_) (fun h => ?_) <;> (simp [h, sysV, iv, i1, hgN, hkb1]))
    | (refine AOg_split_dec (fun h => ?_) (fun h => ?_) <;> (simp [h, sysV, iv, i1, hgN, hkb1]))
    | (refine AOg_split_not (fun h => ?_) (fun h => ?_) <;> (simp [h, sysV, iv, i1, hgN, hkb1]))
    | (refine AOg_split (fun h => ?_) (fun h => ?_) <;> (simp [h, sysV, iv, i1, hgN, hkb1]))
    | refine AW_cond_t rfl ?_
    | refine AW_cond_f rfl ?_
    | refine AW_cond_notdec rfl (fun h => ?_) (fun h => ?_)
    | refine AW_cond_dec rfl (fun h => ?_) (fun h => ?_)
    | refine AW_cond_not rfl (fun h => ?_) (fun h => ?_)
    | refine AW_cond rfl (fun h => ?_) (fun h => ?_)
    | (refine APg_split_notdec (fun h => ?_) (fun h => ?_) <;> (simp [h, sysV, iv, i1, hgN, hkb1]))
    | (refine APg_split_dec (fun h => ?_) (fun h => ?_) <;> (simp [h, sysV, iv, i1, hgN, hkb1]))
    | (refine APg_split_not (fun h => ?_) (fun h => ?_) <;> (simp [h, sysV, iv, i1, hgN, hkb1]))
    | (refine APg_split (fun h => ?_) (fun h => ?_) <;> (simp [h, sysV, iv, i1, hgN, hkb1]))
    | refine SMeet_ret ?_
    | refine SMeet_exit ?_
    | (apply hK; clear hK K)
    | (refine AWh (by assumption) ?_))
              all_goals (refine SMeet_normal ?_ rfl; apply Weak.mk' <;> simp [i1, iv, dv])
          · have hkf : kb = false := by simpa using hkb1
            repeat' (first
    | refine AW_seq_k fun K hK => ?_
    | refine AW_block ?_
    | refine AW_skip ?_
    | refine AW_exit ?_
    | refine AW_ret ?_
    | refine AW_scope ?_
    | refine AW_label ?_
    | refine SScope_normal ?_
    | refine SScope_ret ?_
    | refine SScope_exit ?_
    | refine SThen_normal ?_
    | refine SThen_ret ?_
    | refine SThen_exit ?_
    | refine SBlock_normal ?_
    | refine SBlock_ret ?_
    | refine SBlock_exit ?_
    | refine SBlock_exit_ne (by decide) ?_
    | (refine AW_region_AO ?_; simp [sysV, iv, i1, hkf])
    | (refine AOg_split_notdec (fun h => ?_) (fun h => ?_) <;> (simp [h, sysV, iv, i1, hkf]))
    | (refine AOg_split_dec (fun h => ?_) (fun h => ?_) <;> (simp [h, sysV, iv, i1, hkf]))
    | (refine AOg_split_not (fun h => ?_) (fun h => ?_) <;> (simp [h, sysV, iv, i1, hkf]))
    | (refine AOg_split (fun h => ?_) (fun h => ?_) <;> (simp [h, sysV, iv, i1, hkf]))
    | refine AW_cond_t rfl ?_
    | refine AW_cond_f rfl ?_
    | refine AW_cond_notdec rfl (fun h => ?_) (fun h => ?_)
    | refine AW_cond_dec rfl (fun h => ?_) (fun h => ?_)
    | refine AW_cond_not rfl (fun h => ?_) (fun h => ?_)
    | refine AW_cond rfl (fun h => ?_) (fun h => ?_)
    | (refine APg_split_notdec (fun h => ?_) (fun h => ?_) <;> (simp [h, sysV, iv, i1, hkf]))
    | (refine APg_split_dec (fun h => ?_) (fun h => ?_) <;> (simp [h, sysV, iv, i1, hkf]))
    | (refine APg_split_not (fun h => ?_) (fun h => ?_) <;> (simp [h, sysV, iv, i1, hkf]))
    | (refine APg_split (fun h => ?_) (fun h => ?_) <;> (simp [h, sysV, iv, i1, hkf]))
    | refine SMeet_ret ?_
    | refine SMeet_exit ?_
    | (apply hK; clear hK K)
    | (refine AWh (by assumption) ?_))
            all_goals (refine SMeet_normal ?_ rfl; apply Weak.mk' <;> simp [i1, iv, dv])
        · -- the greatest points, and less differences
          refine Hold.out ?_
          have hgreat := c_greatest N l e (by unfold I64; omega) hl
          rcases hgv with ⟨f, hf, hgv⟩ | ⟨b, hgv, hb1, hb2⟩
          all_goals
            rw [hgv] at hgreat
            repeat' (first
    | refine AW_mid (id := 17) ⟨202, [(3, .ptr 0 0), (7, iv a)], [.var [.int .i64 N, dv l, .int .i64 e]]⟩ (Hold.mk ?_) (Hold.mk ?_)
    | refine AW_seq_k fun K hK => ?_
    | refine AW_block ?_
    | refine AW_skip ?_
    | refine AW_exit ?_
    | refine AW_ret ?_
    | refine AW_scope ?_
    | refine AW_label ?_
    | refine SScope_normal ?_
    | refine SScope_ret ?_
    | refine SScope_exit ?_
    | refine SThen_normal ?_
    | refine SThen_ret ?_
    | refine SThen_exit ?_
    | refine SBlock_normal ?_
    | refine SBlock_ret ?_
    | refine SBlock_exit ?_
    | refine SBlock_exit_ne (by decide) ?_
    | (refine AW_region_AO ?_; simp [sysV, iv, i1])
    | (refine AOg_split_notdec (fun h => ?_) (fun h => ?_) <;> (simp [h, sysV, iv, i1]))
    | (refine AOg_split_dec (fun h => ?_) (fun h => ?_) <;> (simp [h, sysV, iv, i1]))
    | (refine AOg_split_not (fun h => ?_) (fun h => ?_) <;> (simp [h, sysV, iv, i1]))
    | (refine AOg_split (fun h => ?_) (fun h => ?_) <;> (simp [h, sysV, iv, i1]))
    | refine AW_cond_t rfl ?_
    | refine AW_cond_f rfl ?_
    | refine AW_cond_notdec rfl (fun h => ?_) (fun h => ?_)
    | refine AW_cond_dec rfl (fun h => ?_) (fun h => ?_)
    | refine AW_cond_not rfl (fun h => ?_) (fun h => ?_)
    | refine AW_cond rfl (fun h => ?_) (fun h => ?_)
    | (refine APg_split_notdec (fun h => ?_) (fun h => ?_) <;> (simp [h, sysV, iv, i1]))
    | (refine APg_split_dec (fun h => ?_) (fun h => ?_) <;> (simp [h, sysV, iv, i1]))
    | (refine APg_split_not (fun h => ?_) (fun h => ?_) <;> (simp [h, sysV, iv, i1]))
    | (refine APg_split (fun h => ?_) (fun h => ?_) <;> (simp [h, sysV, iv, i1]))
    | (refine AS_call1 (f := 11) rfl rfl (hgreat) rfl rfl rfl ?_; simp [sysV, iv, i1])
    | refine SMeet_ret ?_
    | refine SMeet_exit ?_
    | (apply hK; clear hK K)
    | (refine AWh (by assumption) ?_))
          · refine Hold.out ?_
            repeat' (first
    | refine AW_seq_k fun K hK => ?_
    | refine AW_block ?_
    | refine AW_skip ?_
    | refine AW_exit ?_
    | refine AW_ret ?_
    | refine AW_scope ?_
    | refine AW_label ?_
    | refine SScope_normal ?_
    | refine SScope_ret ?_
    | refine SScope_exit ?_
    | refine SThen_normal ?_
    | refine SThen_ret ?_
    | refine SThen_exit ?_
    | refine SBlock_normal ?_
    | refine SBlock_ret ?_
    | refine SBlock_exit ?_
    | refine SBlock_exit_ne (by decide) ?_
    | (refine AW_region_AO ?_; simp [sysV, iv, i1])
    | (refine AOg_split_notdec (fun h => ?_) (fun h => ?_) <;> (simp [h, sysV, iv, i1]))
    | (refine AOg_split_dec (fun h => ?_) (fun h => ?_) <;> (simp [h, sysV, iv, i1]))
    | (refine AOg_split_not (fun h => ?_) (fun h => ?_) <;> (simp [h, sysV, iv, i1]))
    | (refine AOg_split (fun h => ?_) (fun h => ?_) <;> (simp [h, sysV, iv, i1]))
    | refine AW_cond_t rfl ?_
    | refine AW_cond_f rfl ?_
    | refine AW_cond_notdec rfl (fun h => ?_) (fun h => ?_)
    | refine AW_cond_dec rfl (fun h => ?_) (fun h => ?_)
    | refine AW_cond_not rfl (fun h => ?_) (fun h => ?_)
    | refine AW_cond rfl (fun h => ?_) (fun h => ?_)
    | (refine APg_split_notdec (fun h => ?_) (fun h => ?_) <;> (simp [h, sysV, iv, i1]))
    | (refine APg_split_dec (fun h => ?_) (fun h => ?_) <;> (simp [h, sysV, iv, i1]))
    | (refine APg_split_not (fun h => ?_) (fun h => ?_) <;> (simp [h, sysV, iv, i1]))
    | (refine APg_split (fun h => ?_) (fun h => ?_) <;> (simp [h, sysV, iv, i1]))
    | refine SMeet_ret ?_
    | refine SMeet_exit ?_
    | (apply hK; clear hK K)
    | (refine AWh (by assumption) ?_))
            refine AW_loopL [3, 7, 13, 14] (fun i : Nat => [(15, .int .i64 i)]) (fun _ => [.var [.int .i64 N, dv l, .int .i64 e]]) (fun i => i ≤ N) (fun i => N - i) 0 (Nat.zero_le _) (by apply Weak.mk' <;> simp [iv, dv]) (fun _ _ => rfl) ?_
            intro i hi
            repeat' (first
    | refine AW_seq_k fun K hK => ?_
    | refine AW_block ?_
    | refine AW_skip ?_
    | refine AW_exit ?_
    | refine AW_ret ?_
    | refine AW_scope ?_
    | refine AW_label ?_
    | refine SScope_normal ?_
    | refine SScope_ret ?_
    | refine SScope_exit ?_
    | refine SThen_normal ?_
    | refine SThen_ret ?_
    | refine SThen_exit ?_
    | refine SBlock_normal ?_
    | refine SBlock_ret ?_
    | refine SBlock_exit ?_
    | refine SBlock_exit_ne (by decide) ?_
    | (refine AW_region_AO ?_; simp [sysV, iv, i1, hf])
    | (refine AOg_split_notdec (fun h => ?_) (fun h => ?_) <;> (simp [h, sysV, iv, i1, hf]))
    | (refine AOg_split_dec (fun h => ?_) (fun h => ?_) <;> (simp [h, sysV, iv, i1, hf]))
    | (refine AOg_split_not (fun h => ?_) (fun h => ?_) <;> (simp [h, sysV, iv, i1, hf]))
    | (refine AOg_split (fun h => ?_) (fun h => ?_) <;> (simp [h, sysV, iv, i1, hf]))
    | refine AW_cond_t rfl ?_
    | refine AW_cond_f rfl ?_
    | refine AW_cond_notdec rfl (fun h => ?_) (fun h => ?_)
    | refine AW_cond_dec rfl (fun h => ?_) (fun h => ?_)
    | refine AW_cond_not rfl (fun h => ?_) (fun h => ?_)
    | refine AW_cond rfl (fun h => ?_) (fun h => ?_)
    | (refine APg_split_notdec (fun h => ?_) (fun h => ?_) <;> (simp [h, sysV, iv, i1, hf]))
    | (refine APg_split_dec (fun h => ?_) (fun h => ?_) <;> (simp [h, sysV, iv, i1, hf]))
    | (refine APg_split_not (fun h => ?_) (fun h => ?_) <;> (simp [h, sysV, iv, i1, hf]))
    | (refine APg_split (fun h => ?_) (fun h => ?_) <;> (simp [h, sysV, iv, i1, hf]))
    | refine SMeet_ret ?_
    | refine SMeet_exit ?_
    | (apply hK; clear hK K)
    | (refine AWh (by assumption) ?_))
            all_goals (refine SMeet_normal ?_ rfl; apply Weak.mk' <;> simp [i1, iv, dv])
          · refine Hold.out ?_
            cases l with
            | nil =>
              repeat' (first
    | refine AW_seq_k fun K hK => ?_
    | refine AW_block ?_
    | refine AW_skip ?_
    | refine AW_exit ?_
    | refine AW_ret ?_
    | refine AW_scope ?_
    | refine AW_label ?_
    | refine SScope_normal ?_
    | refine SScope_ret ?_
    | refine SScope_exit ?_
    | refine SThen_normal ?_
    | refine SThen_ret ?_
    | refine SThen_exit ?_
    | refine SBlock_normal ?_
    | refine SBlock_ret ?_
    | refine SBlock_exit ?_
    | refine SBlock_exit_ne (by decide) ?_
    | (refine AW_region_AO ?_; simp [sysV, iv, i1, dv])
    | (refine AOg_split_notdec (fun h => ?_) (fun h => ?_) <;> (simp [h, sysV, iv, i1, dv]))
    | (refine AOg_split_dec (fun h => ?_) (fun h => ?_) <;> (simp [h, sysV, iv, i1, dv]))
    | (refine AOg_split_not (fun h => ?_) (fun h => ?_) <;> (simp [h, sysV, iv, i1, dv]))
    | (refine AOg_split (fun h => ?_) (fun h => ?_) <;> (simp [h, sysV, iv, i1, dv]))
    | refine AW_cond_t rfl ?_
    | refine AW_cond_f rfl ?_
    | refine AW_cond_notdec rfl (fun h => ?_) (fun h => ?_)
    | refine AW_cond_dec rfl (fun h => ?_) (fun h => ?_)
    | refine AW_cond_not rfl (fun h => ?_) (fun h => ?_)
    | refine AW_cond rfl (fun h => ?_) (fun h => ?_)
    | (refine APg_split_notdec (fun h => ?_) (fun h => ?_) <;> (simp [h, sysV, iv, i1, dv]))
    | (refine APg_split_dec (fun h => ?_) (fun h => ?_) <;> (simp [h, sysV, iv, i1, dv]))
    | (refine APg_split_not (fun h => ?_) (fun h => ?_) <;> (simp [h, sysV, iv, i1, dv]))
    | (refine APg_split (fun h => ?_) (fun h => ?_) <;> (simp [h, sysV, iv, i1, dv]))
    | (refine AS_call1 (f := 5) rfl rfl (c_live) rfl rfl rfl ?_; simp [sysV, iv, i1, dv])
    | (apply hK; clear hK K)
    | (refine AWh (by assumption) ?_))
              all_goals exact retq1 (conv_eq rfl rfl)
            | cons d ls =>
              have hls : ls.length ≤ 1099511627776 := by simp at hl; omega
              have hok' : wrongE N ls = 0 := wrongE_tail hok
              have hsub : Sol (arcsL N ls) (val a) := fun x hx => hsol x (arcsL_tail hx)
              have hlo' : leastOk N ls = true := least_ok hok' hsub hpos hz0
              obtain ⟨j1, j2⟩ := least_inv hok' hN
              have hc2 : PC 9 [.int .i64 N, dv ls] (.tup [iv (leastSt N ls).1, .int .i64 N, .int .i64 0]) := by have := c_least N ls hn hls; simpa [leastV, hok', hlo'] using this
              have hDc : ∀ x : D, x.cells.length = 3 := fun _ => rfl
              have hle2 := fun i (hi : i < N) => least_le hok' hsub hpos i hi
              generalize (leastSt N ls).1 = c at *
              have hc3 : PC 9 [.int .i64 N, .vec (ls.map D.cells) ls.length] (.tup [.vec (c.map fun n => [V.int .i64 n]) N, .int .i64 N, .int .i64 0]) := by simpa [iv, dv, j1] using hc2
              repeat' (first
    | refine AW_seq_k fun K hK => ?_
    | refine AW_block ?_
    | refine AW_skip ?_
    | refine AW_exit ?_
    | refine AW_ret ?_
    | refine AW_scope ?_
    | refine AW_label ?_
    | refine SScope_normal ?_
    | refine SScope_ret ?_
    | refine SScope_exit ?_
    | refine SThen_normal ?_
    | refine SThen_ret ?_
    | refine SThen_exit ?_
    | refine SBlock_normal ?_
    | refine SBlock_ret ?_
    | refine SBlock_exit ?_
    | refine SBlock_exit_ne (by decide) ?_
    | (refine AW_region_AO ?_; simp [sysV, iv, i1, dv, j1, hDc])
    | (refine AOg_split_notdec (fun h => ?_) (fun h => ?_) <;> (simp [h, sysV, iv, i1, dv, j1, hDc]))
    | (refine AOg_split_dec (fun h => ?_) (fun h => ?_) <;> (simp [h, sysV, iv, i1, dv, j1, hDc]))
    | (refine AOg_split_not (fun h => ?_) (fun h => ?_) <;> (simp [h, sysV, iv, i1, dv, j1, hDc]))
    | (refine AOg_split (fun h => ?_) (fun h => ?_) <;> (simp [h, sysV, iv, i1, dv, j1, hDc]))
    | refine AW_cond_t rfl ?_
    | refine AW_cond_f rfl ?_
    | refine AW_cond_notdec rfl (fun h => ?_) (fun h => ?_)
    | refine AW_cond_dec rfl (fun h => ?_) (fun h => ?_)
    | refine AW_cond_not rfl (fun h => ?_) (fun h => ?_)
    | refine AW_cond rfl (fun h => ?_) (fun h => ?_)
    | (refine APg_split_notdec (fun h => ?_) (fun h => ?_) <;> (simp [h, sysV, iv, i1, dv, j1, hDc]))
    | (refine APg_split_dec (fun h => ?_) (fun h => ?_) <;> (simp [h, sysV, iv, i1, dv, j1, hDc]))
    | (refine APg_split_not (fun h => ?_) (fun h => ?_) <;> (simp [h, sysV, iv, i1, dv, j1, hDc]))
    | (refine APg_split (fun h => ?_) (fun h => ?_) <;> (simp [h, sysV, iv, i1, dv, j1, hDc]))
    | (refine AW_region_APx (id := 23) 13 mixed (by decide) ?_; simp [sysV, iv, i1, dv, j1, hDc])
    | (refine AP_call1 (f := 9) rfl rfl (hc3) rfl rfl rfl ?_; simp [sysV, iv, i1, dv, j1, hDc])
    | (refine AS_call1 (f := 9) rfl rfl (hc3) rfl rfl rfl ?_; simp [sysV, iv, i1, dv, j1, hDc])
    | (refine AS_call1 (f := 5) rfl rfl (c_live) rfl rfl rfl ?_; simp [sysV, iv, i1, dv, j1, hDc])
    | (apply hK; clear hK K)
    | (refine AWh (by assumption) ?_))
              refine AW_loopL [3, 7, 16, 18] (fun i : Nat => [(19, .int .i64 i)]) (fun _ => [.var [.int .i64 N, dv (d :: ls), .int .i64 e]]) (fun i => i ≤ N) (fun i => N - i) 0 (Nat.zero_le _) (by apply Weak.mk' <;> simp [iv, dv]) (fun _ _ => rfl) ?_
              intro i hi
              by_cases hlt : i < N
              · have hia : i < a.length := by omega
                have hic : i < c.length := by omega
                have hci := hle2 i hlt
                rw [hval _ _ hia, hval _ _ hic] at hci
                have hlt' : (i : Int) < N := by omega
                repeat' (first
    | refine AW_seq_k fun K hK => ?_
    | refine AW_block ?_
    | refine AW_skip ?_
    | refine AW_exit ?_
    | refine AW_ret ?_
    | refine AW_scope ?_
    | refine AW_label ?_
    | refine SScope_normal ?_
    | refine SScope_ret ?_
    | refine SScope_exit ?_
    | refine SThen_normal ?_
    | refine SThen_ret ?_
    | refine SThen_exit ?_
    | refine SBlock_normal ?_
    | refine SBlock_ret ?_
    | refine SBlock_exit ?_
    | refine SBlock_exit_ne (by decide) ?_
    | (refine AW_region_AO ?_; simp [sysV, iv, i1, j1, hlt, hlt', hia, hic, wrap_i64]; try (simp (disch := omega) only [wrap_i64]; try simp [sysV, iv, i1, j1, hlt, hlt', hia, hic, wrap_i64]))
    | (refine AOg_split_notdec (fun h => ?_) (fun h => ?_) <;> (simp [h, sysV, iv, i1, j1, hlt, hlt', hia, hic, wrap_i64]; try (simp (disch := omega) only [wrap_i64]; try simp [sysV, iv, i1, j1, hlt, hlt', hia, hic, wrap_i64])))
    | (refine AOg_split_dec (fun h => ?_) (fun h => ?_) <;> (simp [h, sysV, iv, i1, j1, hlt, hlt', hia, hic, wrap_i64]; try (simp (disch := omega) only [wrap_i64]; try simp [sysV, iv, i1, j1, hlt, hlt', hia, hic, wrap_i64])))
    | (refine AOg_split_not (fun h => ?_) (fun h => ?_) <;> (simp [h, sysV, iv, i1, j1, hlt, hlt', hia, hic, wrap_i64]; try (simp (disch := omega) only [wrap_i64]; try simp [sysV, iv, i1, j1, hlt, hlt', hia, hic, wrap_i64])))
    | (refine AOg_split (fun h => ?_) (fun h => ?_) <;> (simp [h, sysV, iv, i1, j1, hlt, hlt', hia, hic, wrap_i64]; try (simp (disch := omega) only [wrap_i64]; try simp [sysV, iv, i1, j1, hlt, hlt', hia, hic, wrap_i64])))
    | refine AW_cond_t rfl ?_
    | refine AW_cond_f rfl ?_
    | refine AW_cond_notdec rfl (fun h => ?_) (fun h => ?_)
    | refine AW_cond_dec rfl (fun h => ?_) (fun h => ?_)
    | refine AW_cond_not rfl (fun h => ?_) (fun h => ?_)
    | refine AW_cond rfl (fun h => ?_) (fun h => ?_)
    | (refine APg_split_notdec (fun h => ?_) (fun h => ?_) <;> (simp [h, sysV, iv, i1, j1, hlt, hlt', hia, hic, wrap_i64]; try (simp (disch := omega) only [wrap_i64]; try simp [sysV, iv, i1, j1, hlt, hlt', hia, hic, wrap_i64])))
    | (refine APg_split_dec (fun h => ?_) (fun h => ?_) <;> (simp [h, sysV, iv, i1, j1, hlt, hlt', hia, hic, wrap_i64]; try (simp (disch := omega) only [wrap_i64]; try simp [sysV, iv, i1, j1, hlt, hlt', hia, hic, wrap_i64])))
    | (refine APg_split_not (fun h => ?_) (fun h => ?_) <;> (simp [h, sysV, iv, i1, j1, hlt, hlt', hia, hic, wrap_i64]; try (simp (disch := omega) only [wrap_i64]; try simp [sysV, iv, i1, j1, hlt, hlt', hia, hic, wrap_i64])))
    | (refine APg_split (fun h => ?_) (fun h => ?_) <;> (simp [h, sysV, iv, i1, j1, hlt, hlt', hia, hic, wrap_i64]; try (simp (disch := omega) only [wrap_i64]; try simp [sysV, iv, i1, j1, hlt, hlt', hia, hic, wrap_i64])))
    | (refine AW_region_APx (id := 27) 13 mixed (by decide) ?_; simp [sysV, iv, i1, j1, hlt, hlt', hia, hic, wrap_i64]; try (simp (disch := omega) only [wrap_i64]; try simp [sysV, iv, i1, j1, hlt, hlt', hia, hic, wrap_i64]))
    | (apply hK; clear hK K)
    | (refine AWh (by assumption) ?_))
                all_goals first
                  | (exfalso; omega)
                  | (refine ⟨i + 1, by omega, by omega, ?_⟩; apply Weak.mk' <;> simp [iv, dv, i1, j1])
                  | trace_state
              · have hlt' : ¬ (i : Int) < N := by omega
                repeat' (first
    | refine AW_seq_k fun K hK => ?_
    | refine AW_block ?_
    | refine AW_skip ?_
    | refine AW_exit ?_
    | refine AW_ret ?_
    | refine AW_scope ?_
    | refine AW_label ?_
    | refine SScope_normal ?_
    | refine SScope_ret ?_
    | refine SScope_exit ?_
    | refine SThen_normal ?_
    | refine SThen_ret ?_
    | refine SThen_exit ?_
    | refine SBlock_normal ?_
    | refine SBlock_ret ?_
    | refine SBlock_exit ?_
    | refine SBlock_exit_ne (by decide) ?_
    | (refine AW_region_AO ?_; simp [sysV, iv, i1, j1, hlt, hlt'])
    | (refine AOg_split_notdec (fun h => ?_) (fun h => ?_) <;> (simp [h, sysV, iv, i1, j1, hlt, hlt']))
    | (refine AOg_split_dec (fun h => ?_) (fun h => ?_) <;> (simp [h, sysV, iv, i1, j1, hlt, hlt']))
    | (refine AOg_split_not (fun h => ?_) (fun h => ?_) <;> (simp [h, sysV, iv, i1, j1, hlt, hlt']))
    | (refine AOg_split (fun h => ?_) (fun h => ?_) <;> (simp [h, sysV, iv, i1, j1, hlt, hlt']))
    | refine AW_cond_t rfl ?_
    | refine AW_cond_f rfl ?_
    | refine AW_cond_notdec rfl (fun h => ?_) (fun h => ?_)
    | refine AW_cond_dec rfl (fun h => ?_) (fun h => ?_)
    | refine AW_cond_not rfl (fun h => ?_) (fun h => ?_)
    | refine AW_cond rfl (fun h => ?_) (fun h => ?_)
    | (refine APg_split_notdec (fun h => ?_) (fun h => ?_) <;> (simp [h, sysV, iv, i1, j1, hlt, hlt']))
    | (refine APg_split_dec (fun h => ?_) (fun h => ?_) <;> (simp [h, sysV, iv, i1, j1, hlt, hlt']))
    | (refine APg_split_not (fun h => ?_) (fun h => ?_) <;> (simp [h, sysV, iv, i1, j1, hlt, hlt']))
    | (refine APg_split (fun h => ?_) (fun h => ?_) <;> (simp [h, sysV, iv, i1, j1, hlt, hlt']))
    | (refine AS_call1 (f := 5) rfl rfl (c_live) rfl rfl rfl ?_; simp [sysV, iv, i1, j1, hlt, hlt'])
    | (apply hK; clear hK K)
    | (refine AWh (by assumption) ?_))
                all_goals exact retq1 (conv_eq rfl rfl)
          · refine Hold.out ?_
            repeat' (first
    | refine AW_seq_k fun K hK => ?_
    | refine AW_block ?_
    | refine AW_skip ?_
    | refine AW_exit ?_
    | refine AW_ret ?_
    | refine AW_scope ?_
    | refine AW_label ?_
    | refine SScope_normal ?_
    | refine SScope_ret ?_
    | refine SScope_exit ?_
    | refine SThen_normal ?_
    | refine SThen_ret ?_
    | refine SThen_exit ?_
    | refine SBlock_normal ?_
    | refine SBlock_ret ?_
    | refine SBlock_exit ?_
    | refine SBlock_exit_ne (by decide) ?_
    | (refine AW_region_AO ?_; simp [sysV, iv, i1, hb1])
    | (refine AOg_split_notdec (fun h => ?_) (fun h => ?_) <;> (simp [h, sysV, iv, i1, hb1]))
    | (refine AOg_split_dec (fun h => ?_) (fun h => ?_) <;> (simp [h, sysV, iv, i1, hb1]))
    | (refine AOg_split_not (fun h => ?_) (fun h => ?_) <;> (simp [h, sysV, iv, i1, hb1]))
    | (refine AOg_split (fun h => ?_) (fun h => ?_) <;> (simp [h, sysV, iv, i1, hb1]))
    | refine AW_cond_t rfl ?_
    | refine AW_cond_f rfl ?_
    | refine AW_cond_notdec rfl (fun h => ?_) (fun h => ?_)
    | refine AW_cond_dec rfl (fun h => ?_) (fun h => ?_)
    | refine AW_cond_not rfl (fun h => ?_) (fun h => ?_)
    | refine AW_cond rfl (fun h => ?_) (fun h => ?_)
    | (refine APg_split_notdec (fun h => ?_) (fun h => ?_) <;> (simp [h, sysV, iv, i1, hb1]))
    | (refine APg_split_dec (fun h => ?_) (fun h => ?_) <;> (simp [h, sysV, iv, i1, hb1]))
    | (refine APg_split_not (fun h => ?_) (fun h => ?_) <;> (simp [h, sysV, iv, i1, hb1]))
    | (refine APg_split (fun h => ?_) (fun h => ?_) <;> (simp [h, sysV, iv, i1, hb1]))
    | refine SMeet_ret ?_
    | refine SMeet_exit ?_
    | (apply hK; clear hK K)
    | (refine AWh (by assumption) ?_))
            refine AW_loopL [3, 7, 13, 14] (fun i : Nat => [(15, .int .i64 i)]) (fun _ => [.var [.int .i64 N, dv l, .int .i64 e]]) (fun i => i ≤ N) (fun i => N - i) 0 (Nat.zero_le _) (by apply Weak.mk' <;> simp [iv, dv]) (fun _ _ => rfl) ?_
            intro i hi
            by_cases hlt : i < N
            · have hia : i < a.length := by omega
              have hib : i < b.length := by omega
              have hbi := hb2 i hlt
              rw [hval _ _ hia, hval _ _ hib] at hbi
              have hlt' : (i : Int) < N := by omega
              repeat' (first
    | refine AW_seq_k fun K hK => ?_
    | refine AW_block ?_
    | refine AW_skip ?_
    | refine AW_exit ?_
    | refine AW_ret ?_
    | refine AW_scope ?_
    | refine AW_label ?_
    | refine SScope_normal ?_
    | refine SScope_ret ?_
    | refine SScope_exit ?_
    | refine SThen_normal ?_
    | refine SThen_ret ?_
    | refine SThen_exit ?_
    | refine SBlock_normal ?_
    | refine SBlock_ret ?_
    | refine SBlock_exit ?_
    | refine SBlock_exit_ne (by decide) ?_
    | (refine AW_region_AO ?_; simp [sysV, iv, i1, hb1, hlt, hlt', hia, hib, wrap_i64]; try (simp (disch := omega) only [wrap_i64]; try simp [sysV, iv, i1, hb1, hlt, hlt', hia, hib, wrap_i64]))
    | (refine AOg_split_notdec (fun h => ?_) (fun h => ?_) <;> (simp [h, sysV, iv, i1, hb1, hlt, hlt', hia, hib, wrap_i64]; try (simp (disch := omega) only [wrap_i64]; try simp [sysV, iv, i1, hb1, hlt, hlt', hia, hib, wrap_i64])))
    | (refine AOg_split_dec (fun h => ?_) (fun h => ?_) <;> (simp [h, sysV, iv, i1, hb1, hlt, hlt', hia, hib, wrap_i64]; try (simp (disch := omega) only [wrap_i64]; try simp [sysV, iv, i1, hb1, hlt, hlt', hia, hib, wrap_i64])))
    | (refine AOg_split_not (fun h => ?_) (fun h => ?_) <;> (simp [h, sysV, iv, i1, hb1, hlt, hlt', hia, hib, wrap_i64]; try (simp (disch := omega) only [wrap_i64]; try simp [sysV, iv, i1, hb1, hlt, hlt', hia, hib, wrap_i64])))
    | (refine AOg_split (fun h => ?_) (fun h => ?_) <;> (simp [h, sysV, iv, i1, hb1, hlt, hlt', hia, hib, wrap_i64]; try (simp (disch := omega) only [wrap_i64]; try simp [sysV, iv, i1, hb1, hlt, hlt', hia, hib, wrap_i64])))
    | refine AW_cond_t rfl ?_
    | refine AW_cond_f rfl ?_
    | refine AW_cond_notdec rfl (fun h => ?_) (fun h => ?_)
    | refine AW_cond_dec rfl (fun h => ?_) (fun h => ?_)
    | refine AW_cond_not rfl (fun h => ?_) (fun h => ?_)
    | refine AW_cond rfl (fun h => ?_) (fun h => ?_)
    | (refine APg_split_notdec (fun h => ?_) (fun h => ?_) <;> (simp [h, sysV, iv, i1, hb1, hlt, hlt', hia, hib, wrap_i64]; try (simp (disch := omega) only [wrap_i64]; try simp [sysV, iv, i1, hb1, hlt, hlt', hia, hib, wrap_i64])))
    | (refine APg_split_dec (fun h => ?_) (fun h => ?_) <;> (simp [h, sysV, iv, i1, hb1, hlt, hlt', hia, hib, wrap_i64]; try (simp (disch := omega) only [wrap_i64]; try simp [sysV, iv, i1, hb1, hlt, hlt', hia, hib, wrap_i64])))
    | (refine APg_split_not (fun h => ?_) (fun h => ?_) <;> (simp [h, sysV, iv, i1, hb1, hlt, hlt', hia, hib, wrap_i64]; try (simp (disch := omega) only [wrap_i64]; try simp [sysV, iv, i1, hb1, hlt, hlt', hia, hib, wrap_i64])))
    | (refine APg_split (fun h => ?_) (fun h => ?_) <;> (simp [h, sysV, iv, i1, hb1, hlt, hlt', hia, hib, wrap_i64]; try (simp (disch := omega) only [wrap_i64]; try simp [sysV, iv, i1, hb1, hlt, hlt', hia, hib, wrap_i64])))
    | (refine AW_region_APx (id := 20) 18 mixed (by decide) ?_; simp [sysV, iv, i1, hb1, hlt, hlt', hia, hib, wrap_i64]; try (simp (disch := omega) only [wrap_i64]; try simp [sysV, iv, i1, hb1, hlt, hlt', hia, hib, wrap_i64]))
    | refine SMeet_ret ?_
    | refine SMeet_exit ?_
    | (apply hK; clear hK K)
    | (refine AWh (by assumption) ?_))
              all_goals first
                | (exfalso; omega)
                | (refine ⟨i + 1, by omega, by omega, ?_⟩; apply Weak.mk' <;> simp [iv, dv, i1, hb1])
                | trace_state
            · have hlt' : ¬ (i : Int) < N := by omega
              repeat' (first
    | refine AW_seq_k fun K hK => ?_
    | refine AW_block ?_
    | refine AW_skip ?_
    | refine AW_exit ?_
    | refine AW_ret ?_
    | refine AW_scope ?_
    | refine AW_label ?_
    | refine SScope_normal ?_
    | refine SScope_ret ?_
    | refine SScope_exit ?_
    | refine SThen_normal ?_
    | refine SThen_ret ?_
    | refine SThen_exit ?_
    | refine SBlock_normal ?_
    | refine SBlock_ret ?_
    | refine SBlock_exit ?_
    | refine SBlock_exit_ne (by decide) ?_
    | (refine AW_region_AO ?_; simp [sysV, iv, i1, hb1, hlt, hlt'])
    | (refine AOg_split_notdec (fun h => ?_) (fun h => ?_) <;> (simp [h, sysV, iv, i1, hb1, hlt, hlt']))
    | (refine AOg_split_dec (fun h => ?_) (fun h => ?_) <;> (simp [h, sysV, iv, i1, hb1, hlt, hlt']))
    | (refine AOg_split_not (fun h => ?_) (fun h => ?_) <;> (simp [h, sysV, iv, i1, hb1, hlt, hlt']))
    | (refine AOg_split (fun h => ?_) (fun h => ?_) <;> (simp [h, sysV, iv, i1, hb1, hlt, hlt']))
    | refine AW_cond_t rfl ?_
    | refine AW_cond_f rfl ?_
    | refine AW_cond_notdec rfl (fun h => ?_) (fun h => ?_)
    | refine AW_cond_dec rfl (fun h => ?_) (fun h => ?_)
    | refine AW_cond_not rfl (fun h => ?_) (fun h => ?_)
    | refine AW_cond rfl (fun h => ?_) (fun h => ?_)
    | (refine APg_split_notdec (fun h => ?_) (fun h => ?_) <;> (simp [h, sysV, iv, i1, hb1, hlt, hlt']))
    | (refine APg_split_dec (fun h => ?_) (fun h => ?_) <;> (simp [h, sysV, iv, i1, hb1, hlt, hlt']))
    | (refine APg_split_not (fun h => ?_) (fun h => ?_) <;> (simp [h, sysV, iv, i1, hb1, hlt, hlt']))
    | (refine APg_split (fun h => ?_) (fun h => ?_) <;> (simp [h, sysV, iv, i1, hb1, hlt, hlt']))
    | refine SMeet_ret ?_
    | refine SMeet_exit ?_
    | (apply hK; clear hK K)
    | (refine AWh (by assumption) ?_))
              all_goals (refine SMeet_normal ?_ rfl; apply Weak.mk' <;> simp [i1, iv, dv])
          · refine Hold.out ?_
            cases l with
            | nil =>
              repeat' (first
    | refine AW_seq_k fun K hK => ?_
    | refine AW_block ?_
    | refine AW_skip ?_
    | refine AW_exit ?_
    | refine AW_ret ?_
    | refine AW_scope ?_
    | refine AW_label ?_
    | refine SScope_normal ?_
    | refine SScope_ret ?_
    | refine SScope_exit ?_
    | refine SThen_normal ?_
    | refine SThen_ret ?_
    | refine SThen_exit ?_
    | refine SBlock_normal ?_
    | refine SBlock_ret ?_
    | refine SBlock_exit ?_
    | refine SBlock_exit_ne (by decide) ?_
    | (refine AW_region_AO ?_; simp [sysV, iv, i1, dv])
    | (refine AOg_split_notdec (fun h => ?_) (fun h => ?_) <;> (simp [h, sysV, iv, i1, dv]))
    | (refine AOg_split_dec (fun h => ?_) (fun h => ?_) <;> (simp [h, sysV, iv, i1, dv]))
    | (refine AOg_split_not (fun h => ?_) (fun h => ?_) <;> (simp [h, sysV, iv, i1, dv]))
    | (refine AOg_split (fun h => ?_) (fun h => ?_) <;> (simp [h, sysV, iv, i1, dv]))
    | refine AW_cond_t rfl ?_
    | refine AW_cond_f rfl ?_
    | refine AW_cond_notdec rfl (fun h => ?_) (fun h => ?_)
    | refine AW_cond_dec rfl (fun h => ?_) (fun h => ?_)
    | refine AW_cond_not rfl (fun h => ?_) (fun h => ?_)
    | refine AW_cond rfl (fun h => ?_) (fun h => ?_)
    | (refine APg_split_notdec (fun h => ?_) (fun h => ?_) <;> (simp [h, sysV, iv, i1, dv]))
    | (refine APg_split_dec (fun h => ?_) (fun h => ?_) <;> (simp [h, sysV, iv, i1, dv]))
    | (refine APg_split_not (fun h => ?_) (fun h => ?_) <;> (simp [h, sysV, iv, i1, dv]))
    | (refine APg_split (fun h => ?_) (fun h => ?_) <;> (simp [h, sysV, iv, i1, dv]))
    | (refine AS_call1 (f := 5) rfl rfl (c_live) rfl rfl rfl ?_; simp [sysV, iv, i1, dv])
    | (apply hK; clear hK K)
    | (refine AWh (by assumption) ?_))
              all_goals exact retq1 (conv_eq rfl rfl)
            | cons d ls =>
              have hls : ls.length ≤ 1099511627776 := by simp at hl; omega
              have hok' : wrongE N ls = 0 := wrongE_tail hok
              have hsub : Sol (arcsL N ls) (val a) := fun x hx => hsol x (arcsL_tail hx)
              have hlo' : leastOk N ls = true := least_ok hok' hsub hpos hz0
              obtain ⟨j1, j2⟩ := least_inv hok' hN
              have hc2 : PC 9 [.int .i64 N, dv ls] (.tup [iv (leastSt N ls).1, .int .i64 N, .int .i64 0]) := by have := c_least N ls hn hls; simpa [leastV, hok', hlo'] using this
              have hDc : ∀ x : D, x.cells.length = 3 := fun _ => rfl
              have hle2 := fun i (hi : i < N) => least_le hok' hsub hpos i hi
              generalize (leastSt N ls).1 = c at *
              have hc3 : PC 9 [.int .i64 N, .vec (ls.map D.cells) ls.length] (.tup [.vec (c.map fun n => [V.int .i64 n]) N, .int .i64 N, .int .i64 0]) := by simpa [iv, dv, j1] using hc2
              repeat' (first
    | refine AW_seq_k fun K hK => ?_
    | refine AW_block ?_
    | refine AW_skip ?_
    | refine AW_exit ?_
    | refine AW_ret ?_
    | refine AW_scope ?_
    | refine AW_label ?_
    | refine SScope_normal ?_
    | refine SScope_ret ?_
    | refine SScope_exit ?_
    | refine SThen_normal ?_
    | refine SThen_ret ?_
    | refine SThen_exit ?_
    | refine SBlock_normal ?_
    | refine SBlock_ret ?_
    | refine SBlock_exit ?_
    | refine SBlock_exit_ne (by decide) ?_
    | (refine AW_region_AO ?_; simp [sysV, iv, i1, dv, j1, hDc])
    | (refine AOg_split_notdec (fun h => ?_) (fun h => ?_) <;> (simp [h, sysV, iv, i1, dv, j1, hDc]))
    | (refine AOg_split_dec (fun h => ?_) (fun h => ?_) <;> (simp [h, sysV, iv, i1, dv, j1, hDc]))
    | (refine AOg_split_not (fun h => ?_) (fun h => ?_) <;> (simp [h, sysV, iv, i1, dv, j1, hDc]))
    | (refine AOg_split (fun h => ?_) (fun h => ?_) <;> (simp [h, sysV, iv, i1, dv, j1, hDc]))
    | refine AW_cond_t rfl ?_
    | refine AW_cond_f rfl ?_
    | refine AW_cond_notdec rfl (fun h => ?_) (fun h => ?_)
    | refine AW_cond_dec rfl (fun h => ?_) (fun h => ?_)
    | refine AW_cond_not rfl (fun h => ?_) (fun h => ?_)
    | refine AW_cond rfl (fun h => ?_) (fun h => ?_)
    | (refine APg_split_notdec (fun h => ?_) (fun h => ?_) <;> (simp [h, sysV, iv, i1, dv, j1, hDc]))
    | (refine APg_split_dec (fun h => ?_) (fun h => ?_) <;> (simp [h, sysV, iv, i1, dv, j1, hDc]))
    | (refine APg_split_not (fun h => ?_) (fun h => ?_) <;> (simp [h, sysV, iv, i1, dv, j1, hDc]))
    | (refine APg_split (fun h => ?_) (fun h => ?_) <;> (simp [h, sysV, iv, i1, dv, j1, hDc]))
    | (refine AW_region_APx (id := 23) 13 mixed (by decide) ?_; simp [sysV, iv, i1, dv, j1, hDc])
    | (refine AP_call1 (f := 9) rfl rfl (hc3) rfl rfl rfl ?_; simp [sysV, iv, i1, dv, j1, hDc])
    | (refine AS_call1 (f := 9) rfl rfl (hc3) rfl rfl rfl ?_; simp [sysV, iv, i1, dv, j1, hDc])
    | (refine AS_call1 (f := 5) rfl rfl (c_live) rfl rfl rfl ?_; simp [sysV, iv, i1, dv, j1, hDc])
    | (apply hK; clear hK K)
    | (refine AWh (by assumption) ?_))
              refine AW_loopL [3, 7, 16, 18] (fun i : Nat => [(19, .int .i64 i)]) (fun _ => [.var [.int .i64 N, dv (d :: ls), .int .i64 e]]) (fun i => i ≤ N) (fun i => N - i) 0 (Nat.zero_le _) (by apply Weak.mk' <;> simp [iv, dv]) (fun _ _ => rfl) ?_
              intro i hi
              by_cases hlt : i < N
              · have hia : i < a.length := by omega
                have hic : i < c.length := by omega
                have hci := hle2 i hlt
                rw [hval _ _ hia, hval _ _ hic] at hci
                have hlt' : (i : Int) < N := by omega
                repeat' (first
    | refine AW_seq_k fun K hK => ?_
    | refine AW_block ?_
    | refine AW_skip ?_
    | refine AW_exit ?_
    | refine AW_ret ?_
    | refine AW_scope ?_
    | refine AW_label ?_
    | refine SScope_normal ?_
    | refine SScope_ret ?_
    | refine SScope_exit ?_
    | refine SThen_normal ?_
    | refine SThen_ret ?_
    | refine SThen_exit ?_
    | refine SBlock_normal ?_
    | refine SBlock_ret ?_
    | refine SBlock_exit ?_
    | refine SBlock_exit_ne (by decide) ?_
    | (refine AW_region_AO ?_; simp [sysV, iv, i1, j1, hlt, hlt', hia, hic, wrap_i64]; try (simp (disch := omega) only [wrap_i64]; try simp [sysV, iv, i1, j1, hlt, hlt', hia, hic, wrap_i64]))
    | (refine AOg_split_notdec (fun h => ?_) (fun h => ?_) <;> (simp [h, sysV, iv, i1, j1, hlt, hlt', hia, hic, wrap_i64]; try (simp (disch := omega) only [wrap_i64]; try simp [sysV, iv, i1, j1, hlt, hlt', hia, hic, wrap_i64])))
    | (refine AOg_split_dec (fun h => ?_) (fun h => ?_) <;> (simp [h, sysV, iv, i1, j1, hlt, hlt', hia, hic, wrap_i64]; try (simp (disch := omega) only [wrap_i64]; try simp [sysV, iv, i1, j1, hlt, hlt', hia, hic, wrap_i64])))
    | (refine AOg_split_not (fun h => ?_) (fun h => ?_) <;> (simp [h, sysV, iv, i1, j1, hlt, hlt', hia, hic, wrap_i64]; try (simp (disch := omega) only [wrap_i64]; try simp [sysV, iv, i1, j1, hlt, hlt', hia, hic, wrap_i64])))
    | (refine AOg_split (fun h => ?_) (fun h => ?_) <;> (simp [h, sysV, iv, i1, j1, hlt, hlt', hia, hic, wrap_i64]; try (simp (disch := omega) only [wrap_i64]; try simp [sysV, iv, i1, j1, hlt, hlt', hia, hic, wrap_i64])))
    | refine AW_cond_t rfl ?_
    | refine AW_cond_f rfl ?_
    | refine AW_cond_notdec rfl (fun h => ?_) (fun h => ?_)
    | refine AW_cond_dec rfl (fun h => ?_) (fun h => ?_)
    | refine AW_cond_not rfl (fun h => ?_) (fun h => ?_)
    | refine AW_cond rfl (fun h => ?_) (fun h => ?_)
    | (refine APg_split_notdec (fun h => ?_) (fun h => ?_) <;> (simp [h, sysV, iv, i1, j1, hlt, hlt', hia, hic, wrap_i64]; try (simp (disch := omega) only [wrap_i64]; try simp [sysV, iv, i1, j1, hlt, hlt', hia, hic, wrap_i64])))
    | (refine APg_split_dec (fun h => ?_) (fun h => ?_) <;> (simp [h, sysV, iv, i1, j1, hlt, hlt', hia, hic, wrap_i64]; try (simp (disch := omega) only [wrap_i64]; try simp [sysV, iv, i1, j1, hlt, hlt', hia, hic, wrap_i64])))
    | (refine APg_split_not (fun h => ?_) (fun h => ?_) <;> (simp [h, sysV, iv, i1, j1, hlt, hlt', hia, hic, wrap_i64]; try (simp (disch := omega) only [wrap_i64]; try simp [sysV, iv, i1, j1, hlt, hlt', hia, hic, wrap_i64])))
    | (refine APg_split (fun h => ?_) (fun h => ?_) <;> (simp [h, sysV, iv, i1, j1, hlt, hlt', hia, hic, wrap_i64]; try (simp (disch := omega) only [wrap_i64]; try simp [sysV, iv, i1, j1, hlt, hlt', hia, hic, wrap_i64])))
    | (refine AW_region_APx (id := 27) 13 mixed (by decide) ?_; simp [sysV, iv, i1, j1, hlt, hlt', hia, hic, wrap_i64]; try (simp (disch := omega) only [wrap_i64]; try simp [sysV, iv, i1, j1, hlt, hlt', hia, hic, wrap_i64]))
    | (apply hK; clear hK K)
    | (refine AWh (by assumption) ?_))
                all_goals first
                  | (exfalso; omega)
                  | (refine ⟨i + 1, by omega, by omega, ?_⟩; apply Weak.mk' <;> simp [iv, dv, i1, j1])
                  | trace_state
              · have hlt' : ¬ (i : Int) < N := by omega
                repeat' (first
    | refine AW_seq_k fun K hK => ?_
    | refine AW_block ?_
    | refine AW_skip ?_
    | refine AW_exit ?_
    | refine AW_ret ?_
    | refine AW_scope ?_
    | refine AW_label ?_
    | refine SScope_normal ?_
    | refine SScope_ret ?_
    | refine SScope_exit ?_
    | refine SThen_normal ?_
    | refine SThen_ret ?_
    | refine SThen_exit ?_
    | refine SBlock_normal ?_
    | refine SBlock_ret ?_
    | refine SBlock_exit ?_
    | refine SBlock_exit_ne (by decide) ?_
    | (refine AW_region_AO ?_; simp [sysV, iv, i1, j1, hlt, hlt'])
    | (refine AOg_split_notdec (fun h => ?_) (fun h => ?_) <;> (simp [h, sysV, iv, i1, j1, hlt, hlt']))
    | (refine AOg_split_dec (fun h => ?_) (fun h => ?_) <;> (simp [h, sysV, iv, i1, j1, hlt, hlt']))
    | (refine AOg_split_not (fun h => ?_) (fun h => ?_) <;> (simp [h, sysV, iv, i1, j1, hlt, hlt']))
    | (refine AOg_split (fun h => ?_) (fun h => ?_) <;> (simp [h, sysV, iv, i1, j1, hlt, hlt']))
    | refine AW_cond_t rfl ?_
    | refine AW_cond_f rfl ?_
    | refine AW_cond_notdec rfl (fun h => ?_) (fun h => ?_)
    | refine AW_cond_dec rfl (fun h => ?_) (fun h => ?_)
    | refine AW_cond_not rfl (fun h => ?_) (fun h => ?_)
    | refine AW_cond rfl (fun h => ?_) (fun h => ?_)
    | (refine APg_split_notdec (fun h => ?_) (fun h => ?_) <;> (simp [h, sysV, iv, i1, j1, hlt, hlt']))
    | (refine APg_split_dec (fun h => ?_) (fun h => ?_) <;> (simp [h, sysV, iv, i1, j1, hlt, hlt']))
    | (refine APg_split_not (fun h => ?_) (fun h => ?_) <;> (simp [h, sysV, iv, i1, j1, hlt, hlt']))
    | (refine APg_split (fun h => ?_) (fun h => ?_) <;> (simp [h, sysV, iv, i1, j1, hlt, hlt']))
    | (refine AS_call1 (f := 5) rfl rfl (c_live) rfl rfl rfl ?_; simp [sysV, iv, i1, j1, hlt, hlt'])
    | (apply hK; clear hK K)
    | (refine AWh (by assumption) ?_))
                all_goals exact retq1 (conv_eq rfl rfl)
    · have hc : PC 9 [.int .i64 N, dv l] (.tup [.nils, .int .i64 0, .int .i64 4]) := by have := hleast; simpa [leastV, hok, hlo] using this
      by_cases htl : t.length = N
      · have htl' : (t.length : Int) = N := by omega
        have ht0 : 0 < t.length := by omega
        by_cases hz : t[0] = 0
        · have hk : keepsB t grid l = false := by
            cases hk : keepsB t grid l
            · rfl
            · exfalso
              have hv0 : val t 0 = 0 := by unfold val; rw [List.getD_eq_getElem?_getD, List.getElem?_eq_getElem ht0]; simpa using hz
              obtain ⟨g1, g2, g3⟩ := keeps_sigma hok htl hv0 hk
              exact hlo (least_ok hok g1 g2 g3)
          rw [hk] at hkeeps
          have hkeeps' : PC 6 [.vec (t.map fun n => [V.int .i64 n]) N, .int .i64 grid, dv l] (.bool false) := by simpa [iv, htl] using hkeeps
          repeat' (first
    | refine AW_seq_k fun K hK => ?_
    | refine AW_block ?_
    | refine AW_skip ?_
    | refine AW_exit ?_
    | refine AW_ret ?_
    | refine AW_scope ?_
    | refine AW_label ?_
    | refine SScope_normal ?_
    | refine SScope_ret ?_
    | refine SScope_exit ?_
    | refine SThen_normal ?_
    | refine SThen_ret ?_
    | refine SThen_exit ?_
    | refine SBlock_normal ?_
    | refine SBlock_ret ?_
    | refine SBlock_exit ?_
    | refine SBlock_exit_ne (by decide) ?_
    | (refine AW_region_AO ?_; simp [sysV, htl, htl', ht0, hN0, hz, iv])
    | (refine AOg_split_notdec (fun h => ?_) (fun h => ?_) <;> (simp [h, sysV, htl, htl', ht0, hN0, hz, iv]))
    | (refine AOg_split_dec (fun h => ?_) (fun h => ?_) <;> (simp [h, sysV, htl, htl', ht0, hN0, hz, iv]))
    | (refine AOg_split_not (fun h => ?_) (fun h => ?_) <;> (simp [h, sysV, htl, htl', ht0, hN0, hz, iv]))
    | (refine AOg_split (fun h => ?_) (fun h => ?_) <;> (simp [h, sysV, htl, htl', ht0, hN0, hz, iv]))
    | refine AW_cond_t rfl ?_
    | refine AW_cond_f rfl ?_
    | refine AW_cond_notdec rfl (fun h => ?_) (fun h => ?_)
    | refine AW_cond_dec rfl (fun h => ?_) (fun h => ?_)
    | refine AW_cond_not rfl (fun h => ?_) (fun h => ?_)
    | refine AW_cond rfl (fun h => ?_) (fun h => ?_)
    | (refine APg_split_notdec (fun h => ?_) (fun h => ?_) <;> (simp [h, sysV, htl, htl', ht0, hN0, hz, iv]))
    | (refine APg_split_dec (fun h => ?_) (fun h => ?_) <;> (simp [h, sysV, htl, htl', ht0, hN0, hz, iv]))
    | (refine APg_split_not (fun h => ?_) (fun h => ?_) <;> (simp [h, sysV, htl, htl', ht0, hN0, hz, iv]))
    | (refine APg_split (fun h => ?_) (fun h => ?_) <;> (simp [h, sysV, htl, htl', ht0, hN0, hz, iv]))
    | (refine AS_call1 (f := 9) rfl rfl (hc) rfl rfl rfl ?_; simp [sysV, htl, htl', ht0, hN0, hz, iv])
    | (refine AS_call1 (f := 5) rfl rfl (c_live) rfl rfl rfl ?_; simp [sysV, htl, htl', ht0, hN0, hz, iv])
    | (refine AS_call1 (f := 6) rfl rfl (hkeeps') rfl rfl rfl ?_; simp [sysV, htl, htl', ht0, hN0, hz, iv])
    | (apply hK; clear hK K)
    | (refine AWh (by assumption) ?_))
          all_goals exact retq1 (conv_eq rfl rfl)
        · repeat' (first
    | refine AW_seq_k fun K hK => ?_
    | refine AW_block ?_
    | refine AW_skip ?_
    | refine AW_exit ?_
    | refine AW_ret ?_
    | refine AW_scope ?_
    | refine AW_label ?_
    | refine SScope_normal ?_
    | refine SScope_ret ?_
    | refine SScope_exit ?_
    | refine SThen_normal ?_
    | refine SThen_ret ?_
    | refine SThen_exit ?_
    | refine SBlock_normal ?_
    | refine SBlock_ret ?_
    | refine SBlock_exit ?_
    | refine SBlock_exit_ne (by decide) ?_
    | (refine AW_region_AO ?_; simp [sysV, htl, htl', ht0, hN0, hz, iv])
    | (refine AOg_split_notdec (fun h => ?_) (fun h => ?_) <;> (simp [h, sysV, htl, htl', ht0, hN0, hz, iv]))
    | (refine AOg_split_dec (fun h => ?_) (fun h => ?_) <;> (simp [h, sysV, htl, htl', ht0, hN0, hz, iv]))
    | (refine AOg_split_not (fun h => ?_) (fun h => ?_) <;> (simp [h, sysV, htl, htl', ht0, hN0, hz, iv]))
    | (refine AOg_split (fun h => ?_) (fun h => ?_) <;> (simp [h, sysV, htl, htl', ht0, hN0, hz, iv]))
    | refine AW_cond_t rfl ?_
    | refine AW_cond_f rfl ?_
    | refine AW_cond_notdec rfl (fun h => ?_) (fun h => ?_)
    | refine AW_cond_dec rfl (fun h => ?_) (fun h => ?_)
    | refine AW_cond_not rfl (fun h => ?_) (fun h => ?_)
    | refine AW_cond rfl (fun h => ?_) (fun h => ?_)
    | (refine APg_split_notdec (fun h => ?_) (fun h => ?_) <;> (simp [h, sysV, htl, htl', ht0, hN0, hz, iv]))
    | (refine APg_split_dec (fun h => ?_) (fun h => ?_) <;> (simp [h, sysV, htl, htl', ht0, hN0, hz, iv]))
    | (refine APg_split_not (fun h => ?_) (fun h => ?_) <;> (simp [h, sysV, htl, htl', ht0, hN0, hz, iv]))
    | (refine APg_split (fun h => ?_) (fun h => ?_) <;> (simp [h, sysV, htl, htl', ht0, hN0, hz, iv]))
    | (refine AS_call1 (f := 9) rfl rfl (hc) rfl rfl rfl ?_; simp [sysV, htl, htl', ht0, hN0, hz, iv])
    | (refine AS_call1 (f := 5) rfl rfl (c_live) rfl rfl rfl ?_; simp [sysV, htl, htl', ht0, hN0, hz, iv])
    | (apply hK; clear hK K)
    | (refine AWh (by assumption) ?_))
          all_goals exact retq1 (conv_eq rfl rfl)
      · have htl' : ¬ (t.length : Int) = N := by omega
        repeat' (first
    | refine AW_seq_k fun K hK => ?_
    | refine AW_block ?_
    | refine AW_skip ?_
    | refine AW_exit ?_
    | refine AW_ret ?_
    | refine AW_scope ?_
    | refine AW_label ?_
    | refine SScope_normal ?_
    | refine SScope_ret ?_
    | refine SScope_exit ?_
    | refine SThen_normal ?_
    | refine SThen_ret ?_
    | refine SThen_exit ?_
    | refine SBlock_normal ?_
    | refine SBlock_ret ?_
    | refine SBlock_exit ?_
    | refine SBlock_exit_ne (by decide) ?_
    | (refine AW_region_AO ?_; simp [sysV, htl, htl', iv])
    | (refine AOg_split_notdec (fun h => ?_) (fun h => ?_) <;> (simp [h, sysV, htl, htl', iv]))
    | (refine AOg_split_dec (fun h => ?_) (fun h => ?_) <;> (simp [h, sysV, htl, htl', iv]))
    | (refine AOg_split_not (fun h => ?_) (fun h => ?_) <;> (simp [h, sysV, htl, htl', iv]))
    | (refine AOg_split (fun h => ?_) (fun h => ?_) <;> (simp [h, sysV, htl, htl', iv]))
    | refine AW_cond_t rfl ?_
    | refine AW_cond_f rfl ?_
    | refine AW_cond_notdec rfl (fun h => ?_) (fun h => ?_)
    | refine AW_cond_dec rfl (fun h => ?_) (fun h => ?_)
    | refine AW_cond_not rfl (fun h => ?_) (fun h => ?_)
    | refine AW_cond rfl (fun h => ?_) (fun h => ?_)
    | (refine APg_split_notdec (fun h => ?_) (fun h => ?_) <;> (simp [h, sysV, htl, htl', iv]))
    | (refine APg_split_dec (fun h => ?_) (fun h => ?_) <;> (simp [h, sysV, htl, htl', iv]))
    | (refine APg_split_not (fun h => ?_) (fun h => ?_) <;> (simp [h, sysV, htl, htl', iv]))
    | (refine APg_split (fun h => ?_) (fun h => ?_) <;> (simp [h, sysV, htl, htl', iv]))
    | (refine AS_call1 (f := 9) rfl rfl (hc) rfl rfl rfl ?_; simp [sysV, htl, htl', iv])
    | (refine AS_call1 (f := 5) rfl rfl (c_live) rfl rfl rfl ?_; simp [sysV, htl, htl', iv])
    | (apply hK; clear hK K)
    | (refine AWh (by assumption) ?_))
        all_goals exact retq1 (conv_eq rfl rfl)
  · have hc : PC 9 [.int .i64 n, dv l] (.tup [.nils, .int .i64 0, .int .i64 (wrongE n l)]) := by have := hleast; simpa [leastV, hok] using this
    have h27 : wrongE n l = 2 ∨ wrongE n l = 7 := by
      unfold wrongE at hok ⊢
      split
      · exact .inl rfl
      · rename_i h; rw [if_neg h] at hok; split at hok
        · exact absurd rfl hok
        · rename_i h2; rw [if_neg h2]; exact .inr rfl
    rcases h27 with h27 | h27
    all_goals
      rw [h27] at hc
      repeat' (first
    | refine AW_seq_k fun K hK => ?_
    | refine AW_block ?_
    | refine AW_skip ?_
    | refine AW_exit ?_
    | refine AW_ret ?_
    | refine AW_scope ?_
    | refine AW_label ?_
    | refine SScope_normal ?_
    | refine SScope_ret ?_
    | refine SScope_exit ?_
    | refine SThen_normal ?_
    | refine SThen_ret ?_
    | refine SThen_exit ?_
    | refine SBlock_normal ?_
    | refine SBlock_ret ?_
    | refine SBlock_exit ?_
    | refine SBlock_exit_ne (by decide) ?_
    | (refine AW_region_AO ?_; simp [sysV])
    | (refine AOg_split_notdec (fun h => ?_) (fun h => ?_) <;> (simp [h, sysV]))
    | (refine AOg_split_dec (fun h => ?_) (fun h => ?_) <;> (simp [h, sysV]))
    | (refine AOg_split_not (fun h => ?_) (fun h => ?_) <;> (simp [h, sysV]))
    | (refine AOg_split (fun h => ?_) (fun h => ?_) <;> (simp [h, sysV]))
    | refine AW_cond_t rfl ?_
    | refine AW_cond_f rfl ?_
    | refine AW_cond_notdec rfl (fun h => ?_) (fun h => ?_)
    | refine AW_cond_dec rfl (fun h => ?_) (fun h => ?_)
    | refine AW_cond_not rfl (fun h => ?_) (fun h => ?_)
    | refine AW_cond rfl (fun h => ?_) (fun h => ?_)
    | (refine APg_split_notdec (fun h => ?_) (fun h => ?_) <;> (simp [h, sysV]))
    | (refine APg_split_dec (fun h => ?_) (fun h => ?_) <;> (simp [h, sysV]))
    | (refine APg_split_not (fun h => ?_) (fun h => ?_) <;> (simp [h, sysV]))
    | (refine APg_split (fun h => ?_) (fun h => ?_) <;> (simp [h, sysV]))
    | (refine AS_call1 (f := 9) rfl rfl (hc) rfl rfl rfl ?_; simp [sysV])
    | (refine AS_call1 (f := 5) rfl rfl (c_live) rfl rfl rfl ?_; simp [sysV])
    | (apply hK; clear hK K)
    | (refine AWh (by assumption) ?_))
      exact retq1 (conv_eq (by simp) rfl)
end Go.Proofs.Ytgmlimipejcpgaa
