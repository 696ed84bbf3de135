/-
  YtgmlimipejcpgaaGreatDoorLj33: steps of the proof of a law of the program: what these texts prove holds under the hypotheses that their theorems name, and no others.
-/
import Derived.Test.YtgmlimipejcpgaaGreatDoorLj32
section
set_option linter.unusedSimpArgs false
set_option linter.unusedVariables false
namespace Go.Proofs.YtgmlimipejcpgaaGreatDoor
open Go Go.AM Fx
set_option maxRecDepth 20000 in
set_option maxHeartbeats 16000000 in
theorem r_most (A C : List (List (List Int))) (hA : planOk A) (hs : Shp A C) : PC 119 [halfV A, halfV C] (halfV (mxP A C)) := by
  have hal := hA.1
  have hcl := hs.len
  have ra : (rows3V A).length = A.length := rows3V_len
  have rm : (rows3V C).length = C.length := rows3V_len
  have hpl : (mxP A C).length = A.length := by simp [mxP]; omega
  unfold halfV
  refine pB Tryz.func119 rfl (by decide) Tryz.ntmps119 (by simp) Tryz.results119 ?_
  repeat' (first
 |refine aK fun K hK=>?_|refine Step.by1 ?_|refine sE (by decide) ?_|refine cz rfl ?_|refine Fork.by2 (fun h=>?_) fun h=>?_
 |(refine aR ?_;simp [ra, rm])
 |(refine Split.by2 (fun h=>?_) (fun h=>?_)<;>(simp [h, ra, rm]))
 |(apply hK;clear hK K)|refine AWh ‹_› ?_)
  refine AW_nilrow 5 54 rfl (by simp) ?_
  refine aL [0, 1] (fun i : Nat => [(5, .ref 0 i 0 i), (6, .int .i64 i)]) (fun i => [.row 54 i 0 true (rows3V ((mxP A C).take i))]) (fun i => i ≤ A.length) (fun i => A.length - i) 0 (Nat.zero_le _) (by apply Weak.mk' <;> simp [rows3V]) (fun _ _ => rfl) ?_
  intro i hi
  by_cases hlt : i < A.length
  · obtain ⟨Q, hQQ⟩ : ∃ Q, A[i] = Q := ⟨_, rfl⟩
    have hlc : i < C.length := by omega
    obtain ⟨R, hRR⟩ : ∃ R, C[i] = R := ⟨_, rfl⟩
    have hlt' : (i : Int) < A.length := by omega
    have hlc' : (i : Int) < C.length := by omega
    have w1 : IntKind.i64.wrap ((i : Int) + 1) = i + 1 := wI (by omega) (by omega)
    have hQ? : A[i]? = some Q := by rw [List.getElem?_eq_getElem hlt, hQQ]
    have hR? : C[i]? = some R := by rw [List.getElem?_eq_getElem hlc, hRR]
    obtain ⟨hqr, hrows⟩ := hs.rows i Q R hQ? hR?
    obtain ⟨hll, hrl⟩ := hA.2 Q (List.mem_of_getElem? hQ?)
    have hby : (i + 1) * 24 ≤ 140737488355328 := by omega
    have hs3 := rows3V_takeS (P := mxP A C) (zip_at (f := mxQ) hQ? hR?)
    have hql : (mxQ Q R).length = Q.length := by simp [mxQ]; omega
    rw [hql] at hs3
    have hl3 : (rows3V ((mxP A C).take i)).length = i := by simp [hpl]; omega
    have a2 := rows3V_get hQ?
    have a3 : (rows3V A)[i]'(by rw [rows3V_len]; exact hlt) = [V.vec (rows2V Q) Q.length] := by have hz := a2; rw [List.getElem?_eq_getElem (by rw [rows3V_len]; exact hlt)] at hz; exact Option.some.inj hz
    have m2 := rows3V_get hR?
    have m3 : (rows3V C)[i]'(by rw [rows3V_len]; exact hlc) = [V.vec (rows2V R) R.length] := by have hz := m2; rw [List.getElem?_eq_getElem (by rw [rows3V_len]; exact hlc)] at hz; exact Option.some.inj hz
    have rb : (rows2V Q).length = Q.length := rows2V_len
    have rn : (rows2V R).length = R.length := rows2V_len
    repeat' (first
 |refine aK fun K hK=>?_|refine Step.by1 ?_|refine sE (by decide) ?_|refine cz rfl ?_|refine Fork.by2 (fun h=>?_) fun h=>?_
 |(refine aR ?_;simp [hlt, hlt', hlc, hlc', a2, a3, m2, m3, ra, rm])
 |(refine Split.by2 (fun h=>?_) (fun h=>?_)<;>(simp [h, hlt, hlt', hlc, hlc', a2, a3, m2, m3, ra, rm]))
 |(apply hK;clear hK K)|refine AWh ‹_› ?_)
    refine AW_nilrow 7 47 rfl (by simp) ?_
    refine aL [0, 1, 5, 6] (fun k : Nat => [(7, .ref 1 k 0 k), (8, .int .i64 k)]) (fun k => [.row 54 i 0 true (rows3V ((mxP A C).take i)), .row 47 k 0 true (rows2V ((mxQ Q R).take k))]) (fun k => k ≤ Q.length) (fun k => Q.length - k) 0 (Nat.zero_le _) (by apply Weak.mk' <;> simp [rows2V]) (fun _ _ => rfl) ?_
    intro k hkk
    by_cases hkq : k < Q.length
    · obtain ⟨x, hxx⟩ : ∃ x, Q[k] = x := ⟨_, rfl⟩
      have hkr : k < R.length := by omega
      obtain ⟨y, hyy⟩ : ∃ y, R[k] = y := ⟨_, rfl⟩
      have hkq' : (k : Int) < Q.length := by omega
      have hkr' : (k : Int) < R.length := by omega
      have w2 : IntKind.i64.wrap ((k : Int) + 1) = k + 1 := wI (by omega) (by omega)
      have hx? : Q[k]? = some x := by rw [List.getElem?_eq_getElem hkq, hxx]
      have hy? : R[k]? = some y := by rw [List.getElem?_eq_getElem hkr, hyy]
      have hxy := hrows k x y hx? hy?
      have hxl := hrl x (List.mem_of_getElem? hx?)
      have hby2 : (k + 1) * 24 ≤ 140737488355328 := by omega
      have hs2 := rows2V_takeS (P := mxQ Q R) (zip_at (f := mxR) hx? hy?)
      have hrl2 : (mxR x y).length = x.length := by simp [mxR]; omega
      rw [hrl2] at hs2
      have hl2 : (rows2V ((mxQ Q R).take k)).length = k := by simp [hql]; omega
      have b2 := rows2V_get hx?
      have b3 : (rows2V Q)[k]'(by rw [rows2V_len]; exact hkq) = [V.vec (ivs x) x.length] := by have hz := b2; rw [List.getElem?_eq_getElem (by rw [rows2V_len]; exact hkq)] at hz; exact Option.some.inj hz
      have n2 := rows2V_get hy?
      have n3 : (rows2V R)[k]'(by rw [rows2V_len]; exact hkr) = [V.vec (ivs y) y.length] := by have hz := n2; rw [List.getElem?_eq_getElem (by rw [rows2V_len]; exact hkr)] at hz; exact Option.some.inj hz
      have ix : (ivs x).length = x.length := ivs_len
      have iy : (ivs y).length = y.length := ivs_len
      repeat' (first
 |refine aK fun K hK=>?_|refine Step.by1 ?_|refine sE (by decide) ?_|refine cz rfl ?_|refine Fork.by2 (fun h=>?_) fun h=>?_
 |(refine aR ?_;simp [hlt, hlt', hlc, hlc', a2, a3, m2, m3, ra, rm, hkq, hkq', hkr, hkr', b2, b3, n2, n3, rb, rn])
 |(refine Split.by2 (fun h=>?_) (fun h=>?_)<;>(simp [h, hlt, hlt', hlc, hlc', a2, a3, m2, m3, ra, rm, hkq, hkq', hkr, hkr', b2, b3, n2, n3, rb, rn]))
 |(apply hK;clear hK K)|refine AWh ‹_› ?_)
      refine AW_nilrow 9 3 rfl (by simp) ?_
      refine aL [0, 1, 5, 6, 7, 8] (fun c : Nat => [(9, .ref 2 c 0 c), (10, .int .i64 c)]) (fun c => [.row 54 i 0 true (rows3V ((mxP A C).take i)), .row 47 k 0 true (rows2V ((mxQ Q R).take k)), .row 3 c 0 true (ivs ((mxR x y).take c))]) (fun c => c ≤ x.length) (fun c => x.length - c) 0 (Nat.zero_le _) (by apply Weak.mk' <;> simp [ivs]) (fun _ _ => rfl) ?_
      intro c hcc
      by_cases hcx : c < x.length
      · obtain ⟨u, huu⟩ : ∃ u, x[c] = u := ⟨_, rfl⟩
        have hcy : c < y.length := by omega
        obtain ⟨v, hvv⟩ : ∃ v, y[c] = v := ⟨_, rfl⟩
        have hcx' : (c : Int) < x.length := by omega
        have hcy' : (c : Int) < y.length := by omega
        have w3 : IntKind.i64.wrap ((c : Int) + 1) = c + 1 := wI (by omega) (by omega)
        have hu? : x[c]? = some u := by rw [List.getElem?_eq_getElem hcx, huu]
        have hv? : y[c]? = some v := by rw [List.getElem?_eq_getElem hcy, hvv]
        have hby3 : (c + 1) * 8 ≤ 140737488355328 := by omega
        have hs1 : ivs ((mxR x y).take (c + 1)) = ivs ((mxR x y).take c) ++ [[V.int .i64 (mxI u v)]] := by
          unfold mxR; rw [zip_take hu? hv?]; simp [ivs]
        have hl1 : (ivs ((mxR x y).take c)).length = c := by rw [ivs_len, List.length_take, hrl2]; omega
        have c2 := ivs_get hu?
        have c3 : (ivs x)[c]'(by rw [ivs_len]; exact hcx) = [V.int .i64 u] := by have hz := c2; rw [List.getElem?_eq_getElem (by rw [ivs_len]; exact hcx)] at hz; exact Option.some.inj hz
        have o2 := ivs_get hv?
        have o3 : (ivs y)[c]'(by rw [ivs_len]; exact hcy) = [V.int .i64 v] := by have hz := o2; rw [List.getElem?_eq_getElem (by rw [ivs_len]; exact hcy)] at hz; exact Option.some.inj hz
        generalize ivs ((mxR x y).take c) = RK at *
        unfold mxI at hs1
        by_cases huv : u < v
        · rw [if_pos huv] at hs1
          repeat' (first
 |refine aK fun K hK=>?_|refine Step.by1 ?_|refine sE (by decide) ?_|refine cz rfl ?_|refine Fork.by2 (fun h=>?_) fun h=>?_
 |(refine aR ?_;simp [hlt, hlt', hlc, hlc', a2, a3, m2, m3, ra, rm, hkq, hkq', hkr, hkr', b2, b3, n2, n3, rb, rn, hcx, hcx', hcy, hcy', c2, c3, o2, o3, ix, iy, huv, w3, hl1, hby3])
 |(refine Split.by2 (fun h=>?_) (fun h=>?_)<;>(simp [h, hlt, hlt', hlc, hlc', a2, a3, m2, m3, ra, rm, hkq, hkq', hkr, hkr', b2, b3, n2, n3, rb, rn, hcx, hcx', hcy, hcy', c2, c3, o2, o3, ix, iy, huv, w3, hl1, hby3]))
 |(apply hK;clear hK K)|refine AWh ‹_› ?_)
          refine ⟨c + 1, by omega, by omega, ?_⟩
          rw [hs1]
          apply Weak.mk' <;> simp
        · rw [if_neg huv] at hs1
          repeat' (first
 |refine aK fun K hK=>?_|refine Step.by1 ?_|refine sE (by decide) ?_|refine cz rfl ?_|refine Fork.by2 (fun h=>?_) fun h=>?_
 |(refine aR ?_;simp [hlt, hlt', hlc, hlc', a2, a3, m2, m3, ra, rm, hkq, hkq', hkr, hkr', b2, b3, n2, n3, rb, rn, hcx, hcx', hcy, hcy', c2, c3, o2, o3, ix, iy, huv, w3, hl1, hby3])
 |(refine Split.by2 (fun h=>?_) (fun h=>?_)<;>(simp [h, hlt, hlt', hlc, hlc', a2, a3, m2, m3, ra, rm, hkq, hkq', hkr, hkr', b2, b3, n2, n3, rb, rn, hcx, hcx', hcy, hcy', c2, c3, o2, o3, ix, iy, huv, w3, hl1, hby3]))
 |(apply hK;clear hK K)|refine AWh ‹_› ?_)
          refine ⟨c + 1, by omega, by omega, ?_⟩
          rw [hs1]
          apply Weak.mk' <;> simp
      · obtain rfl : c = x.length := by omega
        have e1 : (mxR x y).take x.length = mxR x y := List.take_of_length_le (by omega)
        rw [e1]
        have hrx : (ivs (mxR x y)).length = x.length := by rw [ivs_len, hrl2]
        generalize ivs (mxR x y) = RX at *
        generalize rows2V ((mxQ Q R).take k) = R2 at *
        repeat' (first
 |refine AW_view 9 rfl rfl (by simp [hrx]) ?_
 |refine aK fun K hK=>?_|refine Step.by1 ?_|refine sE (by decide) ?_|refine cz rfl ?_|refine Fork.by2 (fun h=>?_) fun h=>?_
 |(refine aR ?_;simp [hlt, hlt', hlc, hlc', a2, a3, m2, m3, ra, rm, hkq, hkq', hkr, hkr', b2, b3, n2, n3, rb, rn, w2, hl2, hby2, hrx])
 |(refine Split.by2 (fun h=>?_) (fun h=>?_)<;>(simp [h, hlt, hlt', hlc, hlc', a2, a3, m2, m3, ra, rm, hkq, hkq', hkr, hkr', b2, b3, n2, n3, rb, rn, w2, hl2, hby2, hrx]))
 |(apply hK;clear hK K)|refine AWh ‹_› ?_)
        refine ⟨k + 1, by omega, by omega, ?_⟩
        rw [hs2]
        apply Weak.mk' <;> simp
    · obtain rfl : k = Q.length := by omega
      have e1 : (mxQ Q R).take Q.length = mxQ Q R := List.take_of_length_le (by omega)
      rw [e1]
      have hrx : (rows2V (mxQ Q R)).length = Q.length := by rw [rows2V_len, hql]
      generalize rows2V (mxQ Q R) = RX at *
      generalize rows3V ((mxP A C).take i) = R3 at *
      repeat' (first
 |refine AW_view 7 rfl rfl (by simp [hrx]) ?_
 |refine aK fun K hK=>?_|refine Step.by1 ?_|refine sE (by decide) ?_|refine cz rfl ?_|refine Fork.by2 (fun h=>?_) fun h=>?_
 |(refine aR ?_;simp [hlt, hlt', hlc, hlc', a2, a3, m2, m3, ra, rm, rb, rn, w1, hl3, hby, hrx])
 |(refine Split.by2 (fun h=>?_) (fun h=>?_)<;>(simp [h, hlt, hlt', hlc, hlc', a2, a3, m2, m3, ra, rm, rb, rn, w1, hl3, hby, hrx]))
 |(apply hK;clear hK K)|refine AWh ‹_› ?_)
      refine ⟨i + 1, by omega, by omega, ?_⟩
      rw [hs3]
      apply Weak.mk' <;> simp
  · obtain rfl : i = A.length := by omega
    have e1 : (mxP A C).take A.length = mxP A C := List.take_of_length_le (by omega)
    rw [e1, hpl]
    have hrx : (rows3V (mxP A C)).length = A.length := by rw [rows3V_len, hpl]
    generalize rows3V (mxP A C) = RX at *
    repeat' (first
 |refine AW_view 5 rfl rfl (by simp [hrx]) ?_
 |refine aK fun K hK=>?_|refine Step.by1 ?_|refine sE (by decide) ?_|refine cz rfl ?_|refine Fork.by2 (fun h=>?_) fun h=>?_
 |(refine aR ?_;simp [hrx])
 |(refine Split.by2 (fun h=>?_) (fun h=>?_)<;>(simp [h, hrx]))
 |(apply hK;clear hK K)|refine AWh ‹_› ?_)
    exact r1q (cE (by simp [hpl]) (by simp))
set_option maxRecDepth 20000 in
set_option maxHeartbeats 16000000 in
theorem r_alikeP (A C : List (List (List Int))) (hA : planOk A) : PC 177 [halfV A, halfV C] (.bool (alikeP A C)) := by
  obtain ⟨res, hres⟩ : ∃ r, alikeP A C = r := ⟨_, rfl⟩
  rw [hres]
  unfold alikeP at hres
  have hal := hA.1
  have ra : (rows3V A).length = A.length := rows3V_len
  have rm : (rows3V C).length = C.length := rows3V_len
  unfold halfV
  by_cases hlen : A.length = C.length
  · have hlen' : (A.length : Int) = C.length := by omega
    refine pB Tryz.func177 rfl (by decide) Tryz.ntmps177 (by simp) Tryz.results177 ?_
    repeat' (first
 |refine aK fun K hK=>?_|refine Step.by1 ?_|refine sE (by decide) ?_|refine cz rfl ?_|refine Fork.by2 (fun h=>?_) fun h=>?_
 |(refine aR ?_;simp [ra, rm, hlen'])
 |(refine Split.by2 (fun h=>?_) (fun h=>?_)<;>(simp [h, ra, rm, hlen']))
 |(apply hK;clear hK K)|refine AWh ‹_› ?_)
    refine aL [0, 1] (fun i : Nat => [(5, .int .i64 i)]) (fun _ => []) (fun i => i ≤ A.length ∧ eqF alikeQ (A.drop i) (C.drop i) = res) (fun i => A.length - i) 0 ⟨Nat.zero_le _, hres⟩ (by apply Weak.mk' <;> simp) (fun _ _ => rfl) ?_
    clear hres
    rintro i ⟨hi, hk⟩
    by_cases hlt : i < A.length
    · obtain ⟨Q, hQQ⟩ : ∃ Q, A[i] = Q := ⟨_, rfl⟩
      have hlc : i < C.length := by omega
      obtain ⟨R, hRR⟩ : ∃ R, C[i] = R := ⟨_, rfl⟩
      rw [List.drop_eq_getElem_cons hlt, List.drop_eq_getElem_cons hlc, hQQ, hRR, eqF] at hk
      have hlt' : (i : Int) < A.length := by omega
      have hlc' : (i : Int) < C.length := by omega
      have w1 : IntKind.i64.wrap ((i : Int) + 1) = i + 1 := wI (by omega) (by omega)
      have hQ? : A[i]? = some Q := by rw [List.getElem?_eq_getElem hlt, hQQ]
      have hR? : C[i]? = some R := by rw [List.getElem?_eq_getElem hlc, hRR]
      obtain ⟨hll, hrl⟩ := hA.2 Q (List.mem_of_getElem? hQ?)
      have a2 := rows3V_get hQ?
      have a3 : (rows3V A)[i]'(by rw [rows3V_len]; exact hlt) = [V.vec (rows2V Q) Q.length] := by have hz := a2; rw [List.getElem?_eq_getElem (by rw [rows3V_len]; exact hlt)] at hz; exact Option.some.inj hz
      have m2 := rows3V_get hR?
      have m3 : (rows3V C)[i]'(by rw [rows3V_len]; exact hlc) = [V.vec (rows2V R) R.length] := by have hz := m2; rw [List.getElem?_eq_getElem (by rw [rows3V_len]; exact hlc)] at hz; exact Option.some.inj hz
      have rb : (rows2V Q).length = Q.length := rows2V_len
      have rn : (rows2V R).length = R.length := rows2V_len
      generalize hrest : eqF alikeQ (A.drop (i + 1)) (C.drop (i + 1)) = rest at hk
      unfold alikeQ at hk
      by_cases hqr : Q.length = R.length
      · have hqr' : (Q.length : Int) = R.length := by omega
        repeat' (first
 |refine aK fun K hK=>?_|refine Step.by1 ?_|refine sE (by decide) ?_|refine cz rfl ?_|refine Fork.by2 (fun h=>?_) fun h=>?_
 |((first|refine aR ?_|refine aX (id:=6) 11 mixed (by decide) ?_);simp [hlt, hlt', hlc, hlc', a2, a3, m2, m3, ra, rm, rb, rn, hqr'])
 |(refine Split.by2 (fun h=>?_) (fun h=>?_)<;>(simp [h, hlt, hlt', hlc, hlc', a2, a3, m2, m3, ra, rm, rb, rn, hqr']))
 |(apply hK;clear hK K)|refine AWh ‹_› ?_)
        refine aL [0, 1, 5] (fun k : Nat => [(6, .int .i64 k)]) (fun _ => []) (fun k => k ≤ Q.length ∧ (eqF lenB (Q.drop k) (R.drop k) && rest) = res) (fun k => Q.length - k) 0 ⟨Nat.zero_le _, hk⟩ (by apply Weak.mk' <;> simp) (fun _ _ => rfl) ?_
        clear hk
        rintro k ⟨hkk, hk⟩
        by_cases hkq : k < Q.length
        · obtain ⟨x, hxx⟩ : ∃ x, Q[k] = x := ⟨_, rfl⟩
          have hkr : k < R.length := by omega
          obtain ⟨y, hyy⟩ : ∃ y, R[k] = y := ⟨_, rfl⟩
          rw [List.drop_eq_getElem_cons hkq, List.drop_eq_getElem_cons hkr, hxx, hyy, eqF] at hk
          have hkq' : (k : Int) < Q.length := by omega
          have hkr' : (k : Int) < R.length := by omega
          have w2 : IntKind.i64.wrap ((k : Int) + 1) = k + 1 := wI (by omega) (by omega)
          have hx? : Q[k]? = some x := by rw [List.getElem?_eq_getElem hkq, hxx]
          have hy? : R[k]? = some y := by rw [List.getElem?_eq_getElem hkr, hyy]
          have b2 := rows2V_get hx?
          have b3 : (rows2V Q)[k]'(by rw [rows2V_len]; exact hkq) = [V.vec (ivs x) x.length] := by have hz := b2; rw [List.getElem?_eq_getElem (by rw [rows2V_len]; exact hkq)] at hz; exact Option.some.inj hz
          have n2 := rows2V_get hy?
          have n3 : (rows2V R)[k]'(by rw [rows2V_len]; exact hkr) = [V.vec (ivs y) y.length] := by have hz := n2; rw [List.getElem?_eq_getElem (by rw [rows2V_len]; exact hkr)] at hz; exact Option.some.inj hz
          have ix : (ivs x).length = x.length := ivs_len
          have iy : (ivs y).length = y.length := ivs_len
          unfold lenB at hk
          by_cases hxy : x.length = y.length
          · have hxy' : (x.length : Int) = y.length := by omega
            rw [decide_eq_true hxy, Bool.true_and] at hk
            repeat' (first
 |refine aK fun K hK=>?_|refine Step.by1 ?_|refine sE (by decide) ?_|refine cz rfl ?_|refine Fork.by2 (fun h=>?_) fun h=>?_
 |((first|refine aR ?_|refine aX (id:=11) 17 mixed (by decide) ?_);simp [hlt, hlt', hlc, hlc', a2, a3, m2, m3, ra, rm, hkq, hkq', hkr, hkr', b2, b3, n2, n3, rb, rn, ix, iy, hxy', w2])
 |(refine Split.by2 (fun h=>?_) (fun h=>?_)<;>(simp [h, hlt, hlt', hlc, hlc', a2, a3, m2, m3, ra, rm, hkq, hkq', hkr, hkr', b2, b3, n2, n3, rb, rn, ix, iy, hxy', w2]))
 |(apply hK;clear hK K)|refine AWh ‹_› ?_)
            refine ⟨k + 1, ⟨by omega, hk⟩, by omega, ?_⟩
            apply Weak.mk' <;> simp
          · have hxy' : ¬ (x.length : Int) = y.length := by omega
            rw [decide_eq_false hxy] at hk
            have hk : false = res := by simpa using hk
            repeat' (first
 |refine aK fun K hK=>?_|refine Step.by1 ?_|refine sE (by decide) ?_|refine cz rfl ?_|refine Fork.by2 (fun h=>?_) fun h=>?_
 |((first|refine aR ?_|refine aX (id:=11) 17 mixed (by decide) ?_);simp [hlt, hlt', hlc, hlc', a2, a3, m2, m3, ra, rm, hkq, hkq', hkr, hkr', b2, b3, n2, n3, rb, rn, ix, iy, hxy'])
 |(refine Split.by2 (fun h=>?_) (fun h=>?_)<;>(simp [h, hlt, hlt', hlc, hlc', a2, a3, m2, m3, ra, rm, hkq, hkq', hkr, hkr', b2, b3, n2, n3, rb, rn, ix, iy, hxy']))
 |(apply hK;clear hK K)|refine AWh ‹_› ?_)
            exact r1q (cE (by simp [← hk]) rfl)
        · obtain rfl : k = Q.length := by omega
          rw [List.drop_length, hqr, List.drop_length, eqF, Bool.true_and] at hk
          subst hrest
          repeat' (first
 |refine aK fun K hK=>?_|refine Step.by1 ?_|refine sE (by decide) ?_|refine cz rfl ?_|refine Fork.by2 (fun h=>?_) fun h=>?_
 |(refine aR ?_;simp [hlt, hlt', hlc, hlc', a2, a3, m2, m3, ra, rm, rb, rn, w1])
 |(refine Split.by2 (fun h=>?_) (fun h=>?_)<;>(simp [h, hlt, hlt', hlc, hlc', a2, a3, m2, m3, ra, rm, rb, rn, w1]))
 |(apply hK;clear hK K)|refine AWh ‹_› ?_)
          refine ⟨i + 1, ⟨by omega, hk⟩, by omega, ?_⟩
          apply Weak.mk' <;> simp
      · have hqr' : ¬ (Q.length : Int) = R.length := by omega
        rw [eqF_ne hqr] at hk
        have hk : false = res := by simpa using hk
        repeat' (first
 |refine aK fun K hK=>?_|refine Step.by1 ?_|refine sE (by decide) ?_|refine cz rfl ?_|refine Fork.by2 (fun h=>?_) fun h=>?_
 |((first|refine aR ?_|refine aX (id:=6) 11 mixed (by decide) ?_);simp [hlt, hlt', hlc, hlc', a2, a3, m2, m3, ra, rm, rb, rn, hqr'])
 |(refine Split.by2 (fun h=>?_) (fun h=>?_)<;>(simp [h, hlt, hlt', hlc, hlc', a2, a3, m2, m3, ra, rm, rb, rn, hqr']))
 |(apply hK;clear hK K)|refine AWh ‹_› ?_)
        exact r1q (cE (by simp [← hk]) rfl)
    · obtain rfl : i = A.length := by omega
      rw [List.drop_length, hlen, List.drop_length, eqF] at hk
      repeat' (first
 |refine aK fun K hK=>?_|refine Step.by1 ?_|refine sE (by decide) ?_|refine cz rfl ?_|refine Fork.by2 (fun h=>?_) fun h=>?_
 |(refine aR ?_;simp)
 |(refine Split.by2 (fun h=>?_) (fun h=>?_)<;>(simp [h]))
 |(apply hK;clear hK K)|refine AWh ‹_› ?_)
      exact r1q (cE (by simp [← hk]) rfl)
  · have hlen' : ¬ (A.length : Int) = C.length := by omega
    rw [eqF_ne hlen] at hres
    refine pB Tryz.func177 rfl (by decide) Tryz.ntmps177 (by simp) Tryz.results177 ?_
    repeat' (first
 |refine aK fun K hK=>?_|refine Step.by1 ?_|refine sE (by decide) ?_|refine cz rfl ?_|refine Fork.by2 (fun h=>?_) fun h=>?_
 |(refine aR ?_;simp [hlen'])
 |(refine Split.by2 (fun h=>?_) (fun h=>?_)<;>(simp [h, hlen']))
 |(apply hK;clear hK K)|refine AWh ‹_› ?_)
    exact r1q (cE (by simp [← hres]) rfl)
def alikeE (A1 A2 C1 C2 : List (List (List Int))) : Bool := alikeP A1 C1 && alikeP A2 C2
theorem r_Alike (A1 A2 C1 C2 : List (List (List Int))) (h1 : planOk A1) (h2 : planOk A2) : PC 118 [.agg [halfV A1, halfV A2], .agg [halfV C1, halfV C2]] (.bool (alikeE A1 A2 C1 C2)) := by
  have c1 := r_alikeP A1 C1 h1
  have c2 := r_alikeP A2 C2 h2
  unfold alikeE
  generalize alikeP A1 C1 = b1 at *
  generalize alikeP A2 C2 = b2 at *
  simp only [halfV] at c1 c2 ⊢
  refine pB Tryz.func118 rfl (by decide) Tryz.ntmps118 (by simp) Tryz.results118 ?_
  cases b1
  · repeat' (first
 |refine aK fun K hK=>?_|refine Step.by1 ?_|refine sE (by decide) ?_|refine cz rfl ?_|refine Fork.by2 (fun h=>?_) fun h=>?_
 |((first|refine aR ?_|refine aC (f:=177) rfl rfl (c1) rfl rfl rfl ?_);simp)
 |(refine Split.by2 (fun h=>?_) (fun h=>?_)<;>(simp [h]))
 |(apply hK;clear hK K)|refine AWh ‹_› ?_)
    exact r1q (cE rfl rfl)
  · repeat' (first
 |refine aK fun K hK=>?_|refine Step.by1 ?_|refine sE (by decide) ?_|refine cz rfl ?_|refine Fork.by2 (fun h=>?_) fun h=>?_
 |((first|refine aR ?_|refine aC (f:=177) rfl rfl (c1) rfl rfl rfl ?_|refine aC (f:=177) rfl rfl (c2) rfl rfl rfl ?_);simp)
 |(refine Split.by2 (fun h=>?_) (fun h=>?_)<;>(simp [h]))
 |(apply hK;clear hK K)|refine AWh ‹_› ?_)
    exact r1q (cE rfl rfl)
def widE (A1 A2 C1 C2 : List (List (List Int))) : Bool := alikeP A1 C1 && alikeP A2 C2 && widerP A1 C1 && widerP A2 C2
theorem r_Wider (A1 A2 C1 C2 : List (List (List Int))) (h1 : planOk A1) (h2 : planOk A2) : PC 54 [.agg [halfV A1, halfV A2], .agg [halfV C1, halfV C2]] (.bool (widE A1 A2 C1 C2)) := by
  have c0 := r_Alike A1 A2 C1 C2 h1 h2
  have c1 := fun hs => r_widerP A1 C1 h1 hs
  have c2 := fun hs => r_widerP A2 C2 h2 hs
  unfold widE
  unfold alikeE at c0
  have k1 := alikeP_iff (A := A1) (C := C1)
  have k2 := alikeP_iff (A := A2) (C := C2)
  generalize alikeP A1 C1 = b1 at *
  generalize alikeP A2 C2 = b2 at *
  cases b1
  · simp only [halfV] at c0 ⊢
    refine pB Tryz.func54 rfl (by decide) Tryz.ntmps54 (by simp) Tryz.results54 ?_
    repeat' (first
 |refine aK fun K hK=>?_|refine Step.by1 ?_|refine sE (by decide) ?_|refine cz rfl ?_|refine Fork.by2 (fun h=>?_) fun h=>?_
 |((first|refine aR ?_|refine aC (f:=118) rfl rfl (c0) rfl rfl rfl ?_);simp)
 |(refine Split.by2 (fun h=>?_) (fun h=>?_)<;>(simp [h]))
 |(apply hK;clear hK K)|refine AWh ‹_› ?_)
    exact r1q (cE rfl rfl)
  · cases b2
    · simp only [halfV] at c0 ⊢
      refine pB Tryz.func54 rfl (by decide) Tryz.ntmps54 (by simp) Tryz.results54 ?_
      repeat' (first
 |refine aK fun K hK=>?_|refine Step.by1 ?_|refine sE (by decide) ?_|refine cz rfl ?_|refine Fork.by2 (fun h=>?_) fun h=>?_
 |((first|refine aR ?_|refine aC (f:=118) rfl rfl (c0) rfl rfl rfl ?_);simp)
 |(refine Split.by2 (fun h=>?_) (fun h=>?_)<;>(simp [h]))
 |(apply hK;clear hK K)|refine AWh ‹_› ?_)
      exact r1q (cE rfl rfl)
    · have d1 := c1 (k1.1 rfl)
      have d2 := c2 (k2.1 rfl)
      generalize widerP A1 C1 = b3 at *
      generalize widerP A2 C2 = b4 at *
      simp only [halfV] at c0 d1 d2 ⊢
      refine pB Tryz.func54 rfl (by decide) Tryz.ntmps54 (by simp) Tryz.results54 ?_
      cases b3
      · repeat' (first
 |refine aK fun K hK=>?_|refine Step.by1 ?_|refine sE (by decide) ?_|refine cz rfl ?_|refine Fork.by2 (fun h=>?_) fun h=>?_
 |((first|refine aR ?_|refine aC (f:=118) rfl rfl (c0) rfl rfl rfl ?_|refine aC (f:=126) rfl rfl (d1) rfl rfl rfl ?_);simp)
 |(refine Split.by2 (fun h=>?_) (fun h=>?_)<;>(simp [h]))
 |(apply hK;clear hK K)|refine AWh ‹_› ?_)
        exact r1q (cE rfl rfl)
      · repeat' (first
 |refine aK fun K hK=>?_|refine Step.by1 ?_|refine sE (by decide) ?_|refine cz rfl ?_|refine Fork.by2 (fun h=>?_) fun h=>?_
 |((first|refine aR ?_|refine aC (f:=118) rfl rfl (c0) rfl rfl rfl ?_|refine aC (f:=126) rfl rfl (d1) rfl rfl rfl ?_|refine aC (f:=126) rfl rfl (d2) rfl rfl rfl ?_);simp)
 |(refine Split.by2 (fun h=>?_) (fun h=>?_)<;>(simp [h]))
 |(apply hK;clear hK K)|refine AWh ‹_› ?_)
        exact r1q (cE rfl rfl)
theorem c_Wider (A1 A2 C1 C2 : List (List (List Int))) (h1 : planOk A1) (h2 : planOk A2) : PC 53 [.agg [halfV A1, halfV A2], .agg [halfV C1, halfV C2]] (.bool (widE A1 A2 C1 C2)) := by
  have c1 := c_alikeP A1 C1 h1
  have c2 := c_alikeP A2 C2 h2
  have d1 := fun hs => c_widerP A1 C1 h1 hs
  have d2 := fun hs => c_widerP A2 C2 h2 hs
  unfold widE
  have k1 := alikeP_iff (A := A1) (C := C1)
  have k2 := alikeP_iff (A := A2) (C := C2)
  generalize alikeP A1 C1 = b1 at *
  generalize alikeP A2 C2 = b2 at *
  cases b1
  · simp only [halfV] at c1 ⊢
    refine pB Tryz.func53 rfl (by decide) Tryz.ntmps53 (by simp) Tryz.results53 ?_
    repeat' (first
 |refine aK fun K hK=>?_|refine Step.by1 ?_|refine sE (by decide) ?_|refine cz rfl ?_|refine Fork.by2 (fun h=>?_) fun h=>?_
 |((first|refine aR ?_|refine aC (f:=116) rfl rfl (c1) rfl rfl rfl ?_);simp)
 |(refine Split.by2 (fun h=>?_) (fun h=>?_)<;>(simp [h]))
 |(apply hK;clear hK K)|refine AWh ‹_› ?_)
    exact r1q (cE rfl rfl)
  · cases b2
    · simp only [halfV] at c1 c2 ⊢
      refine pB Tryz.func53 rfl (by decide) Tryz.ntmps53 (by simp) Tryz.results53 ?_
      repeat' (first
 |refine aK fun K hK=>?_|refine Step.by1 ?_|refine sE (by decide) ?_|refine cz rfl ?_|refine Fork.by2 (fun h=>?_) fun h=>?_
 |((first|refine aR ?_|refine aC (f:=116) rfl rfl (c1) rfl rfl rfl ?_|refine aC (f:=116) rfl rfl (c2) rfl rfl rfl ?_);simp)
 |(refine Split.by2 (fun h=>?_) (fun h=>?_)<;>(simp [h]))
 |(apply hK;clear hK K)|refine AWh ‹_› ?_)
      exact r1q (cE rfl rfl)
    · have e1 := d1 (k1.1 rfl)
      have e2 := d2 (k2.1 rfl)
      generalize widerP A1 C1 = b3 at *
      generalize widerP A2 C2 = b4 at *
      simp only [halfV] at c1 c2 e1 e2 ⊢
      refine pB Tryz.func53 rfl (by decide) Tryz.ntmps53 (by simp) Tryz.results53 ?_
      cases b3
      · repeat' (first
 |refine aK fun K hK=>?_|refine Step.by1 ?_|refine sE (by decide) ?_|refine cz rfl ?_|refine Fork.by2 (fun h=>?_) fun h=>?_
 |((first|refine aR ?_|refine aC (f:=116) rfl rfl (c1) rfl rfl rfl ?_|refine aC (f:=116) rfl rfl (c2) rfl rfl rfl ?_|refine aC (f:=125) rfl rfl (e1) rfl rfl rfl ?_);simp)
 |(refine Split.by2 (fun h=>?_) (fun h=>?_)<;>(simp [h]))
 |(apply hK;clear hK K)|refine AWh ‹_› ?_)
        exact r1q (cE rfl rfl)
      · repeat' (first
 |refine aK fun K hK=>?_|refine Step.by1 ?_|refine sE (by decide) ?_|refine cz rfl ?_|refine Fork.by2 (fun h=>?_) fun h=>?_
 |((first|refine aR ?_|refine aC (f:=116) rfl rfl (c1) rfl rfl rfl ?_|refine aC (f:=116) rfl rfl (c2) rfl rfl rfl ?_|refine aC (f:=125) rfl rfl (e1) rfl rfl rfl ?_|refine aC (f:=125) rfl rfl (e2) rfl rfl rfl ?_);simp)
 |(refine Split.by2 (fun h=>?_) (fun h=>?_)<;>(simp [h]))
 |(apply hK;clear hK K)|refine AWh ‹_› ?_)
        exact r1q (cE rfl rfl)
structure PlanD where
  lo : List (List (List Int))
  up : List (List (List Int))
def PlanD.ok (p : PlanD) : Prop := planOk p.lo ∧ planOk p.up
def PlanD.cells (p : PlanD) : List V := [halfV p.lo, halfV p.up]
@[simp] theorem PlanD.cells_len (x : PlanD) : x.cells.length = 2 := rfl
def okPlans (l : List PlanD) : Prop := l.length ≤ 1048576 ∧ ∀ p ∈ l, p.ok
theorem shp_mx {A C D : List (List (List Int))} (h1 : Shp A C) (h2 : Shp A D) : Shp (mxP A C) D := by
  have hl := h1.len
  refine ⟨by simp [mxP]; have := h2.len; omega, fun i Q R hQ hR => ?_⟩
  have hi : i < D.length := (List.getElem?_eq_some_iff.1 hR).1
  have hA? := List.getElem?_eq_getElem (l := A) (i := i) (by have := h2.len; omega)
  have hC? := List.getElem?_eq_getElem (l := C) (i := i) (by have := h2.len; omega)
  have hz := zip_at (f := mxQ) hA? hC?
  unfold mxP at hQ
  rw [hz] at hQ; cases hQ
  obtain ⟨a1, a2⟩ := h1.rows i _ _ hA? hC?
  obtain ⟨b1, b2⟩ := h2.rows i _ _ hA? hR
  generalize A[i]'(by have := h2.len; omega) = QA at *
  generalize C[i]'(by have := h2.len; omega) = QC at *
  refine ⟨by simp [mxQ]; omega, fun k x y hx hy => ?_⟩
  have hk : k < R.length := (List.getElem?_eq_some_iff.1 hy).1
  have ha? := List.getElem?_eq_getElem (l := QA) (i := k) (by omega)
  have hc? := List.getElem?_eq_getElem (l := QC) (i := k) (by omega)
  have hz2 := zip_at (f := mxR) ha? hc?
  unfold mxQ at hx
  rw [hz2] at hx; cases hx
  have e1 := a2 k _ _ ha? hc?
  have e2 := b2 k _ _ ha? hy
  simp [mxR]; omega
theorem shp_self {A : List (List (List Int))} : Shp A A := ⟨rfl, fun i Q R hQ hR => by rw [hQ] at hR; cases hR; exact ⟨rfl, fun k x y hx hy => by rw [hx] at hy; cases hy; rfl⟩⟩
theorem ok_mx {A C : List (List (List Int))} (hA : planOk A) : planOk (mxP A C) := by
  refine ⟨by simp [mxP]; have := hA.1; omega, fun Q hQ => ?_⟩
  obtain ⟨i, hi⟩ := List.getElem?_of_mem hQ
  unfold mxP at hi
  rw [List.getElem?_zipWith] at hi
  cases ha : A[i]? with
  | none => rw [ha] at hi; simp at hi
  | some QA =>
    cases hc : C[i]? with
    | none => rw [ha, hc] at hi; simp at hi
    | some QC =>
      rw [ha, hc] at hi
      simp at hi; subst hi
      obtain ⟨h1, h2⟩ := hA.2 QA (List.mem_of_getElem? ha)
      refine ⟨by simp [mxQ]; omega, fun r hr => ?_⟩
      obtain ⟨k, hk⟩ := List.getElem?_of_mem hr
      unfold mxQ at hk
      rw [List.getElem?_zipWith] at hk
      cases hx : QA[k]? with
      | none => rw [hx] at hk; simp at hk
      | some x =>
        cases hy : QC[k]? with
        | none => rw [hx, hy] at hk; simp at hk
        | some y =>
          rw [hx, hy] at hk
          simp at hk; subst hk
          have := h2 x (List.mem_of_getElem? hx)
          simp [mxR]; omega
/-- One half of plans that are joined. -/
def joinH (A : List (List (List Int))) (l : List (List (List (List Int)))) : List (List (List Int)) := l.foldl mxP (mxP A A)
theorem joinH_snoc {A C : List (List (List Int))} {l : List (List (List (List Int)))} : joinH A (l ++ [C]) = mxP (joinH A l) C := by simp [joinH]
theorem joinH_shp {A D : List (List (List Int))} (hD : Shp A D) : ∀ {l : List (List (List (List Int)))}, (∀ C ∈ l, Shp A C) → Shp (joinH A l) D := by
  have key : ∀ (l : List (List (List (List Int)))) (X : List (List (List Int))), (∀ E, Shp A E → Shp X E) → (∀ C ∈ l, Shp A C) → ∀ E, Shp A E → Shp (l.foldl mxP X) E := by
    intro l
    induction l with
    | nil => intro X hX _ E hE; exact hX E hE
    | cons C l ih =>
      intro X hX hl E hE
      exact ih (mxP X C) (fun F hF => shp_mx (hX C (hl C (by simp))) (hX F hF)) (fun F hF => hl F (by simp [hF])) E hE
  exact fun {l} hl => key l _ (fun E hE => shp_mx shp_self hE) hl D hD
theorem joinH_ok {A : List (List (List Int))} (hA : planOk A) {l : List (List (List (List Int)))} : planOk (joinH A l) := by
  have key : ∀ (l : List (List (List (List Int)))) (X : List (List (List Int))), planOk X → planOk (l.foldl mxP X) := by
    intro l
    induction l with
    | nil => intro X hX; exact hX
    | cons C l ih => intro X hX; exact ih _ (ok_mx hX)
  exact key l _ (ok_mx hA)
def unlike (a b : PlanD) : Bool := !alikeE a.lo a.up b.lo b.up
theorem unlike_no {a b : PlanD} (h : unlike a b = false) : Shp a.lo b.lo ∧ Shp a.up b.up := by
  unfold unlike alikeE at h
  simp only [Bool.not_eq_false', Bool.and_eq_true] at h
  exact ⟨alikeP_iff.1 h.1, alikeP_iff.1 h.2⟩
theorem take_map_snoc {α β : Type} {f : α → β} {l : List α} {i : Nat} {x : α} (h : l[i]? = some x) : (l.take (i + 1)).map f = (l.take i).map f ++ [f x] := by rw [List.take_add_one, h, List.map_append]; rfl
set_option maxRecDepth 20000 in
set_option maxHeartbeats 16000000 in
theorem r_JoinBad26 (a : PlanD) (ha : a.ok) (l : List PlanD) (hl : okPlans l) (he : anyL (unlike a) l = true) : PC 49 [.agg a.cells, vl PlanD.cells l] (.tup [.agg [.nils, .nils], .int .i64 6]) := by
  have hll := hl.1
  have hc := fun b : PlanD => r_Alike a.lo a.up b.lo b.up ha.1 ha.2
  refine pB Tryz.func49 rfl (by decide) Tryz.ntmps49 (by simp) Tryz.results49 ?_
  simp only [PlanD.cells, halfV] at hc ⊢
  repeat' (first
 |refine aK fun K hK=>?_|refine Step.by1 ?_|refine sE (by decide) ?_|refine cz rfl ?_|refine Fork.by2 (fun h=>?_) fun h=>?_
 |(refine aR ?_;simp [vl])
 |(refine Split.by2 (fun h=>?_) (fun h=>?_)<;>(simp [h, vl]))
 |(apply hK;clear hK K)|refine AWh ‹_› ?_)
  refine aL [1, 2, 4] (fun i : Nat => [(6, .int .i64 i)]) (fun _ => [.var a.cells, .var [.nils, .nils]]) (fun i => i ≤ l.length ∧ anyL (unlike a) (l.drop i) = true) (fun i => l.length - i) 0 ⟨Nat.zero_le _, he⟩ (by apply Weak.mk' <;> simp [vl, PlanD.cells, halfV]) (fun _ _ => rfl) ?_
  clear he
  rintro i ⟨hi, hk⟩
  by_cases hlt : i < l.length
  · obtain ⟨b, hbb⟩ : ∃ b, l[i] = b := ⟨_, rfl⟩
    rw [List.drop_eq_getElem_cons hlt, hbb, anC] at hk
    have hlt' : (i : Int) < l.length := by omega
    have w1 : IntKind.i64.wrap ((i : Int) + 1) = i + 1 := wI (by omega) (by omega)
    have hcb := hc b
    clear hc
    rw [show unlike a b = !alikeE a.lo a.up b.lo b.up from rfl] at hk
    generalize hz : alikeE a.lo a.up b.lo b.up = q at *
    cases q
    · repeat' (first
 |refine aK fun K hK=>?_|refine Step.by1 ?_|refine sE (by decide) ?_|refine cz rfl ?_|refine Fork.by2 (fun h=>?_) fun h=>?_
 |((first|refine aR ?_|refine aX (id:=4) 7 mixed (by decide) ?_|refine aP1 (f:=118) rfl rfl (hcb) rfl rfl rfl ?_);simp [vl, PlanD.cells, halfV, hlt, hlt', hbb])
 |(refine Split.by2 (fun h=>?_) (fun h=>?_)<;>(simp [h, vl, PlanD.cells, halfV, hlt, hlt', hbb]))
 |(apply hK;clear hK K)|refine AWh ‹_› ?_)
      exact retq2ct rfl (by simp) (cE (by simp) (by simp))
    · have hk : anyL (unlike a) (l.drop (i + 1)) = true := by simpa using hk
      repeat' (first
 |refine aK fun K hK=>?_|refine Step.by1 ?_|refine sE (by decide) ?_|refine cz rfl ?_|refine Fork.by2 (fun h=>?_) fun h=>?_
 |((first|refine aR ?_|refine aX (id:=4) 7 mixed (by decide) ?_|refine aP1 (f:=118) rfl rfl (hcb) rfl rfl rfl ?_);simp [vl, PlanD.cells, halfV, hlt, hlt', hbb, w1])
 |(refine Split.by2 (fun h=>?_) (fun h=>?_)<;>(simp [h, vl, PlanD.cells, halfV, hlt, hlt', hbb, w1]))
 |(apply hK;clear hK K)|refine AWh ‹_› ?_)
      refine ⟨i + 1, ⟨by omega, hk⟩, by omega, ?_⟩
      apply Weak.mk' <;> simp [vl, PlanD.cells, halfV]
  · obtain rfl : i = l.length := by omega
    rw [List.drop_length, anyL_nil] at hk; cases hk
set_option maxRecDepth 20000 in
set_option maxHeartbeats 16000000 in
theorem r_Join26 (a : PlanD) (ha : a.ok) (l : List PlanD) (hl : okPlans l) (he : anyL (unlike a) l = false) : PC 49 [.agg a.cells, vl PlanD.cells l] (.tup [.agg [halfV (joinH a.lo (l.map (·.lo))), halfV (joinH a.up (l.map (·.up)))], .int .i64 0]) := by
  have hll := hl.1
  have hsh : ∀ b ∈ l, Shp a.lo b.lo ∧ Shp a.up b.up := fun b hb => unlike_no (by
    cases hq : unlike a b
    · rfl
    · have : anyL (unlike a) l = true := List.any_eq_true.2 ⟨b, hb, hq⟩
      rw [he] at this; cases this)
  have hc := fun b : PlanD => r_Alike a.lo a.up b.lo b.up ha.1 ha.2
  have h0 := r_most a.lo a.lo ha.1 shp_self
  have h1 := r_most a.up a.up ha.2 shp_self
  refine pB Tryz.func49 rfl (by decide) Tryz.ntmps49 (by simp) Tryz.results49 ?_
  simp only [PlanD.cells, halfV] at hc h0 h1 ⊢
  repeat' (first
 |refine aK fun K hK=>?_|refine Step.by1 ?_|refine sE (by decide) ?_|refine cz rfl ?_|refine Fork.by2 (fun h=>?_) fun h=>?_
 |(refine aR ?_;simp [vl])
 |(refine Split.by2 (fun h=>?_) (fun h=>?_)<;>(simp [h, vl]))
 |(apply hK;clear hK K)|refine AWh ‹_› ?_)
  refine aL [1, 2, 4] (fun i : Nat => [(6, .int .i64 i)]) (fun _ => [.var a.cells, .var [.nils, .nils]]) (fun i => i ≤ l.length) (fun i => l.length - i) 0 (Nat.zero_le _) (by apply Weak.mk' <;> simp [vl, PlanD.cells, halfV]) (fun _ _ => rfl) ?_
  intro i hi
  by_cases hlt : i < l.length
  · obtain ⟨b, hbb⟩ : ∃ b, l[i] = b := ⟨_, rfl⟩
    have hlt' : (i : Int) < l.length := by omega
    have w1 : IntKind.i64.wrap ((i : Int) + 1) = i + 1 := wI (by omega) (by omega)
    have hcb := hc b
    obtain ⟨s1, s2⟩ := hsh b (hbb ▸ List.getElem_mem hlt)
    rw [show alikeE a.lo a.up b.lo b.up = true by unfold alikeE; rw [alikeP_iff.2 s1, alikeP_iff.2 s2]; rfl] at hcb
    clear hc
    repeat' (first
 |refine aK fun K hK=>?_|refine Step.by1 ?_|refine sE (by decide) ?_|refine cz rfl ?_|refine Fork.by2 (fun h=>?_) fun h=>?_
 |((first|refine aR ?_|refine aX (id:=4) 7 mixed (by decide) ?_|refine aP1 (f:=118) rfl rfl (hcb) rfl rfl rfl ?_);simp [vl, PlanD.cells, halfV, hlt, hlt', hbb, w1])
 |(refine Split.by2 (fun h=>?_) (fun h=>?_)<;>(simp [h, vl, PlanD.cells, halfV, hlt, hlt', hbb, w1]))
 |(apply hK;clear hK K)|refine AWh ‹_› ?_)
    refine ⟨i + 1, by omega, by omega, ?_⟩
    apply Weak.mk' <;> simp [vl, PlanD.cells, halfV]
  · obtain rfl : i = l.length := by omega
    have e0 : joinH a.lo ((l.take 0).map (·.lo)) = mxP a.lo a.lo := rfl
    have e1 : joinH a.up ((l.take 0).map (·.up)) = mxP a.up a.up := rfl
    rw [← e0] at h0
    rw [← e1] at h1
    repeat' (first
 |refine aK fun K hK=>?_|refine Step.by1 ?_|refine sE (by decide) ?_|refine cz rfl ?_|refine Fork.by2 (fun h=>?_) fun h=>?_
 |(refine aR ?_;simp [vl, PlanD.cells, halfV])
 |(refine Split.by2 (fun h=>?_) (fun h=>?_)<;>(simp [h, vl, PlanD.cells, halfV]))
 | (refine AW_region_APA (id := 6) 12 11 [.nils, .nils] mixed (by decide) (by decide) ?_; simp [vl, PlanD.cells, halfV])
 | (refine APA_nil ?_; simp [vl, PlanD.cells, halfV])
 | (refine APA_alloc (by rfl) rfl ?_; simp [vl, PlanD.cells, halfV])
 | (refine APA_still (by decide) rfl rfl (by simp [vl, PlanD.cells, halfV]) (by simp [Op.operands, Call.operands, vl, PlanD.cells, halfV]) ?_; simp [vl, PlanD.cells, halfV])
 | (refine APA_call (f := 119) (by decide) rfl rfl (h0) rfl rfl rfl (by simp [Op.operands, Call.operands, vl, PlanD.cells, halfV]) ?_; simp [vl, PlanD.cells, halfV])
 | (refine APA_call (f := 119) (by decide) rfl rfl (h1) rfl rfl rfl (by simp [Op.operands, Call.operands, vl, PlanD.cells, halfV]) ?_; simp [vl, PlanD.cells, halfV])
 |(apply hK;clear hK K)|refine AWh ‹_› ?_)
    refine aL [1, 4, 7] (fun i : Nat => [(8, .int .i64 i)]) (fun i => [.var a.cells, .var [.nils, .nils], .var [halfV (joinH a.lo ((l.take i).map (·.lo))), halfV (joinH a.up ((l.take i).map (·.up)))]]) (fun i => i ≤ l.length) (fun i => l.length - i) 0 (Nat.zero_le _) (by apply Weak.mk' <;> simp [vl, PlanD.cells, halfV]) (fun _ _ => rfl) ?_
    clear h0 h1 e0 e1
    intro i hi
    by_cases hlt : i < l.length
    · obtain ⟨b, hbb⟩ : ∃ b, l[i] = b := ⟨_, rfl⟩
      have hb? : l[i]? = some b := by rw [List.getElem?_eq_getElem hlt, hbb]
      have hlt' : (i : Int) < l.length := by omega
      have w1 : IntKind.i64.wrap ((i : Int) + 1) = i + 1 := wI (by omega) (by omega)
      obtain ⟨s1, s2⟩ := hsh b (List.mem_of_getElem? hb?)
      have p0 := r_most (joinH a.lo ((l.take i).map (·.lo))) b.lo (joinH_ok ha.1) (joinH_shp s1 fun C hC => by obtain ⟨z, hz, rfl⟩ := List.mem_map.1 hC; exact (hsh z (List.mem_of_mem_take hz)).1)
      have p1 := r_most (joinH a.up ((l.take i).map (·.up))) b.up (joinH_ok ha.2) (joinH_shp s2 fun C hC => by obtain ⟨z, hz, rfl⟩ := List.mem_map.1 hC; exact (hsh z (List.mem_of_mem_take hz)).2)
      rw [← joinH_snoc, ← take_map_snoc (f := fun p : PlanD => p.lo) hb?] at p0
      rw [← joinH_snoc, ← take_map_snoc (f := fun p : PlanD => p.up) hb?] at p1
      generalize joinH a.lo ((l.take i).map (·.lo)) = X1 at *
      generalize joinH a.up ((l.take i).map (·.up)) = X2 at *
      generalize hY1 : joinH a.lo ((l.take (i + 1)).map (·.lo)) = Y1 at *
      generalize hY2 : joinH a.up ((l.take (i + 1)).map (·.up)) = Y2 at *
      simp only [halfV] at p0 p1 ⊢
      repeat' (first
 |refine aK fun K hK=>?_|refine Step.by1 ?_|refine sE (by decide) ?_|refine cz rfl ?_|refine Fork.by2 (fun h=>?_) fun h=>?_
 |((first|refine aR ?_|refine aX (id:=10) 17 mixed (by decide) ?_|refine aP1 (f:=119) rfl rfl (p0) rfl rfl rfl ?_|refine aP1 (f:=119) rfl rfl (p1) rfl rfl rfl ?_);simp [vl, PlanD.cells, halfV, hlt, hlt', hbb, w1])
 |(refine Split.by2 (fun h=>?_) (fun h=>?_)<;>(simp [h, vl, PlanD.cells, halfV, hlt, hlt', hbb, w1]))
 |(apply hK;clear hK K)|refine AWh ‹_› ?_)
      refine ⟨i + 1, by omega, by omega, ?_⟩
      rw [List.map_take] at hY1 hY2
      rw [hY1, hY2]
      apply Weak.mk' <;> simp [vl, PlanD.cells, halfV]
    · obtain rfl : i = l.length := by omega
      rw [List.take_length]
      repeat' (first
 |refine aK fun K hK=>?_|refine Step.by1 ?_|refine sE (by decide) ?_|refine cz rfl ?_|refine Fork.by2 (fun h=>?_) fun h=>?_
 |(refine aR ?_;simp [vl, PlanD.cells, halfV])
 |(refine Split.by2 (fun h=>?_) (fun h=>?_)<;>(simp [h, vl, PlanD.cells, halfV]))
 |(apply hK;clear hK K)|refine AWh ‹_› ?_)
      exact retq2ct rfl (by simp) (cE (by simp) (by simp))
end Go.Proofs.YtgmlimipejcpgaaGreatDoor
end
