/-
  YtgmlimipejcpgaaDoorLo13: steps of the proof of a law of the program: what these texts prove holds under the hypotheses that their theorems name, and no others.
-/
import Derived.Test.YtgmlimipejcpgaaDoorLo12
section
set_option linter.unusedVariables false
set_option linter.unusedSimpArgs false
namespace Go.Proofs.YtgmlimipejcpgaaDoor
open Go Go.AM Fx
section
variable {α : Type}
theorem eqF_refl {p : α → α → Bool} (h : ∀ x, p x x = true) : ∀ l : List α, eqF p l l = true
  | [] => rfl
  | x :: l => by rw [eqF, h x, eqF_refl h l]; rfl
theorem eqF_trans {p : α → α → Bool} (h : ∀ x y z, p x y = true → p y z = true → p x z = true) : ∀ {l m n : List α}, eqF p l m = true → eqF p m n = true → eqF p l n = true
  | [], [], [], _, _ => rfl
  | [], [], _ :: _, _, h2 => by simp [eqF] at h2
  | [], _ :: _, _, h1, _ => by simp [eqF] at h1
  | _ :: _, [], _, h1, _ => by simp [eqF] at h1
  | _ :: _, _ :: _, [], _, h2 => by simp [eqF] at h2
  | x :: l, y :: m, z :: n, h1, h2 => by
    rw [eqF, Bool.and_eq_true] at h1 h2 ⊢
    exact ⟨h x y z h1.1 h2.1, eqF_trans h h1.2 h2.2⟩
theorem eqF_anti {p : α → α → Bool} (h : ∀ x y, p x y = true → p y x = true → x = y) : ∀ {l m : List α}, eqF p l m = true → eqF p m l = true → l = m
  | [], [], _, _ => rfl
  | [], _ :: _, h1, _ => by simp [eqF] at h1
  | _ :: _, [], h1, _ => by simp [eqF] at h1
  | x :: l, y :: m, h1, h2 => by
    rw [eqF, Bool.and_eq_true] at h1 h2
    rw [h x y h1.1 h2.1, eqF_anti h h1.2 h2.2]
theorem eqF_join {p s : α → α → Bool} {f : α → α → α} (h : ∀ x y, s x y = true → p x (f x y) = true) : ∀ {l m : List α}, eqF s l m = true → eqF p l (List.zipWith f l m) = true
  | [], [], _ => rfl
  | [], _ :: _, h1 => by simp [eqF] at h1
  | _ :: _, [], h1 => by simp [eqF] at h1
  | x :: l, y :: m, h1 => by
    rw [eqF, Bool.and_eq_true] at h1
    rw [List.zipWith_cons_cons, eqF, h x y h1.1, eqF_join h h1.2]; rfl
theorem eqF_least {p : α → α → Bool} {f : α → α → α} (h : ∀ x y z, p x z = true → p y z = true → p (f x y) z = true) : ∀ {l m n : List α}, eqF p l n = true → eqF p m n = true → eqF p (List.zipWith f l m) n = true
  | [], [], [], _, _ => rfl
  | [], _ :: _, [], _, h2 => by simp [eqF] at h2
  | [], _, _ :: _, h1, _ => by simp [eqF] at h1
  | _ :: _, [], [], h1, _ => by simp [eqF] at h1
  | _ :: _, [], _ :: _, _, h2 => by simp [eqF] at h2
  | _ :: _, _ :: _, [], h1, _ => by simp [eqF] at h1
  | x :: l, y :: m, z :: n, h1, h2 => by
    rw [eqF, Bool.and_eq_true] at h1 h2
    rw [List.zipWith_cons_cons, eqF, h x y z h1.1 h2.1, eqF_least h h1.2 h2.2]; rfl
theorem eqF_mono {p s : α → α → Bool} (h : ∀ x y, p x y = true → s x y = true) : ∀ {l m : List α}, eqF p l m = true → eqF s l m = true
  | [], [], _ => rfl
  | [], _ :: _, h1 => by simp [eqF] at h1
  | _ :: _, [], h1 => by simp [eqF] at h1
  | x :: l, y :: m, h1 => by
    rw [eqF, Bool.and_eq_true] at h1 ⊢
    exact ⟨h x y h1.1, eqF_mono h h1.2⟩
theorem zip_comm {f : α → α → α} (h : ∀ x y, f x y = f y x) : ∀ l m : List α, List.zipWith f l m = List.zipWith f m l
  | [], [] => rfl
  | [], _ :: _ => rfl
  | _ :: _, [] => rfl
  | x :: l, y :: m => by rw [List.zipWith_cons_cons, List.zipWith_cons_cons, h x y, zip_comm h l m]
theorem zip_self {f : α → α → α} (h : ∀ x, f x x = x) : ∀ l : List α, List.zipWith f l l = l
  | [] => rfl
  | x :: l => by rw [List.zipWith_cons_cons, h x, zip_self h l]
end
theorem mxI_comm (x y : Int) : mxI x y = mxI y x := by unfold mxI; split <;> split <;> omega
theorem mxI_self (x : Int) : mxI x x = x := by unfold mxI; split <;> rfl
theorem mxP_comm (A C : List (List (List Int))) : mxP A C = mxP C A := zip_comm (fun Q R => zip_comm (fun x y => zip_comm mxI_comm x y) Q R) A C
theorem mxP_self (A : List (List (List Int))) : mxP A A = A := zip_self (fun Q => zip_self (fun x => zip_self mxI_self x) Q) A
theorem joinH_one (A C : List (List (List Int))) : joinH A [C] = mxP A C := by simp [joinH, mxP_self]
theorem leI_trans (x y z : Int) (h1 : leI x y = true) (h2 : leI y z = true) : leI x z = true := by unfold leI at *; simp only [decide_eq_true_eq] at *; omega
theorem leI_anti (x y : Int) (h1 : leI x y = true) (h2 : leI y x = true) : x = y := by unfold leI at *; simp only [decide_eq_true_eq] at *; omega
theorem leI_join (x y : Int) (_ : (fun _ _ : Int => true) x y = true) : leI x (mxI x y) = true := by unfold leI mxI; simp only [decide_eq_true_eq]; split <;> omega
theorem leI_least (x y z : Int) (h1 : leI x z = true) (h2 : leI y z = true) : leI (mxI x y) z = true := by unfold leI mxI at *; simp only [decide_eq_true_eq] at *; split <;> omega
theorem leR_trans (x y z : List Int) (h1 : leR x y = true) (h2 : leR y z = true) : leR x z = true := eqF_trans leI_trans h1 h2
theorem leQ_trans (x y z : List (List Int)) (h1 : leQ x y = true) (h2 : leQ y z = true) : leQ x z = true := eqF_trans leR_trans h1 h2
theorem leR_anti (x y : List Int) (h1 : leR x y = true) (h2 : leR y x = true) : x = y := eqF_anti leI_anti h1 h2
theorem leQ_anti (x y : List (List Int)) (h1 : leQ x y = true) (h2 : leQ y x = true) : x = y := eqF_anti leR_anti h1 h2
theorem wider_self (A : List (List (List Int))) : widerP A A = true := eqF_refl (fun Q => eqF_refl (fun x => eqF_refl (fun u => by simp [leI]) x) Q) A
theorem wider_trans {A C D : List (List (List Int))} (h1 : widerP A C = true) (h2 : widerP C D = true) : widerP A D = true := eqF_trans leQ_trans h1 h2
theorem wider_anti {A C : List (List (List Int))} (h1 : widerP A C = true) (h2 : widerP C A = true) : A = C := eqF_anti leQ_anti h1 h2
theorem lenB_eqF {x y : List Int} : lenB x y = true ↔ eqF (fun _ _ => true) x y = true := by
  unfold lenB
  rw [decide_eq_true_eq, eqF_iff]
  exact ⟨fun h => ⟨h, fun _ _ _ _ _ => rfl⟩, fun h => h.1⟩
theorem leR_join (x y : List Int) (h : lenB x y = true) : leR x (mxR x y) = true := eqF_join leI_join (lenB_eqF.1 h)
theorem leQ_join (x y : List (List Int)) (h : alikeQ x y = true) : leQ x (mxQ x y) = true := eqF_join leR_join h
theorem wider_join {A C : List (List (List Int))} (h : alikeP A C = true) : widerP A (mxP A C) = true := eqF_join leQ_join h
theorem leR_least (x y z : List Int) (h1 : leR x z = true) (h2 : leR y z = true) : leR (mxR x y) z = true := eqF_least leI_least h1 h2
theorem leQ_least (x y z : List (List Int)) (h1 : leQ x z = true) (h2 : leQ y z = true) : leQ (mxQ x y) z = true := eqF_least leR_least h1 h2
theorem wider_least {A C D : List (List (List Int))} (h1 : widerP A D = true) (h2 : widerP C D = true) : widerP (mxP A C) D = true := eqF_least leQ_least h1 h2
theorem leR_len (x y : List Int) (h : leR x y = true) : lenB x y = true := lenB_eqF.2 (eqF_mono (fun _ _ _ => rfl) h)
theorem leQ_len (x y : List (List Int)) (h : leQ x y = true) : alikeQ x y = true := eqF_mono leR_len h
theorem alike_of_wider {A C : List (List (List Int))} (h : widerP A C = true) : alikeP A C = true := eqF_mono leQ_len h
theorem alike_comm {A C : List (List (List Int))} (h : alikeP A C = true) : alikeP C A = true := by
  have h := alikeP_iff.1 h
  exact alikeP_iff.2 ⟨h.len.symm, fun i Q R hQ hR => by
    obtain ⟨a, b⟩ := h.rows i R Q hR hQ
    exact ⟨a.symm, fun k x y hx hy => (b k y x hy hx).symm⟩⟩
theorem widE_iff {A1 A2 C1 C2 : List (List (List Int))} : widE A1 A2 C1 C2 = true ↔ widerP A1 C1 = true ∧ widerP A2 C2 = true := by
  unfold widE
  simp only [Bool.and_eq_true]
  exact ⟨fun h => ⟨h.1.2, h.2⟩, fun h => ⟨⟨⟨alike_of_wider h.1, alike_of_wider h.2⟩, h.1⟩, h.2⟩⟩
set_option maxHeartbeats 8000000 in
theorem c_SameIntListsT (Q : List (List Int)) (hQ : Q.length ≤ 1048576) (hr : ∀ r ∈ Q, r.length ≤ 1048576) : PC 102 [.vec (rows2V Q) Q.length, .vec (rows2V Q) Q.length] (.bool true) := by
  have ra : (rows2V Q).length = Q.length := rows2V_len
  refine pB Tryd.func102 rfl (by decide) Tryd.ntmps102 (by simp) Tryd.results102 ?_
  repeat' (first
 |refine aK fun K hK=>?_|refine Step.by1 ?_|refine sE (by decide) ?_|refine cz rfl ?_|refine Fork.by2 (fun h=>?_) fun h=>?_
 |(refine aR ?_;simp [ra])
 |(refine Split.by2 (fun h=>?_) (fun h=>?_)<;>(simp [h, ra]))
 |(apply hK;clear hK K)|refine AWh ‹_› ?_)
  refine aL [0, 1] (fun i : Nat => [(5, .int .i64 i)]) (fun _ => []) (fun i => i ≤ Q.length) (fun i => Q.length - i) 0 (Nat.zero_le _) (by apply Weak.mk' <;> simp) (fun _ _ => rfl) ?_
  intro i hi
  by_cases hlt : i < Q.length
  · obtain ⟨r, hrr⟩ : ∃ r, Q[i] = r := ⟨_, rfl⟩
    have hr? : Q[i]? = some r := by rw [List.getElem?_eq_getElem hlt, hrr]
    have hlt' : (i : Int) < Q.length := by omega
    have w1 : IntKind.i64.wrap ((i : Int) + 1) = i + 1 := wI (by omega) (by omega)
    have hc : PC 11 [.vec (ivs r) r.length, .vec (ivs r) r.length] (.bool true) := c_SameInts r (by have := hr r (List.mem_of_getElem? hr?); omega)
    have a2 := rows2V_get hr?
    have a3 : (rows2V Q)[i]'(by rw [rows2V_len]; exact hlt) = [V.vec (ivs r) r.length] := by have hz := a2; rw [List.getElem?_eq_getElem (by rw [rows2V_len]; exact hlt)] at hz; exact Option.some.inj hz
    repeat' (first
 |refine aK fun K hK=>?_|refine Step.by1 ?_|refine sE (by decide) ?_|refine cz rfl ?_|refine Fork.by2 (fun h=>?_) fun h=>?_
 |((first|refine aR ?_|refine aX (id:=6) 9 mixed (by decide) ?_|refine aP1 (f:=11) rfl rfl (hc) rfl rfl rfl ?_);simp [hlt, hlt', a2, a3, ra, w1])
 |(refine Split.by2 (fun h=>?_) (fun h=>?_)<;>(simp [h, hlt, hlt', a2, a3, ra, w1]))
 |(apply hK;clear hK K)|refine AWh ‹_› ?_)
    refine ⟨i + 1, by omega, by omega, ?_⟩
    apply Weak.mk' <;> simp
  · obtain rfl : i = Q.length := by omega
    repeat' (first
 |refine aK fun K hK=>?_|refine Step.by1 ?_|refine sE (by decide) ?_|refine cz rfl ?_|refine Fork.by2 (fun h=>?_) fun h=>?_
 |(refine aR ?_;simp)
 |(refine Split.by2 (fun h=>?_) (fun h=>?_)<;>(simp [h]))
 |(apply hK;clear hK K)|refine AWh ‹_› ?_)
    exact r1q (cE rfl rfl)
set_option maxHeartbeats 8000000 in
theorem c_sameRowsT (P : List (List (List Int))) (hP : planOk P) : PC 61 [halfV P, halfV P] (.bool true) := by
  have hpl := hP.1
  have ra : (rows3V P).length = P.length := rows3V_len
  unfold halfV
  refine pB Tryd.func61 rfl (by decide) Tryd.ntmps61 (by simp) Tryd.results61 ?_
  repeat' (first
 |refine aK fun K hK=>?_|refine Step.by1 ?_|refine sE (by decide) ?_|refine cz rfl ?_|refine Fork.by2 (fun h=>?_) fun h=>?_
 |(refine aR ?_;simp [ra])
 |(refine Split.by2 (fun h=>?_) (fun h=>?_)<;>(simp [h, ra]))
 |(apply hK;clear hK K)|refine AWh ‹_› ?_)
  refine aL [0, 1] (fun i : Nat => [(5, .int .i64 i)]) (fun _ => []) (fun i => i ≤ P.length) (fun i => P.length - i) 0 (Nat.zero_le _) (by apply Weak.mk' <;> simp) (fun _ _ => rfl) ?_
  intro i hi
  by_cases hlt : i < P.length
  · obtain ⟨Q, hQQ⟩ : ∃ Q, P[i] = Q := ⟨_, rfl⟩
    have hQ? : P[i]? = some Q := by rw [List.getElem?_eq_getElem hlt, hQQ]
    have hlt' : (i : Int) < P.length := by omega
    have w1 : IntKind.i64.wrap ((i : Int) + 1) = i + 1 := wI (by omega) (by omega)
    obtain ⟨k1, k2⟩ := hP.2 Q (List.mem_of_getElem? hQ?)
    have hc := c_SameIntListsT Q k1 k2
    have a2 := rows3V_get hQ?
    have a3 : (rows3V P)[i]'(by rw [rows3V_len]; exact hlt) = [V.vec (rows2V Q) Q.length] := by have hz := a2; rw [List.getElem?_eq_getElem (by rw [rows3V_len]; exact hlt)] at hz; exact Option.some.inj hz
    repeat' (first
 |refine aK fun K hK=>?_|refine Step.by1 ?_|refine sE (by decide) ?_|refine cz rfl ?_|refine Fork.by2 (fun h=>?_) fun h=>?_
 |((first|refine aR ?_|refine aX (id:=6) 9 mixed (by decide) ?_|refine aP1 (f:=102) rfl rfl (hc) rfl rfl rfl ?_);simp [hlt, hlt', a2, a3, ra, w1])
 |(refine Split.by2 (fun h=>?_) (fun h=>?_)<;>(simp [h, hlt, hlt', a2, a3, ra, w1]))
 |(apply hK;clear hK K)|refine AWh ‹_› ?_)
    refine ⟨i + 1, by omega, by omega, ?_⟩
    apply Weak.mk' <;> simp
  · obtain rfl : i = P.length := by omega
    repeat' (first
 |refine aK fun K hK=>?_|refine Step.by1 ?_|refine sE (by decide) ?_|refine cz rfl ?_|refine Fork.by2 (fun h=>?_) fun h=>?_
 |(refine aR ?_;simp)
 |(refine Split.by2 (fun h=>?_) (fun h=>?_)<;>(simp [h]))
 |(apply hK;clear hK K)|refine AWh ‹_› ?_)
    exact r1q (cE rfl rfl)
theorem c_SamePlanT (P1 P2 : List (List (List Int))) (h1 : planOk P1) (h2 : planOk P2) : PC 21 [.agg [halfV P1, halfV P2], .agg [halfV P1, halfV P2]] (.bool true) := by
  have c1 := c_sameRowsT P1 h1
  have c2 := c_sameRowsT P2 h2
  simp only [halfV] at c1 c2 ⊢
  generalize rows3V P1 = X1 at *
  generalize rows3V P2 = X2 at *
  refine pB Tryd.func21 rfl (by decide) Tryd.ntmps21 (by simp) Tryd.results21 ?_
  repeat' (first
 |refine aK fun K hK=>?_|refine Step.by1 ?_|refine sE (by decide) ?_|refine cz rfl ?_|refine Fork.by2 (fun h=>?_) fun h=>?_
 |((first|refine aR ?_|refine aC (f:=61) rfl rfl (c1) rfl rfl rfl ?_|refine aC (f:=61) rfl rfl (c2) rfl rfl rfl ?_);simp)
 |(refine Split.by2 (fun h=>?_) (fun h=>?_)<;>(simp [h]))
 |(apply hK;clear hK K)|refine AWh ‹_› ?_)
  exact r1q (cE rfl rfl)
end Go.Proofs.YtgmlimipejcpgaaDoor
end
section
set_option linter.unusedSimpArgs false
set_option linter.unusedVariables false
namespace Go.Proofs.YtgmlimipejcpgaaDoor
open Go Go.AM Fx
theorem smallA_E : okE smallA := by
  intro e he
  simp [smallA, smallN] at he
  subst he
  simp [smallA, smallN]
theorem luM_small (so : Int → Bool) : luM smallA 1 (luB smallA 1 so []) = (List.range 2).map (luBase smallA 1 so []) := by
  refine (IsLu.luM smallA_E ⟨L3.ls ⟨by simp [smallA, smallN], fun i hi => ?_⟩, fun e he c hc u v hu hs hv => ?_⟩).symm
  · have hi2 : i < 2 := hi
    simp [hi2, luBase]
  · exfalso
    simp [smallA, smallN] at he
    subst he
    have : c = 0 := by omega
    subst this
    revert hs; decide
theorem base_smallL : (List.range 2).map (luBase smallA 1 lowB []) = [[3], [-1]] := by kernel_rfl
theorem base_smallU : (List.range 2).map (luBase smallA 1 upB []) = [[5], [-1]] := by kernel_rfl
theorem luP_smallL : luP smallN lowB [] = [[[3], [-1]]] := by
  have : luP smallN lowB [] = [luM smallA 1 (luB smallA 1 lowB [])] := rfl
  rw [this, luM_small, base_smallL]
theorem luP_smallU : luP smallN upB [] = [[[5], [-1]]] := by
  have : luP smallN upB [] = [luM smallA 1 (luB smallA 1 upB [])] := rfl
  rw [this, luM_small, base_smallU]
theorem luAt_small0 (so : Int → Bool) : luAtL smallN so 0 0 [] = (luM smallA 1 (luB smallA 1 so [])).getD 0 [] := by
  have h : ¬ badLoc smallN 0 0 := by unfold badLoc; decide
  unfold luAtL
  rw [if_neg (by simp [look_small]), if_neg h]; rfl
theorem luAt_small1 (so : Int → Bool) : luAtL smallN so 0 1 [] = (luM smallA 1 (luB smallA 1 so [])).getD 1 [] := by
  have h : ¬ badLoc smallN 0 1 := by unfold badLoc; decide
  unfold luAtL
  rw [if_neg (by simp [look_small]), if_neg h]; rfl
theorem luAt_s0L : luAtL smallN lowB 0 0 [] = [3] := by rw [luAt_small0, luM_small, base_smallL]; rfl
theorem luAt_s0U : luAtL smallN upB 0 0 [] = [5] := by rw [luAt_small0, luM_small, base_smallU]; rfl
theorem luAt_s1L : luAtL smallN lowB 0 1 [] = [-1] := by rw [luAt_small1, luM_small, base_smallL]; rfl
theorem luAt_s1U : luAtL smallN upB 0 1 [] = [-1] := by rw [luAt_small1, luM_small, base_smallU]; rfl
theorem c_luPlanF (n : NetD) (hn : n.ok) (gs : List (List PartD)) (hgl : gs.length ≤ 1048577) (hgs : ∀ g ∈ gs, okGoal g) (he : lookE n gs = 0) :
    PC 58 [.agg n.cells, gsV gs] (.tup [.agg [halfV (luP n lowB gs), halfV (luP n upB gs)], .int .i64 0]) :=
  PCall_of_GCall (c_luPlan n hn gs hgl hgs he (h := []) (by simp [HL])) fun v h' ⟨b1, g1, f1, T1, b2, g2, f2, T2, hv, hO, p1, p2, _⟩ => .inl ⟨5, by
    rw [hv]
    show _ = V.tup [V.agg [Go.AM.frz h' 3 (.ref b1 g1 0 T1.length), Go.AM.frz h' 3 (.ref b2 g2 0 T2.length)], Go.AM.frz h' 4 (.int .i64 0)]
    rw [p1.frz, p2.frz]
    rfl, rfl⟩
set_option maxRecDepth 20000 in
set_option maxHeartbeats 4000000 in
theorem c_small26 : PC 57 [] (.agg smallN.cells) := by
  have h : PC 57 [] (.agg [.vec [[.str ⟨#[120]⟩]] 1, .nils, .nils, .vec [[.str ⟨#[65]⟩, .vec [[.str ⟨#[97]⟩, .int .u8 0, .vec [[.int .i64 1, .int .i64 0, .int .u8 2, .int .i64 5]] 1], [.str ⟨#[98]⟩, .int .u8 0, .nils]] 2, .vec [[.int .i64 0, .int .i64 1, .vec [[.int .i64 1, .int .i64 0, .int .u8 4, .int .i64 3]] 1, .nils, .int .i64 0, .bool false, .vec [[.int .i64 1, .int .i64 0, .int .i64 0, .nils]] 1]] 1]] 1]) := by
    refine pB Tryd.func57 rfl (by decide) Tryd.ntmps57 (by simp) Tryd.results57 ?_
    repeat' (first
 |(refine AW_region_AOL (id := 1) ?_;simp)
 |refine aK fun K hK=>?_|refine Step.by1 ?_|refine sE (by decide) ?_|refine cz rfl ?_|refine Fork.by2 (fun h=>?_) fun h=>?_
 |(refine aR ?_;simp)
 |(refine Split.by2 (fun h=>?_) (fun h=>?_)<;>(simp [h]))
 |(apply hK;clear hK K)|refine AWh ‹_› ?_)
    exact retqc rfl (by simp) (cE (by simp) (by simp))
  exact h.dnr rfl rfl (fun _ _ h => by cases h) (fun _ h => by cases h)
theorem right_small1 : rightPE smallN [[[3], [-1]]] [[[5], [-1]]] = true := by kernel_rfl
theorem right_small0 : rightPE smallN [] [] = false := by kernel_rfl
set_option maxRecDepth 20000 in
set_option maxHeartbeats 4000000 in
theorem c_live26 : PC 19 [] (.bool true) := by
  have h0 := c_small26
  have h1 := c_luAt smallN small_ok 0 0 [] (by simp) (by simp)
  have h2 := c_luAt smallN small_ok 0 1 [] (by simp) (by simp)
  have h3 := c_luPlanF smallN small_ok [] (by simp) (by simp) look_small
  have h4 := c_luRight smallN small_ok [[[3], [-1]]] [[[5], [-1]]] (by simp [planOk]) (by simp [planOk])
  have h5 := c_luRight smallN small_ok [] [] (by simp [planOk]) (by simp [planOk])
  rw [luAt_s0L, luAt_s0U, clks_small0.2] at h1
  rw [luAt_s1L, luAt_s1U, clks_small1.2] at h2
  rw [luP_smallL, luP_smallU] at h3
  rw [right_small1] at h4
  rw [right_small0] at h5
  have h1' := PCall.denil (args := [.agg smallN.cells, .int .i64 0, .int .i64 0, .nils]) h1 rfl
  have h2' := PCall.denil (args := [.agg smallN.cells, .int .i64 0, .int .i64 1, .nils]) h2 rfl
  have h3' := PCall.denil (args := [.agg smallN.cells, .nils]) h3 rfl
  have h5' := PCall.dn (args := [.agg smallN.cells, .agg [.nils, .nils]]) h5 rfl
  have s3 := c_SameInts [3] (by simp)
  have s5 := c_SameInts [5] (by simp)
  have s1 := c_SameInts [-1] (by simp)
  clear h1 h2 h3 h5
  have hcs : smallN.cells = [.vec [[.str ⟨#[120]⟩]] 1, .vec [] 0, .vec [] 0, .vec [[.str ⟨#[65]⟩, .vec [[.str ⟨#[97]⟩, .int .u8 0, .vec [[.int .i64 1, .int .i64 0, .int .u8 2, .int .i64 5]] 1], [.str ⟨#[98]⟩, .int .u8 0, .vec [] 0]] 2, .vec [[.int .i64 0, .int .i64 1, .vec [[.int .i64 1, .int .i64 0, .int .u8 4, .int .i64 3]] 1, .vec [] 0, .int .i64 0, .bool false, .vec [[.int .i64 1, .int .i64 0, .int .i64 0, .vec [] 0]] 1]] 1]] 1] := rfl
  simp only [halfV, rows3V, rows2V, ivs, isV, List.map_cons, List.map_nil, List.length_cons, List.length_nil, Nat.zero_add] at h1' h2' h3' h4 s3 s5 s1
  rw [hcs] at h0 h1' h2' h3' h4 h5'
  refine pB Tryd.func19 rfl (by decide) Tryd.ntmps19 (by simp) Tryd.results19 ?_
  repeat' (first
 |refine aK fun K hK=>?_|refine Step.by1 ?_|refine sE (by decide) ?_|refine cz rfl ?_|refine Fork.by2 (fun h=>?_) fun h=>?_
 |((first|refine aR ?_|refine aX (id:=4) 42 mixed (by decide) ?_|refine aC (f:=57) rfl rfl (h0) rfl rfl rfl ?_|refine aP1 (f:=57) rfl rfl (h0) rfl rfl rfl ?_|refine AS_callT (f:=56) rfl rfl (h1') rfl rfl ?_|refine AS_callT (f:=56) rfl rfl (h2') rfl rfl ?_|refine aC (f:=58) rfl rfl (h3') rfl rfl rfl ?_|refine aP1 (f:=59) rfl rfl (h4) rfl rfl rfl ?_|refine aP1 (f:=59) rfl rfl (h5') rfl rfl rfl ?_);simp)
 |(refine Split.by2 (fun h=>?_) (fun h=>?_)<;>(simp [h]))
 |(refine AP_lit rfl (by simp) ?_;simp)
 |(refine AP_scall (f:=11) rfl ?_ (s3) rfl rfl rfl ?_;(focus (first|rfl|(simp [seenV];done)));simp)
 |(refine AP_scall (f:=11) rfl ?_ (s5) rfl rfl rfl ?_;(focus (first|rfl|(simp [seenV];done)));simp)
 |(refine AP_scall (f:=11) rfl ?_ (s1) rfl rfl rfl ?_;(focus (first|rfl|(simp [seenV];done)));simp)
 |(apply hK;clear hK K)|refine AWh ‹_› ?_)
  exact r1q (cE rfl rfl)
theorem lit1 (p : PlanD) : vl PlanD.cells [p] = .vec [p.cells] 1 := rfl
theorem okPlans_one {p : PlanD} (h : p.ok) : okPlans [p] := ⟨by simp, fun q hq => by rw [List.mem_singleton.1 hq]; exact h⟩
theorem any_one {p : PlanD → Bool} {b : PlanD} : anyL p [b] = p b := by simp [anyL]
theorem not_widE {a b : PlanD} (h : unlike a b = true) : widE a.lo a.up b.lo b.up = false := by
  cases hw : widE a.lo a.up b.lo b.up
  · rfl
  · obtain ⟨h1, h2⟩ := widE_iff.1 hw
    have h3 := alike_of_wider h1
    have h4 := alike_of_wider h2
    simp [unlike, alikeE, h3, h4] at h
theorem unlike_comm {a b : PlanD} (h : unlike a b = false) : unlike b a = false := by
  simp only [unlike, alikeE, Bool.not_eq_false', Bool.and_eq_true] at h ⊢
  exact ⟨alike_comm h.1, alike_comm h.2⟩
theorem unlike_comm' {a b : PlanD} (h : unlike a b = true) : unlike b a = true := by
  cases hb : unlike b a
  · rw [unlike_comm hb] at h; exact h
  · rfl
set_option maxRecDepth 40000 in
set_option maxHeartbeats 16000000 in
theorem c_LuOrderBad (a : PlanD) (ha : a.ok) (b : PlanD) (hb : b.ok) (c : PlanD) (hc : c.ok) (he : unlike a b = true) : PC 6 [.agg a.cells, .agg b.cells, .agg c.cells] (.bool true) := by
  have h1 := c_JoinBad a ha [b] (okPlans_one hb) (by rw [any_one]; exact he)
  have h3 := c_live26
  have e1 := c_Wider a.lo a.up b.lo b.up ha.1 ha.2
  have e2 := c_Wider b.lo b.up a.lo a.up hb.1 hb.2
  rw [not_widE he] at e1
  rw [not_widE (unlike_comm' he)] at e2
  rw [lit1] at h1
  simp only [PlanD.cells, halfV] at h1 e1 e2 ⊢
  refine pB Tryd.func6 rfl (by decide) Tryd.ntmps6 (by simp) Tryd.results6 ?_
  repeat' (first
 |(refine AW_region_AOL (id := 1) ?_;simp)
 |refine aK fun K hK=>?_|refine Step.by1 ?_|refine sE (by decide) ?_|refine cz rfl ?_|refine Fork.by2 (fun h=>?_) fun h=>?_
 |((first|refine aR ?_|refine aC (f:=18) rfl rfl (h1) rfl rfl rfl ?_|refine aC (f:=19) rfl rfl (h3) rfl rfl rfl ?_|refine aC (f:=20) rfl rfl (e1) rfl rfl rfl ?_|refine aC (f:=20) rfl rfl (e2) rfl rfl rfl ?_);simp)
 |(refine Split.by2 (fun h=>?_) (fun h=>?_)<;>(simp [h]))
 |(apply hK;clear hK K)|refine AWh ‹_› ?_)
  exact r1q (cE rfl rfl)
set_option maxRecDepth 40000 in
set_option maxHeartbeats 16000000 in
theorem c_LuOrderOk (a : PlanD) (ha : a.ok) (b : PlanD) (hb : b.ok) (c : PlanD) (hc : c.ok) (he : unlike a b = false) : PC 6 [.agg a.cells, .agg b.cells, .agg c.cells] (.bool true) := by
  have hl : alikeP a.lo b.lo = true ∧ alikeP a.up b.up = true := by simpa [unlike, alikeE] using he
  have h1 := c_JoinF a ha [b] (okPlans_one hb) (by rw [any_one]; exact he)
  have h2 := c_JoinF b hb [a] (okPlans_one ha) (by rw [any_one]; exact unlike_comm he)
  have o1 : planOk (joinH a.lo ([b].map (·.lo))) := joinH_ok ha.1
  have o2 : planOk (joinH a.up ([b].map (·.up))) := joinH_ok ha.2
  simp only [List.map_cons, List.map_nil, joinH_one] at h1 h2 o1 o2
  rw [mxP_comm b.lo a.lo, mxP_comm b.up a.up] at h2
  have h3 := c_live26
  have w1 := wider_join hl.1
  have w2 := wider_join hl.2
  have w3 := wider_join (alike_comm hl.1)
  have w4 := wider_join (alike_comm hl.2)
  rw [mxP_comm b.lo a.lo] at w3
  rw [mxP_comm b.up a.up] at w4
  have hle : ∀ {C1 C2 : List (List (List Int))}, widE a.lo a.up C1 C2 = true → widE b.lo b.up C1 C2 = true → widE (mxP a.lo b.lo) (mxP a.up b.up) C1 C2 = true := fun h1 h2 => by
    rw [widE_iff] at h1 h2 ⊢
    exact ⟨wider_least h1.1 h2.1, wider_least h1.2 h2.2⟩
  generalize mxP a.lo b.lo = J1 at *
  generalize mxP a.up b.up = J2 at *
  have e1 := c_Wider a.lo a.up J1 J2 ha.1 ha.2
  have e2 := c_Wider b.lo b.up J1 J2 hb.1 hb.2
  rw [widE_iff.2 ⟨w1, w2⟩] at e1
  rw [widE_iff.2 ⟨w3, w4⟩] at e2
  have e3 := c_Wider a.lo a.up c.lo c.up ha.1 ha.2
  have e4 := c_Wider b.lo b.up c.lo c.up hb.1 hb.2
  have e5 := c_Wider J1 J2 c.lo c.up o1 o2
  have e6 := c_Wider a.lo a.up a.lo a.up ha.1 ha.2
  rw [widE_iff.2 ⟨wider_self _, wider_self _⟩] at e6
  have e7 := c_Wider a.lo a.up b.lo b.up ha.1 ha.2
  have e8 := c_Wider b.lo b.up a.lo a.up hb.1 hb.2
  have s1 := c_SamePlanT J1 J2 o1 o2
  have p1 : widE a.lo a.up b.lo b.up = true → widE b.lo b.up a.lo a.up = true → PC 21 [.agg [halfV a.lo, halfV a.up], .agg [halfV b.lo, halfV b.up]] (.bool true) := fun x1 x2 => by
    rw [widE_iff] at x1 x2
    rw [← wider_anti x1.1 x2.1, ← wider_anti x1.2 x2.2]
    exact c_SamePlanT a.lo a.up ha.1 ha.2
  have p2 : widE a.lo a.up b.lo b.up = true → widE b.lo b.up c.lo c.up = true → widE a.lo a.up c.lo c.up = true := fun x1 x2 => by
    rw [widE_iff] at x1 x2 ⊢
    exact ⟨wider_trans x1.1 x2.1, wider_trans x1.2 x2.2⟩
  have p3 := hle (C1 := c.lo) (C2 := c.up)
  clear hle w1 w2 w3 w4 hl
  generalize widE a.lo a.up c.lo c.up = m3 at *
  generalize widE b.lo b.up c.lo c.up = m4 at *
  generalize widE J1 J2 c.lo c.up = m5 at *
  generalize widE a.lo a.up b.lo b.up = m1 at *
  generalize widE b.lo b.up a.lo a.up = m2 at *
  rw [lit1] at h1 h2
  simp only [PlanD.cells, halfV] at h1 h2 e1 e2 e3 e4 e5 e6 e7 e8 s1 p1 ⊢
  refine pB Tryd.func6 rfl (by decide) Tryd.ntmps6 (by simp) Tryd.results6 ?_
  cases m1
  · repeat' (first
 |(refine AW_region_AOL (id := 1) ?_;simp)
 |(refine AW_region_AOL (id := 6) ?_;simp)
 |refine aK fun K hK=>?_|refine Step.by1 ?_|refine sE (by decide) ?_|refine cz rfl ?_|refine Fork.by2 (fun h=>?_) fun h=>?_
 |((first|refine aR ?_|refine aC (f:=18) rfl rfl (h1) rfl rfl rfl ?_|refine aC (f:=18) rfl rfl (h2) rfl rfl rfl ?_|refine aC (f:=19) rfl rfl (h3) rfl rfl rfl ?_|refine aC (f:=20) rfl rfl (e1) rfl rfl rfl ?_|refine aC (f:=20) rfl rfl (e2) rfl rfl rfl ?_|refine aC (f:=20) rfl rfl (e3) rfl rfl rfl ?_|refine aC (f:=20) rfl rfl (e4) rfl rfl rfl ?_|refine aC (f:=20) rfl rfl (e5) rfl rfl rfl ?_|refine aC (f:=20) rfl rfl (e6) rfl rfl rfl ?_|refine aC (f:=20) rfl rfl (e7) rfl rfl rfl ?_|refine aC (f:=20) rfl rfl (e8) rfl rfl rfl ?_|refine aC (f:=21) rfl rfl (s1) rfl rfl rfl ?_);simp)
 |(refine Split.by2 (fun h=>?_) (fun h=>?_)<;>(simp [h]))
 |(apply hK;clear hK K)|refine AWh ‹_› ?_)
    all_goals first | exact r1q (cE rfl rfl) | exact r1q (cE (by simp_all) rfl) | (exfalso; simp_all; done)
  cases m2
  · repeat' (first
 |(refine AW_region_AOL (id := 1) ?_;simp)
 |(refine AW_region_AOL (id := 6) ?_;simp)
 |refine aK fun K hK=>?_|refine Step.by1 ?_|refine sE (by decide) ?_|refine cz rfl ?_|refine Fork.by2 (fun h=>?_) fun h=>?_
 |((first|refine aR ?_|refine aC (f:=18) rfl rfl (h1) rfl rfl rfl ?_|refine aC (f:=18) rfl rfl (h2) rfl rfl rfl ?_|refine aC (f:=19) rfl rfl (h3) rfl rfl rfl ?_|refine aC (f:=20) rfl rfl (e1) rfl rfl rfl ?_|refine aC (f:=20) rfl rfl (e2) rfl rfl rfl ?_|refine aC (f:=20) rfl rfl (e3) rfl rfl rfl ?_|refine aC (f:=20) rfl rfl (e4) rfl rfl rfl ?_|refine aC (f:=20) rfl rfl (e5) rfl rfl rfl ?_|refine aC (f:=20) rfl rfl (e6) rfl rfl rfl ?_|refine aC (f:=20) rfl rfl (e7) rfl rfl rfl ?_|refine aC (f:=20) rfl rfl (e8) rfl rfl rfl ?_|refine aC (f:=21) rfl rfl (s1) rfl rfl rfl ?_);simp)
 |(refine Split.by2 (fun h=>?_) (fun h=>?_)<;>(simp [h]))
 |(apply hK;clear hK K)|refine AWh ‹_› ?_)
    all_goals first | exact r1q (cE rfl rfl) | exact r1q (cE (by simp_all) rfl) | (exfalso; simp_all; done)
  · have s2 := p1 rfl rfl
    repeat' (first
 |(refine AW_region_AOL (id := 1) ?_;simp)
 |(refine AW_region_AOL (id := 6) ?_;simp)
 |refine aK fun K hK=>?_|refine Step.by1 ?_|refine sE (by decide) ?_|refine cz rfl ?_|refine Fork.by2 (fun h=>?_) fun h=>?_
 |((first|refine aR ?_|refine aC (f:=18) rfl rfl (h1) rfl rfl rfl ?_|refine aC (f:=18) rfl rfl (h2) rfl rfl rfl ?_|refine aC (f:=19) rfl rfl (h3) rfl rfl rfl ?_|refine aC (f:=20) rfl rfl (e1) rfl rfl rfl ?_|refine aC (f:=20) rfl rfl (e2) rfl rfl rfl ?_|refine aC (f:=20) rfl rfl (e3) rfl rfl rfl ?_|refine aC (f:=20) rfl rfl (e4) rfl rfl rfl ?_|refine aC (f:=20) rfl rfl (e5) rfl rfl rfl ?_|refine aC (f:=20) rfl rfl (e6) rfl rfl rfl ?_|refine aC (f:=20) rfl rfl (e7) rfl rfl rfl ?_|refine aC (f:=20) rfl rfl (e8) rfl rfl rfl ?_|refine aC (f:=21) rfl rfl (s1) rfl rfl rfl ?_|refine aC (f:=21) rfl rfl (s2) rfl rfl rfl ?_);simp)
 |(refine Split.by2 (fun h=>?_) (fun h=>?_)<;>(simp [h]))
 |(apply hK;clear hK K)|refine AWh ‹_› ?_)
    all_goals first | exact r1q (cE rfl rfl) | exact r1q (cE (by simp_all) rfl) | (exfalso; simp_all; done)
theorem c_LuOrder (a : PlanD) (ha : a.ok) (b : PlanD) (hb : b.ok) (c : PlanD) (hc : c.ok) : PC 6 [.agg a.cells, .agg b.cells, .agg c.cells] (.bool true) := by
  cases he : unlike a b
  · exact c_LuOrderOk a ha b hb c hc he
  · exact c_LuOrderBad a ha b hb c hc he
end Go.Proofs.YtgmlimipejcpgaaDoor
end
