/-
  YtbgooadmonnjaaaGreatDoorRc14: steps of the proof of a law of the program: what these texts prove holds under the hypotheses that their theorems name, and no others.
-/
import Derived.Test.YtbgooadmonnjaaaGreatDoorRc13
import Derived.Test.YtbgooadmonnjaaaGreatDoorRc11
import Derived.Test.YtbgooadmonnjaaaGreatDoorRc12
section
set_option linter.unusedSimpArgs false
set_option linter.unusedVariables false
namespace Go.Proofs.YtbgooadmonnjaaaGreatDoor
open Go Go.AM Fx
def isLoc (a : AutoD) (c : Int) : Bool := decide (0 ≤ c ∧ c < a.locs.length)
theorem c_edgesIs (a : AutoD) (c : Int) (hp : List B) (b : Nat) (hb : hp[b]? = some (.var a.cells)) : GCall Tryz.prog GV 268 [.int .i64 c, .ptr b 0] hp (fun v h' => v = .bool (isLoc a c) ∧ h' = hp) := by
  simp only [AutoD.cells, vl] at hb
  refine gB1 Tryz.func268 rfl (by decide) Tryz.ntmps268 (by simp) Tryz.results268 ?_
  repeat' (first
 |refine aK fun K hK=>?_|refine Step.by1 ?_|refine sE (by decide) ?_|refine cz rfl ?_|refine Fork.by2 (fun h=>?_) fun h=>?_
 |(refine aR ?_;simp [hb])
 |(refine Split.by2 (fun h=>?_) (fun h=>?_)<;>(simp [h, hb]))
 |(apply hK;clear hK K)|refine AWh ‹_› ?_)
  all_goals first
    | exact retg1 (h' := hp) ⟨by simp [isLoc, *], rfl⟩ rfl Leaves.refl
def edgeB (n : NetD) (a : AutoD) (e : EdgeD) : Bool := !isLoc a e.frm || (!isLoc a e.to || (decide (e.chan < 0 ∨ n.chans.length < e.chan) || (e.send && decide (e.chan = 0))))
def edgesE (n : NetD) (l : List AutoD) : Int := if anyL (fun a => anyL (edgeB n a) a.edges) l then 123 else 0
theorem edgesE_cons {n : NetD} {a : AutoD} {l : List AutoD} : edgesE n (a :: l) = if anyL (edgeB n a) a.edges = true then 123 else edgesE n l := by
  by_cases h : anyL (edgeB n a) a.edges = true <;> simp [edgesE, anC, h]
set_option maxRecDepth 8000 in
set_option maxHeartbeats 8000000 in
theorem c_edges (n : NetD) (hn : n.ok) : PC 231 [.agg n.cells] (.int .i64 (edgesE n n.autos)) := by
  obtain ⟨⟨h1, _⟩, ⟨h2, _⟩, ⟨h3, _⟩, h4, h5⟩ := hn
  refine pB Tryz.func231 rfl (by decide) Tryz.ntmps231 (by simp) Tryz.results231 ?_
  repeat' (first
 |refine aK fun K hK=>?_|refine Step.by1 ?_|refine sE (by decide) ?_|refine cz rfl ?_|refine Fork.by2 (fun h=>?_) fun h=>?_
 |(refine aR ?_;simp [vl, NetD.cells])
 |(refine Split.by2 (fun h=>?_) (fun h=>?_)<;>(simp [h, vl, NetD.cells]))
 |(apply hK;clear hK K)|refine AWh ‹_› ?_)
  refine aS1 (n.autos) 11 [1, 9, 10] (edgesE n) rfl (by apply Weak.mk' <;> simp [vl]) ?_ ?_
  · intro i a _ hlt ha hF
    have hoa := h5 a (ha ▸ List.getElem_mem hlt)
    obtain ⟨_, ⟨hl1, hl2⟩, he1, he2⟩ := hoa
    rw [edgesE_cons] at hF
    repeat' (first
 |refine aK fun K hK=>?_|refine Step.by1 ?_|refine sE (by decide) ?_|refine cz rfl ?_|refine Fork.by2 (fun h=>?_) fun h=>?_
 |(refine aR ?_;simp [vl, AutoD.cells, hlt, ha, wI];try (simp (disch:=omega) only [wI];try simp [vl, AutoD.cells, hlt, ha, wI]))
 |(refine Split.by2 (fun h=>?_) (fun h=>?_)<;>(simp [h, vl, AutoD.cells, hlt, ha, wI];try (simp (disch:=omega) only [wI];try simp [vl, AutoD.cells, hlt, ha, wI])))
 |(apply hK;clear hK K)|refine AWh ‹_› ?_)
    refine aS1 (a.edges) 19 [1, 5, 9, 10, 11, 17, 18] (anyL (edgeB n a)) rfl (by apply Weak.mk' <;> simp [vl]) ?_ ?_
    · intro m y _ hmt hy hM
      rw [anC] at hM
      have hg1 := c_edgesIs a y.frm
      have hg2 := c_edgesIs a y.to
      simp only [AutoD.cells, vl] at hg1 hg2
      generalize hk1 : isLoc a y.frm = k1 at hg1
      generalize hk2 : isLoc a y.to = k2 at hg2
      repeat' (first
 |refine aK fun K hK=>?_|refine Step.by1 ?_|refine sE (by decide) ?_|refine cz rfl ?_|refine Fork.by2 (fun h=>?_) fun h=>?_
 |(refine aR ?_;simp [vl, EdgeD.cells, hmt, hy, wI];try (simp (disch:=omega) only [wI];try simp [vl, EdgeD.cells, hmt, hy, wI]))
 |(refine Split.by2 (fun h=>?_) (fun h=>?_)<;>(simp [h, vl, EdgeD.cells, hmt, hy, wI];try (simp (disch:=omega) only [wI];try simp [vl, EdgeD.cells, hmt, hy, wI])))
 |(refine aG (f := 268) rfl rfl (hg1 _ 1 rfl) rfl (fun v h' hq => ?_); obtain ⟨rfl, rfl⟩ := hq; simp [vl])
 |(refine aG (f := 268) rfl rfl (hg2 _ 1 rfl) rfl (fun v h' hq => ?_); obtain ⟨rfl, rfl⟩ := hq; simp [vl])
 |(apply hK;clear hK K)|refine AWh ‹_› ?_)
      all_goals first
        | exact r1q (cE (by rw [← hF, ← hM]; simp [edgeB, *]) rfl)
        | (refine ⟨by rw [← hM]; simp [edgeB, *]; done, ?_⟩; apply Weak.mk' <;> simp [vl, AutoD.cells])
        | (refine ⟨by rw [← hM]; simp [edgeB, *]; omega, ?_⟩; apply Weak.mk' <;> simp [vl, AutoD.cells])
    · intro hM
      rw [← hM, anyL_nil] at hF
      repeat' (first
 |refine aK fun K hK=>?_|refine Step.by1 ?_|refine sE (by decide) ?_|refine cz rfl ?_|refine Fork.by2 (fun h=>?_) fun h=>?_
 |(refine aR ?_;simp [vl, wI];try (simp (disch:=omega) only [wI];try simp [vl, wI]))
 |(refine Split.by2 (fun h=>?_) (fun h=>?_)<;>(simp [h, vl, wI];try (simp (disch:=omega) only [wI];try simp [vl, wI])))
 |(apply hK;clear hK K)|refine AWh ‹_› ?_)
      all_goals first
        | (refine ⟨by simpa using hF, ?_⟩; apply Weak.mk' <;> simp [vl])
  · intro hF
    repeat' (first
 |refine aK fun K hK=>?_|refine Step.by1 ?_|refine sE (by decide) ?_|refine cz rfl ?_|refine Fork.by2 (fun h=>?_) fun h=>?_
 |(refine aR ?_;simp [vl])
 |(refine Split.by2 (fun h=>?_) (fun h=>?_)<;>(simp [h, vl]))
 |(apply hK;clear hK K)|refine AWh ‹_› ?_)
    exact r1q (cE (by rw [← hF]; simp [edgesE, anyL_nil]) rfl)

def kindT : Nat → Int × Bool × Bool × ByteArray × Int
  | 0 => (0, false, false, ⟨#[]⟩, 0)
  | 1 => (0, false, false, ⟨#[]⟩, 9)
  | 2 => (0, false, false, ⟨#[]⟩, 9)
  | 3 => (1, false, false, ⟨#[45]⟩, 6)
  | 4 => (2, false, false, ⟨#[43]⟩, 4)
  | 5 => (2, false, false, ⟨#[45]⟩, 4)
  | 6 => (2, false, false, ⟨#[42]⟩, 5)
  | 7 => (0, true, false, ⟨#[116, 114, 117, 101]⟩, 9)
  | 8 => (2, true, false, ⟨#[60]⟩, 3)
  | 9 => (2, true, false, ⟨#[60, 61]⟩, 3)
  | 10 => (2, true, false, ⟨#[61, 61]⟩, 3)
  | 11 => (2, true, false, ⟨#[33, 61]⟩, 3)
  | 12 => (1, true, true, ⟨#[33]⟩, 9)
  | 13 => (2, true, true, ⟨#[38, 38]⟩, 2)
  | 14 => (2, true, true, ⟨#[124, 124]⟩, 1)
  | _ => (0, false, false, ⟨#[]⟩, 0)
def known (o : Int) : Bool := decide (1 ≤ o ∧ o ≤ 14)
def kindO (o : Int) : Int × Bool × Bool × ByteArray × Int := if known o = true then kindT o.toNat else (0, false, false, ⟨#[]⟩, 0)
def kparts (o : Int) : Int := (kindO o).1
def ktruth (o : Int) : Bool := (kindO o).2.1
def ktakes (o : Int) : Bool := (kindO o).2.2.1
def ksign (o : Int) : ByteArray := (kindO o).2.2.2.1
def kbinds (o : Int) : Int := (kindO o).2.2.2.2
def kcells (o : Int) : List V := [.int .i64 (kparts o), .bool (ktruth o), .bool (ktakes o), .str (ksign o), .int .i64 (kbinds o)]
theorem kinds_at : ∀ j : Nat, 1 ≤ j → j ≤ 14 → (kindsV.drop (j * 5)).take 5 = kcells j := by
  intro j h1 h2
  match j, h1, h2 with
  | 1, _, _ => rfl
  | 2, _, _ => rfl
  | 3, _, _ => rfl
  | 4, _, _ => rfl
  | 5, _, _ => rfl
  | 6, _, _ => rfl
  | 7, _, _ => rfl
  | 8, _, _ => rfl
  | 9, _, _ => rfl
  | 10, _, _ => rfl
  | 11, _, _ => rfl
  | 12, _, _ => rfl
  | 13, _, _ => rfl
  | 14, _, _ => rfl
  | j + 15, _, h => omega
set_option maxRecDepth 8000 in
theorem c_of (o : Int) (ho : 0 ≤ o ∧ o ≤ 255) : PC 241 [.int .u8 o] (.tup [.agg (kcells o), .bool (known o)]) := by
  by_cases hk : 1 ≤ o ∧ o ≤ 14
  · obtain ⟨j, rfl⟩ := Int.eq_ofNat_of_zero_le ho.1
    have hat := kinds_at j (by omega) (by omega)
    have k1 : ¬ (j : Int) < 1 := by omega
    have k2 : ¬ (14 : Int) < j := by omega
    have k3 : (j : Int) < 15 := by omega
    have k4 : j * 5 + 5 ≤ 75 := by omega
    have hlen : kindsV.length = 75 := rfl
    have hkn : known (j : Int) = true := by simp [known]; omega
    have hkl : (kcells (j : Int)).length = 5 := rfl
    have k5 : min 5 (75 - j * 5) = 5 := by omega
    rw [hkn]
    refine pB Tryz.func241 rfl (by decide) Tryz.ntmps241 (by simp) Tryz.results241 ?_
    repeat' (first
 |refine aK fun K hK=>?_|refine Step.by1 ?_|refine sE (by decide) ?_|refine cz rfl ?_|refine Fork.by2 (fun h=>?_) fun h=>?_
 |(refine aR ?_;simp [k1, k2, k3, k4, hlen, k5, hat, hkl])
 |(refine Split.by2 (fun h=>?_) (fun h=>?_)<;>(simp [h, k1, k2, k3, k4, hlen, k5, hat, hkl]))
 |(apply hK;clear hK K)|refine AWh ‹_› ?_)
    exact retq2ct rfl (by simp [kcells]) (cE (by simp [kcells]) (by simp [kcells]))
  · have hkn : known o = false := by simpa [known] using hk
    have hkc : kcells o = [.int .i64 0, .bool false, .bool false, .str ⟨#[]⟩, .int .i64 0] := by simp [kcells, kparts, ktruth, ktakes, ksign, kbinds, kindO, hkn]
    rw [hkc, hkn]
    refine pB Tryz.func241 rfl (by decide) Tryz.ntmps241 (by simp) Tryz.results241 ?_
    by_cases h1 : o < 1
    · repeat' (first
 |refine aK fun K hK=>?_|refine Step.by1 ?_|refine sE (by decide) ?_|refine cz rfl ?_|refine Fork.by2 (fun h=>?_) fun h=>?_
 |(refine aR ?_;simp [h1])
 |(refine Split.by2 (fun h=>?_) (fun h=>?_)<;>(simp [h, h1]))
 |(apply hK;clear hK K)|refine AWh ‹_› ?_)
      exact retq2ct rfl (by simp) (cE (by simp) (by simp))
    · have h2 : 14 < o := by omega
      repeat' (first
 |refine aK fun K hK=>?_|refine Step.by1 ?_|refine sE (by decide) ?_|refine cz rfl ?_|refine Fork.by2 (fun h=>?_) fun h=>?_
 |(refine aR ?_;simp [h1, h2])
 |(refine Split.by2 (fun h=>?_) (fun h=>?_)<;>(simp [h, h1, h2]))
 |(apply hK;clear hK K)|refine AWh ‹_› ?_)
      exact retq2ct rfl (by simp) (cE (by simp) (by simp))
theorem kparts_le (o : Int) : 0 ≤ kparts o ∧ kparts o ≤ 2 := by
  unfold kparts kindO
  split
  · unfold kindT; split <;> decide
  · decide
/-- The place behind so many trees, from a place on; 0: there are not so many. -/
def endL : List NodeD → Int → Int → Int
  | [], _, _ => 0
  | x :: r, need, at_ => if need + kparts x.op - 1 = 0 then at_ + 1 else endL r (need + kparts x.op - 1) (at_ + 1)
def endAt (l : List NodeD) (at_ : Nat) : Int := endL (l.drop at_) 1 at_
set_option maxRecDepth 8000 in
set_option maxHeartbeats 4000000 in
theorem c_End (l : List NodeD) (hl : l.length ≤ 1048576 ∧ ∀ x ∈ l, x.ok) (at0 : Nat) (ha : at0 ≤ 1099511627776) : PC 240 [vl NodeD.cells l, .int .i64 at0] (.int .i64 (endAt l at0)) := by
  obtain ⟨hl1, hl2⟩ := hl
  obtain ⟨r, hr⟩ : ∃ r, endAt l at0 = r := ⟨_, rfl⟩
  rw [hr]
  have hneg : ¬ (at0 : Int) < 0 := by omega
  refine pB Tryz.func240 rfl (by decide) Tryz.ntmps240 (by simp) Tryz.results240 ?_
  repeat' (first
 |refine aK fun K hK=>?_|refine Step.by1 ?_|refine sE (by decide) ?_|refine cz rfl ?_|refine Fork.by2 (fun h=>?_) fun h=>?_
 |(refine aR ?_;simp [vl, hneg])
 |(refine Split.by2 (fun h=>?_) (fun h=>?_)<;>(simp [h, vl, hneg]))
 |(apply hK;clear hK K)|refine AWh ‹_› ?_)
  refine aL [0] (fun s : Nat × Int => [(1, .int .i64 (s.1 : Int)), (5, .int .i64 s.2)]) (fun _ => []) (fun s => 0 ≤ s.2 ∧ s.2 ≤ s.1 * 2 + 1 ∧ s.1 ≤ at0 + l.length ∧ (if s.2 = 0 then (s.1 : Int) = r else endL (l.drop s.1) s.2 s.1 = r)) (fun s => at0 + l.length + 1 - s.1) (at0, 1) ⟨(by decide : (0 : Int) ≤ 1), (by simp only; omega), (by simp only; omega), (by simpa [endAt] using hr)⟩ (by apply Weak.mk' <;> simp [vl]) (fun _ _ => rfl) ?_
  rintro ⟨p, need⟩ ⟨i1, i2, i3, i4⟩
  simp only at i1 i2 i3 i4
  by_cases hn0 : need = 0
  · subst hn0
    rw [if_pos rfl] at i4
    repeat' (first
 |refine aK fun K hK=>?_|refine Step.by1 ?_|refine sE (by decide) ?_|refine cz rfl ?_|refine Fork.by2 (fun h=>?_) fun h=>?_
 |(refine aR ?_;simp [vl])
 |(refine Split.by2 (fun h=>?_) (fun h=>?_)<;>(simp [h, vl]))
 |(apply hK;clear hK K)|refine AWh ‹_› ?_)
    exact r1q (cE (by simp [i4]) rfl)
  · rw [if_neg hn0] at i4
    have hnp : 0 < need := by omega
    by_cases hlt : p < l.length
    · have hlt' : (p : Int) < l.length := by omega
      have hlt2 : ¬ (l.length : Int) ≤ p := by omega
      have hlt3 : ¬ l.length ≤ p := by omega
      obtain ⟨x, hx⟩ : ∃ x, l[p] = x := ⟨_, rfl⟩
      have hxo := hl2 x (hx ▸ List.getElem_mem hlt)
      have hc := c_of x.op hxo.1
      have hk := kparts_le x.op
      rw [List.drop_eq_getElem_cons hlt, hx] at i4
      unfold endL at i4
      simp only [kcells] at hc
      generalize kparts x.op = kp at *
      repeat' (first
 |refine aK fun K hK=>?_|refine Step.by1 ?_|refine sE (by decide) ?_|refine cz rfl ?_|refine Fork.by2 (fun h=>?_) fun h=>?_
 |((first|refine aR ?_|refine aC (f:=241) rfl rfl (hc) rfl rfl rfl ?_);simp [vl, NodeD.cells, hlt, hlt', hlt2, hlt3, hnp, hx, wI];try (simp (disch:=omega) only [wI];try simp [vl, NodeD.cells, hlt, hlt', hlt2, hlt3, hnp, hx, wI]))
 |(refine Split.by2 (fun h=>?_) (fun h=>?_)<;>(simp [h, vl, NodeD.cells, hlt, hlt', hlt2, hlt3, hnp, hx, wI];try (simp (disch:=omega) only [wI];try simp [vl, NodeD.cells, hlt, hlt', hlt2, hlt3, hnp, hx, wI])))
 |(apply hK;clear hK K)|refine AWh ‹_› ?_)
      refine ⟨p + 1, need + kp - 1, ⟨by omega, by omega, by omega, ?_⟩, by omega, ?_⟩
      · by_cases hc0 : need + kp - 1 = 0
        · rw [if_pos hc0] at i4 ⊢; push_cast; exact i4
        · rw [if_neg hc0] at i4 ⊢; push_cast; exact i4
      · apply Weak.mk' <;> simp [vl]
    · have hge : (l.length : Int) ≤ p := by omega
      have hge3 : l.length ≤ p := by omega
      rw [List.drop_eq_nil_of_le (by omega)] at i4
      unfold endL at i4
      repeat' (first
 |refine aK fun K hK=>?_|refine Step.by1 ?_|refine sE (by decide) ?_|refine cz rfl ?_|refine Fork.by2 (fun h=>?_) fun h=>?_
 |(refine aR ?_;simp [vl, hge, hge3, hnp])
 |(refine Split.by2 (fun h=>?_) (fun h=>?_)<;>(simp [h, vl, hge, hge3, hnp]))
 |(apply hK;clear hK K)|refine AWh ‹_› ?_)
      exact r1q (cE (by simp [i4]) rfl)
theorem c_IsTruth (l : List NodeD) (hl : ∀ x ∈ l, x.ok) : PC 190 [vl NodeD.cells l] (.bool (match l with | [] => false | x :: _ => ktruth x.op)) := by
  cases l with
  | nil =>
    refine pB Tryz.func190 rfl (by decide) Tryz.ntmps190 (by simp) Tryz.results190 ?_
    repeat' (first
 |refine aK fun K hK=>?_|refine Step.by1 ?_|refine sE (by decide) ?_|refine cz rfl ?_|refine Fork.by2 (fun h=>?_) fun h=>?_
 |(refine aR ?_;simp [vl])
 |(refine Split.by2 (fun h=>?_) (fun h=>?_)<;>(simp [h, vl]))
 |(apply hK;clear hK K)|refine AWh ‹_› ?_)
    exact r1q (cE rfl rfl)
  | cons x r =>
    have hc := c_of x.op (hl x (.head _)).1
    simp only [kcells] at hc
    have h1 : ¬ (r.length : Int) + 1 = 0 := by omega
    have h2 : (0 : Int) < (r.length : Int) + 1 := by omega
    refine pB Tryz.func190 rfl (by decide) Tryz.ntmps190 (by simp) Tryz.results190 ?_
    repeat' (first
 |refine aK fun K hK=>?_|refine Step.by1 ?_|refine sE (by decide) ?_|refine cz rfl ?_|refine Fork.by2 (fun h=>?_) fun h=>?_
 |((first|refine aR ?_|refine aC (f:=241) rfl rfl (hc) rfl rfl rfl ?_);simp [vl, NodeD.cells, h1, h2])
 |(refine Split.by2 (fun h=>?_) (fun h=>?_)<;>(simp [h, vl, NodeD.cells, h1, h2]))
 |(apply hK;clear hK K)|refine AWh ‹_› ?_)
    exact r1q (cE rfl rfl)
theorem known_cases {o : Int} (h : 1 ≤ o ∧ o ≤ 14) : o = 1 ∨ o = 2 ∨ o = 3 ∨ o = 4 ∨ o = 5 ∨ o = 6 ∨ o = 7 ∨ o = 8 ∨ o = 9 ∨ o = 10 ∨ o = 11 ∨ o = 12 ∨ o = 13 ∨ o = 14 := by omega
theorem ktruth_eq (o : Int) : ktruth o = decide (7 ≤ o ∧ o ≤ 14) := by
  by_cases h : 1 ≤ o ∧ o ≤ 14
  · rcases known_cases h with rfl | rfl | rfl | rfl | rfl | rfl | rfl | rfl | rfl | rfl | rfl | rfl | rfl | rfl <;> decide
  · have hk : known o = false := by simpa [known] using h
    have : ¬ (7 ≤ o ∧ o ≤ 14) := by omega
    simp [ktruth, kindO, hk, this]
def wgt (x : NodeD) : Int := kparts x.op - 1
def sumL : List NodeD → Int
  | [] => 0
  | x :: r => wgt x + sumL r
theorem sumL_append : ∀ (a b : List NodeD), sumL (a ++ b) = sumL a + sumL b
  | [], b => by simp [sumL]
  | x :: r, b => by simp [sumL, sumL_append r b]; omega
theorem endL_spec : ∀ (l : List NodeD) (need at_ : Int), 1 ≤ need →
    (∃ m : Nat, 1 ≤ m ∧ m ≤ l.length ∧ endL l need at_ = at_ + m ∧ need + sumL (l.take m) = 0 ∧ ∀ k, k < m → 0 < need + sumL (l.take k)) ∨ (endL l need at_ = 0 ∧ ∀ k, k ≤ l.length → 0 < need + sumL (l.take k))
  | [], need, at_, h => .inr ⟨rfl, fun k hk => by simp at hk; subst hk; simp [sumL]; omega⟩
  | x :: r, need, at_, h => by
    have hk := kparts_le x.op
    unfold endL
    by_cases h0 : need + kparts x.op - 1 = 0
    · rw [if_pos h0]
      refine .inl ⟨1, by omega, by simp, by simp, by simp [sumL, wgt]; omega, fun k hk => ?_⟩
      have : k = 0 := by omega
      subst this; simp [sumL]; omega
    · rw [if_neg h0]
      have hstep : ∀ k, 0 < k → need + sumL ((x :: r).take k) = need + kparts x.op - 1 + sumL (r.take (k - 1)) := fun k hk => by
        obtain ⟨j, rfl⟩ : ∃ j, k = j + 1 := ⟨k - 1, by omega⟩
        simp [sumL, wgt]; omega
      have hz : need + sumL ((x :: r).take 0) = need := by simp [sumL]
      rcases endL_spec r (need + kparts x.op - 1) (at_ + 1) (by omega) with ⟨m, h1, h2, h3, h4, h5⟩ | ⟨h3, h5⟩
      · refine .inl ⟨m + 1, by omega, by simp; omega, by rw [h3]; push_cast; omega, by rw [hstep _ (by omega)]; simpa using h4, fun k hk => ?_⟩
        rcases Nat.eq_zero_or_pos k with h | h
        · subst h; rw [hz]; omega
        · rw [hstep k h]; exact h5 (k - 1) (by omega)
      · refine .inr ⟨h3, fun k hk => ?_⟩
        rcases Nat.eq_zero_or_pos k with h | h
        · subst h; rw [hz]; omega
        · rw [hstep k h]; exact h5 (k - 1) (by simp at hk; omega)
def numN (l : List NodeD) (j : Nat) : Int := 1 + sumL (l.take j)
theorem numN_succ {l : List NodeD} {j : Nat} (h : j < l.length) : numN l (j + 1) = numN l j + kparts l[j].op - 1 := by
  unfold numN
  rw [List.take_add_one, List.getElem?_eq_getElem h, sumL_append]
  simp [sumL, wgt]; omega
structure WholeL (l : List NodeD) : Prop where
  pos : ∀ j, j < l.length → 0 < numN l j
  zero : numN l l.length = 0
theorem whole_of {l : List NodeD} (h0 : 0 < l.length) (h : endAt l 0 = l.length) : WholeL l := by
  unfold endAt at h
  simp only [List.drop_zero] at h
  rcases endL_spec l 1 ((0 : Nat) : Int) (by omega) with ⟨m, h1, h2, h3, h4, h5⟩ | ⟨h3, _⟩
  · have hm : m = l.length := by rw [h] at h3; omega
    subst hm
    exact ⟨fun j hj => h5 j hj, h4⟩
  · rw [h3] at h; omega
theorem whole_end {l : List NodeD} (w : WholeL l) {j : Nat} (hj : j < l.length) : ∃ e : Nat, endAt l j = e ∧ j < e ∧ e ≤ l.length ∧ numN l e = numN l j - 1 := by
  have hsum : ∀ k, sumL (l.take (j + k)) = sumL (l.take j) + sumL ((l.drop j).take k) := fun k => by rw [List.take_add, sumL_append]
  rcases endL_spec (l.drop j) 1 (j : Int) (by omega) with ⟨m, h1, h2, h3, h4, h5⟩ | ⟨h3, h5⟩
  · rw [List.length_drop] at h2
    refine ⟨j + m, by unfold endAt; rw [h3]; push_cast; rfl, by omega, by omega, ?_⟩
    unfold numN; rw [hsum]; omega
  · exfalso
    have h6 := h5 (l.length - j) (by simp)
    have h7 := w.zero
    have h8 := w.pos j hj
    unfold numN at h7 h8
    have h9 := hsum (l.length - j)
    rw [show j + (l.length - j) = l.length by omega] at h9
    omega
/-- What is wrong with a node by itself; with its parts. -/
def nodeBad (k : Int) (x : NodeD) : Bool := !known x.op || decide (x.n < 0 ∨ (if x.op = 1 then 1048576 else if x.op = 2 then (if k < 0 then 0 else k) - 1 else 0) < x.n)
def kidsBad (l : List NodeD) (tk : Bool) : Nat → Nat → Bool
  | 0, _ => false
  | q + 1, at_ => (ktruth (l.getD at_ default).op != tk) || kidsBad l tk q (endAt l at_).toNat
def rightAt (l : List NodeD) (k : Int) (i : Nat) : Bool := nodeBad k (l.getD i default) || kidsBad l (ktakes (l.getD i default).op) (kparts (l.getD i default).op).toNat (i + 1)
def rightE (l : List NodeD) (k : Int) : Int := if l.length = 0 ∨ 64 < l.length ∨ endAt l 0 ≠ l.length then 121 else if (List.range l.length).any (rightAt l k) then 121 else 0
theorem rightE_bad {l : List NodeD} {k : Int} {i : Nat} (hi : i < l.length) (h : rightAt l k i = true) : rightE l k = 121 := by
  unfold rightE
  split
  · rfl
  · rw [if_pos (List.any_eq_true.2 ⟨i, List.mem_range.2 hi, h⟩)]
theorem rightE_good {l : List NodeD} {k : Int} (h0 : ¬ (l.length = 0 ∨ 64 < l.length ∨ endAt l 0 ≠ l.length)) (h : ∀ i, i < l.length → rightAt l k i = false) : rightE l k = 0 := by
  unfold rightE
  rw [if_neg h0, if_neg]
  rw [List.any_eq_true]
  rintro ⟨i, hi, hb⟩
  rw [h i (List.mem_range.1 hi)] at hb; cases hb
theorem kidsBad_succ {l : List NodeD} {tk : Bool} {q a : Nat} : kidsBad l tk (q + 1) a = ((ktruth (l.getD a default).op != tk) || kidsBad l tk q (endAt l a).toNat) := rfl
set_option maxRecDepth 40000 in
set_option maxHeartbeats 8000000 in
theorem c_Right (l : List NodeD) (k : Int) (hl : l.length ≤ 1048576 ∧ ∀ x ∈ l, x.ok) (hk64 : I64 k) : PC 189 [vl NodeD.cells l, .int .i64 k] (.int .i64 (rightE l k)) := by
  have hend := c_End l hl 0 (by omega)
  obtain ⟨hl1, hl2⟩ := hl
  have hb121 := fun i hi h => rightE_bad (l := l) (k := k) (i := i) hi h
  have hg0 := rightE_good (l := l) (k := k)
  have hend' := fun j (hj : j ≤ 1099511627776) => c_End l ⟨hl1, hl2⟩ j hj
  by_cases hs : l.length = 0 ∨ 64 < l.length ∨ endAt l 0 ≠ l.length
  · have hr : rightE l k = 121 := by unfold rightE; rw [if_pos hs]
    rw [hr]
    simp only [vl] at hend
    generalize endAt l 0 = e0 at *
    refine pB Tryz.func189 rfl (by decide) Tryz.ntmps189 (by simp) Tryz.results189 ?_
    repeat' (first
 |refine aK fun K hK=>?_|refine Step.by1 ?_|refine sE (by decide) ?_|refine cz rfl ?_|refine Fork.by2 (fun h=>?_) fun h=>?_
 |((first|refine aR ?_|refine aC (f:=240) rfl rfl (hend) rfl rfl rfl ?_);simp [vl])
 |(refine Split.by2 (fun h=>?_) (fun h=>?_)<;>(simp [h, vl]))
 |(apply hK;clear hK K)|refine AWh ‹_› ?_)
    all_goals first
      | exact r1q (cE rfl rfl)
      | (exfalso; omega)
      | (exfalso; rcases hs with h' | h' | h'; exact absurd (List.eq_nil_of_length_eq_zero h') (by assumption); omega; omega)
  · have hg := hg0 hs
    obtain ⟨s1, s2, s3⟩ : ¬ (l.length : Int) = 0 ∧ ¬ (64 : Int) < l.length ∧ endAt l 0 = l.length := by
      refine ⟨by omega, by omega, ?_⟩
      by_cases h : endAt l 0 = l.length
      · exact h
      · exact absurd (.inr (.inr h)) hs
    have w := whole_of (by omega) s3
    rw [s3] at hend
    simp only [vl] at hend hend'
    obtain ⟨r, hr⟩ : ∃ r, rightE l k = r := ⟨_, rfl⟩
    rw [hr] at hb121 hg ⊢
    have s4 : ¬ l.length = 0 := by omega
    have s5 : ¬ 64 < l.length := by omega
    refine pB Tryz.func189 rfl (by decide) Tryz.ntmps189 (by simp) Tryz.results189 ?_
    repeat' (first
 |refine aK fun K hK=>?_|refine Step.by1 ?_|refine sE (by decide) ?_|refine cz rfl ?_|refine Fork.by2 (fun h=>?_) fun h=>?_
 |((first|refine aR ?_|refine aC (f:=240) rfl rfl (hend) rfl rfl rfl ?_);simp [vl, s1, s2, s4, s5])
 |(refine Split.by2 (fun h=>?_) (fun h=>?_)<;>(simp [h, vl, s1, s2, s4, s5]))
 |(apply hK;clear hK K)|refine AWh ‹_› ?_)
    refine aL [0, 1, 28, 29] (fun i : Nat => [(30, .int .i64 i)]) (fun _ => []) (fun i => i ≤ l.length ∧ ∀ j, j < i → rightAt l k j = false) (fun i => l.length - i) 0 ⟨Nat.zero_le _, fun j hj => by omega⟩ (by apply Weak.mk' <;> simp [vl]) (fun _ _ => rfl) ?_
    rintro i ⟨hi, hpre⟩
    by_cases hlt : i < l.length
    · have hbad := hb121 i hlt
      have hN := w.pos i hlt
      have hN1 := numN_succ hlt
      obtain ⟨x, hx⟩ : ∃ x, l[i] = x := ⟨_, rfl⟩
      have hxo := hl2 x (hx ▸ List.getElem_mem hlt)
      have hgd : l.getD i default = x := by simp [List.getD, hlt, hx]
      have hra : rightAt l k i = (nodeBad k x || kidsBad l (ktakes x.op) (kparts x.op).toNat (i + 1)) := by unfold rightAt; rw [hgd]
      have hc := c_of x.op hxo.1
      have hkp := kparts_le x.op
      rw [hx] at hN1
      simp only [kcells] at hc
      have hnb : nodeBad k x = (!known x.op || decide (x.n < 0 ∨ (if x.op = 1 then 1048576 else if x.op = 2 then (if k < 0 then 0 else k) - 1 else 0) < x.n)) := rfl
      generalize hkn : known x.op = kn at *
      obtain ⟨m, hm⟩ : ∃ m, (if x.op = 1 then (1048576 : Int) else if x.op = 2 then (if k < 0 then 0 else k) - 1 else 0) = m := ⟨_, rfl⟩
      rw [hm] at hnb
      have hw1 : IntKind.i64.wrap ((if k < 0 then 0 else k) - 1) = (if k < 0 then 0 else k) - 1 := wI (by unfold I64 at hk64; split <;> omega) (by unfold I64 at hk64; split <;> omega)
      repeat' (first
 |refine aK fun K hK=>?_|refine Step.by1 ?_|refine sE (by decide) ?_|refine cz rfl ?_|refine Fork.by2 (fun h=>?_) fun h=>?_
 |((first|refine aR ?_|refine aC (f:=241) rfl rfl (hc) rfl rfl rfl ?_);simp [vl, NodeD.cells, hlt, hx, hw1, wI];try (simp (disch:=omega) only [wI];try simp [vl, NodeD.cells, hlt, hx, hw1, wI]))
 |(refine Split.by2 (fun h=>?_) (fun h=>?_)<;>(simp [h, vl, NodeD.cells, hlt, hx, hw1, wI];try (simp (disch:=omega) only [wI];try simp [vl, NodeD.cells, hlt, hx, hw1, wI])))
 |(apply hK;clear hK K)|refine AWh ‹_› ?_)
      all_goals first
        | exact r1q (cE (by simp; exact (hbad (by rw [hra, hnb, ← hm]; simp [*])).symm) rfl)
        | skip
      all_goals
        have hnf : nodeBad k x = false := by rw [hnb, ← hm]; simp [*]; try omega
        rw [hnf, Bool.false_or] at hra
        obtain ⟨p, hp⟩ := Int.eq_ofNat_of_zero_le hkp.1
        rw [hp] at hN1 hra
        simp only [Int.toNat_natCast] at hra
        obtain ⟨tk, htk⟩ : ∃ tk, ktakes x.op = tk := ⟨_, rfl⟩
        rw [htk] at hra
        rw [hp, htk]
        refine aL [0, 1, 7, 28, 29, 30, 66] (fun s : Nat × Nat => [(67, .int .i64 (s.1 : Int)), (10, .int .i64 (s.2 : Int))]) (fun _ => [.var x.cells, .var [.int .i64 (p : Int), .bool (ktruth x.op), .bool tk, .str (ksign x.op), .int .i64 (kbinds x.op)]]) (fun s => s.1 ≤ p ∧ s.2 ≤ l.length ∧ ((p : Int) - s.1) ≤ numN l s.2 ∧ kidsBad l tk (p - s.1) s.2 = kidsBad l tk p (i + 1)) (fun s => p - s.1) (0, i + 1) ⟨Nat.zero_le _, (by simp only; omega), (by simp only; omega), rfl⟩ (by apply Weak.mk' <;> simp [vl, NodeD.cells]) (fun _ _ => rfl) ?_
        rintro ⟨q, a⟩ ⟨j1, j2, j3, j4⟩
        simp only at j1 j2 j3 j4
        by_cases hq : q < p
        · have hq' : (q : Int) < p := by omega
          have hal : a < l.length := by
            rcases Nat.lt_or_ge a l.length with h' | h'
            · exact h'
            · have h2 := w.zero
              rw [show a = l.length by omega] at j3
              omega
          obtain ⟨e, he1, he2, he3, he4⟩ := whole_end w hal
          have hce := hend' a (by omega)
          rw [he1] at hce
          obtain ⟨y, hy⟩ : ∃ y, l[a] = y := ⟨_, rfl⟩
          have hyo := hl2 y (hy ▸ List.getElem_mem hal)
          have hcy := c_of y.op hyo.1
          simp only [kcells] at hcy
          rw [show p - q = (p - (q + 1)) + 1 by omega] at j4
          rw [kidsBad_succ] at j4
          rw [show l.getD a default = y by simp [List.getD, hal, hy], he1, Int.toNat_natCast] at j4
          have hal' : (a : Int) < l.length := by omega
          by_cases hty : ktruth y.op = tk
          · have hbt : (ktruth y.op == tk) = true := by simp [hty]
            rw [show (ktruth y.op != tk) = false by simp [hty], Bool.false_or] at j4
            repeat' (first
 |refine aK fun K hK=>?_|refine Step.by1 ?_|refine sE (by decide) ?_|refine cz rfl ?_|refine Fork.by2 (fun h=>?_) fun h=>?_
 |((first|refine aR ?_|refine aC (f:=241) rfl rfl (hcy) rfl rfl rfl ?_|refine aC (f:=240) rfl rfl (hce) rfl rfl rfl ?_);simp [vl, NodeD.cells, hq, hq', hal, hal', hy, hbt, wI];try (simp (disch:=omega) only [wI];try simp [vl, NodeD.cells, hq, hq', hal, hal', hy, hbt, wI]))
 |(refine Split.by2 (fun h=>?_) (fun h=>?_)<;>(simp [h, vl, NodeD.cells, hq, hq', hal, hal', hy, hbt, wI];try (simp (disch:=omega) only [wI];try simp [vl, NodeD.cells, hq, hq', hal, hal', hy, hbt, wI])))
 |(apply hK;clear hK K)|refine AWh ‹_› ?_)
            refine ⟨q + 1, e, ⟨by omega, he3, by push_cast; omega, j4⟩, by omega, ?_⟩
            apply Weak.mk' <;> simp [vl, NodeD.cells]
          · have hbt : (ktruth y.op == tk) = false := by simp [hty]
            rw [show (ktruth y.op != tk) = true by simp [hty], Bool.true_or] at j4
            rw [← j4] at hra
            have hr1 := hbad hra
            repeat' (first
 |refine aK fun K hK=>?_|refine Step.by1 ?_|refine sE (by decide) ?_|refine cz rfl ?_|refine Fork.by2 (fun h=>?_) fun h=>?_
 |((first|refine aR ?_|refine aC (f:=241) rfl rfl (hcy) rfl rfl rfl ?_);simp [vl, NodeD.cells, hq, hq', hal, hal', hy, hbt, wI];try (simp (disch:=omega) only [wI];try simp [vl, NodeD.cells, hq, hq', hal, hal', hy, hbt, wI]))
 |(refine Split.by2 (fun h=>?_) (fun h=>?_)<;>(simp [h, vl, NodeD.cells, hq, hq', hal, hal', hy, hbt, wI];try (simp (disch:=omega) only [wI];try simp [vl, NodeD.cells, hq, hq', hal, hal', hy, hbt, wI])))
 |(apply hK;clear hK K)|refine AWh ‹_› ?_)
            exact r1q (cE (by simp [hr1]) rfl)
        · have hqe : q = p := by omega
          subst hqe
          rw [Nat.sub_self] at j4
          rw [← j4] at hra
          have hra' : rightAt l k i = false := hra
          repeat' (first
 |refine aK fun K hK=>?_|refine Step.by1 ?_|refine sE (by decide) ?_|refine cz rfl ?_|refine Fork.by2 (fun h=>?_) fun h=>?_
 |(refine aR ?_;simp [vl, NodeD.cells, wI];try (simp (disch:=omega) only [wI];try simp [vl, NodeD.cells, wI]))
 |(refine Split.by2 (fun h=>?_) (fun h=>?_)<;>(simp [h, vl, NodeD.cells, wI];try (simp (disch:=omega) only [wI];try simp [vl, NodeD.cells, wI])))
 |(apply hK;clear hK K)|refine AWh ‹_› ?_)
          refine ⟨i + 1, ⟨by omega, fun j hj => ?_⟩, by omega, ?_⟩
          · rcases Nat.lt_or_ge j i with h' | h'
            · exact hpre j h'
            · rw [show j = i by omega]; exact hra'
          · apply Weak.mk' <;> simp [vl]
    · have hie : i = l.length := by omega
      subst hie
      have hr0 := hg hpre
      repeat' (first
 |refine aK fun K hK=>?_|refine Step.by1 ?_|refine sE (by decide) ?_|refine cz rfl ?_|refine Fork.by2 (fun h=>?_) fun h=>?_
 |(refine aR ?_;simp [vl, hlt])
 |(refine Split.by2 (fun h=>?_) (fun h=>?_)<;>(simp [h, vl, hlt]))
 |(apply hK;clear hK K)|refine AWh ‹_› ?_)
      exact r1q (cE (by simp [hr0]) rfl)
def isTruthB (l : List NodeD) : Bool := match l with
  | [] => false
  | x :: _ => ktruth x.op
theorem c_IsTruthB (l : List NodeD) (hl : ∀ x ∈ l, x.ok) : PC 190 [vl NodeD.cells l] (.bool (isTruthB l)) := by
  have := c_IsTruth l hl
  cases l <;> exact this
def truthBad (n : NetD) (l : List NodeD) : Bool := decide (0 < l.length) && (decide (rightE l n.vars.length ≠ 0) || !isTruthB l)
def truthE (n : NetD) (l : List NodeD) : Int := if truthBad n l = true then 121 else 0
theorem c_truth (n : NetD) (l : List NodeD) (hl : l.length ≤ 1048576 ∧ ∀ x ∈ l, x.ok) (hv : n.vars.length ≤ 1048576) : PC 184 [.agg n.cells, vl NodeD.cells l] (.int .i64 (truthE n l)) := by
  have hR := c_Right l n.vars.length hl ⟨by omega, by omega⟩
  have hT : PC 190 [vl NodeD.cells l] (.bool (isTruthB l)) := c_IsTruthB l hl.2
  obtain ⟨r, hr⟩ : ∃ r, truthE n l = r := ⟨_, rfl⟩
  rw [hr]
  unfold truthE truthBad at hr
  simp only [vl] at hR hT
  generalize rightE l n.vars.length = q at *
  generalize isTruthB l = tb at *
  refine pB Tryz.func184 rfl (by decide) Tryz.ntmps184 (by simp) Tryz.results184 ?_
  repeat' (first
 |refine aK fun K hK=>?_|refine Step.by1 ?_|refine sE (by decide) ?_|refine cz rfl ?_|refine Fork.by2 (fun h=>?_) fun h=>?_
 |((first|refine aR ?_|refine aC (f:=189) rfl rfl (hR) rfl rfl rfl ?_|refine aC (f:=190) rfl rfl (hT) rfl rfl rfl ?_);simp [vl, NetD.cells])
 |(refine Split.by2 (fun h=>?_) (fun h=>?_)<;>(simp [h, vl, NetD.cells]))
 |(apply hK;clear hK K)|refine AWh ‹_› ?_)
  all_goals (try clear hR hT)
  all_goals first
    | exact r1q (cE (by rw [← hr]; simp [*]; done) rfl)
    | exact r1q (cE (by rw [← hr]; simp [*]; omega) rfl)
def testS (n : NetD) (s : SetD) : Bool := decide (s.clock = 0) && (decide (s.var < 0 ∨ (n.vars.length : Int) ≤ s.var) || (decide (rightE s.expr n.vars.length ≠ 0) || isTruthB s.expr))
def testsA (n : NetD) (a : AutoD) : Bool := anyL (fun e => truthBad n e.test) a.edges
def testsE (n : NetD) : Int := if anyL (testsA n) n.autos = true then 121 else if anyL (testS n) (setsL n) = true then 121 else 0
theorem setsL_mem {n : NetD} {s : SetD} (h : s ∈ setsL n) : ∃ a ∈ n.autos, ∃ e ∈ a.edges, s ∈ e.sets := by
  unfold setsL setsA at h
  simp only [List.mem_flatMap] at h
  exact h
set_option maxRecDepth 8000 in
set_option maxHeartbeats 8000000 in
theorem c_tests (n : NetD) (hn : n.ok) (hz : Small n) : PC 234 [.agg n.cells] (.int .i64 (testsE n)) := by
  have hs := c_sets n hz
  have hsl := setsL_len hz
  have hso : ∀ s ∈ setsL n, s.ok := fun s h => by
    obtain ⟨a, h1, e, h2, h3⟩ := setsL_mem h
    exact (((hn.2.2.2.2 a h1).2.2.2 e h2).2.2.2.2.2.2.2 s h3)
  have hvars : n.vars.length ≤ 1048576 := hn.2.1.1
  obtain ⟨_, _, _, h4, h5⟩ := hn
  obtain ⟨r, hr⟩ : ∃ r, testsE n = r := ⟨_, rfl⟩
  rw [hr]
  unfold testsE at hr
  refine pB Tryz.func234 rfl (by decide) Tryz.ntmps234 (by simp) Tryz.results234 ?_
  repeat' (first
 |refine aK fun K hK=>?_|refine Step.by1 ?_|refine sE (by decide) ?_|refine cz rfl ?_|refine Fork.by2 (fun h=>?_) fun h=>?_
 |(refine aR ?_;simp [vl, NetD.cells])
 |(refine Split.by2 (fun h=>?_) (fun h=>?_)<;>(simp [h, vl, NetD.cells]))
 |(apply hK;clear hK K)|refine AWh ‹_› ?_)
  refine aS1 (n.autos) 13 [1, 11, 12] (anyL (testsA n)) rfl (by apply Weak.mk' <;> simp [vl]) ?_ ?_
  · intro i a _ hlt ha hF
    have hoa := h5 a (ha ▸ List.getElem_mem hlt)
    obtain ⟨_, _, he1, he2⟩ := hoa
    rw [anC] at hF
    have hA : testsA n a = anyL (fun e => truthBad n e.test) a.edges := rfl
    repeat' (first
 |refine aK fun K hK=>?_|refine Step.by1 ?_|refine sE (by decide) ?_|refine cz rfl ?_|refine Fork.by2 (fun h=>?_) fun h=>?_
 |(refine aR ?_;simp [vl, AutoD.cells, hlt, ha, wI];try (simp (disch:=omega) only [wI];try simp [vl, AutoD.cells, hlt, ha, wI]))
 |(refine Split.by2 (fun h=>?_) (fun h=>?_)<;>(simp [h, vl, AutoD.cells, hlt, ha, wI];try (simp (disch:=omega) only [wI];try simp [vl, AutoD.cells, hlt, ha, wI])))
 |(apply hK;clear hK K)|refine AWh ‹_› ?_)
    refine aS1 (a.edges) 20 [1, 11, 12, 13, 18, 19] (anyL (fun e => truthBad n e.test)) rfl (by apply Weak.mk' <;> simp [vl]) ?_ ?_
    · intro m y _ hmt hy hM
      have hoy := he2 y (hy ▸ List.getElem_mem hmt)
      rw [anC] at hM
      have hc := c_truth n y.test hoy.2.2.2.1 hvars
      have hte : truthE n y.test = if truthBad n y.test = true then 121 else 0 := rfl
      simp only [NetD.cells, vl] at hc
      by_cases hb : truthBad n y.test = true
      · rw [hb, Bool.true_or] at hM
        rw [hA, ← hM, Bool.true_or] at hF
        rw [← hF, if_pos rfl] at hr
        rw [hte, if_pos hb] at hc
        repeat' (first
 |refine aK fun K hK=>?_|refine Step.by1 ?_|refine sE (by decide) ?_|refine cz rfl ?_|refine Fork.by2 (fun h=>?_) fun h=>?_
 |((first|refine aR ?_|refine aC (f:=184) rfl rfl (hc) rfl rfl rfl ?_);simp [vl, EdgeD.cells, NetD.cells, hmt, hy, wI];try (simp (disch:=omega) only [wI];try simp [vl, EdgeD.cells, NetD.cells, hmt, hy, wI]))
 |(refine Split.by2 (fun h=>?_) (fun h=>?_)<;>(simp [h, vl, EdgeD.cells, NetD.cells, hmt, hy, wI];try (simp (disch:=omega) only [wI];try simp [vl, EdgeD.cells, NetD.cells, hmt, hy, wI])))
 |(apply hK;clear hK K)|refine AWh ‹_› ?_)
        all_goals first
          | exact r1q (cE (by simp [← hr]) rfl)
      · rw [hte, if_neg hb] at hc
        have hb' : truthBad n y.test = false := by simpa using hb
        rw [hb', Bool.false_or] at hM
        repeat' (first
 |refine aK fun K hK=>?_|refine Step.by1 ?_|refine sE (by decide) ?_|refine cz rfl ?_|refine Fork.by2 (fun h=>?_) fun h=>?_
 |((first|refine aR ?_|refine aC (f:=184) rfl rfl (hc) rfl rfl rfl ?_);simp [vl, EdgeD.cells, NetD.cells, hmt, hy, wI];try (simp (disch:=omega) only [wI];try simp [vl, EdgeD.cells, NetD.cells, hmt, hy, wI]))
 |(refine Split.by2 (fun h=>?_) (fun h=>?_)<;>(simp [h, vl, EdgeD.cells, NetD.cells, hmt, hy, wI];try (simp (disch:=omega) only [wI];try simp [vl, EdgeD.cells, NetD.cells, hmt, hy, wI])))
 |(apply hK;clear hK K)|refine AWh ‹_› ?_)
        all_goals first
          | (refine ⟨hM, ?_⟩; apply Weak.mk' <;> simp [vl, AutoD.cells, NetD.cells])
    · intro hM
      rw [hA, ← hM, anyL_nil, Bool.false_or] at hF
      repeat' (first
 |refine aK fun K hK=>?_|refine Step.by1 ?_|refine sE (by decide) ?_|refine cz rfl ?_|refine Fork.by2 (fun h=>?_) fun h=>?_
 |(refine aR ?_;simp [vl, wI];try (simp (disch:=omega) only [wI];try simp [vl, wI]))
 |(refine Split.by2 (fun h=>?_) (fun h=>?_)<;>(simp [h, vl, wI];try (simp (disch:=omega) only [wI];try simp [vl, wI])))
 |(apply hK;clear hK K)|refine AWh ‹_› ?_)
      all_goals first
        | (refine ⟨hF, ?_⟩; apply Weak.mk' <;> simp [vl, NetD.cells])
  · intro hF
    rw [← hF, anyL_nil, if_neg (by simp)] at hr
    generalize setsL n = ss at *
    simp only [NetD.cells, vl] at hs
    repeat' (first
 |refine aK fun K hK=>?_|refine Step.by1 ?_|refine sE (by decide) ?_|refine cz rfl ?_|refine Fork.by2 (fun h=>?_) fun h=>?_
 |((first|refine aR ?_|refine aC (f:=270) rfl rfl (hs) rfl rfl rfl ?_);simp [vl, NetD.cells])
 |(refine Split.by2 (fun h=>?_) (fun h=>?_)<;>(simp [h, vl, NetD.cells]))
 |(apply hK;clear hK K)|refine AWh ‹_› ?_)
    refine aS1 (ss) 36 [1, 34, 35] (anyL (testS n)) rfl (by apply Weak.mk' <;> simp [vl]) ?_ ?_
    · intro i x _ hlt hx hM
      rw [anC] at hM
      have hxo := hso x (hx ▸ List.getElem_mem hlt)
      have hR := c_Right x.expr n.vars.length hxo.2.2.2 ⟨by omega, by omega⟩
      have hT : PC 190 [vl NodeD.cells x.expr] (.bool (isTruthB x.expr)) := c_IsTruthB x.expr hxo.2.2.2.2
      have hw : testS n x = (decide (x.clock = 0) && (decide (x.var < 0 ∨ (n.vars.length : Int) ≤ x.var) || (decide (rightE x.expr n.vars.length ≠ 0) || isTruthB x.expr))) := rfl
      simp only [vl] at hR hT
      generalize rightE x.expr n.vars.length = q at *
      generalize isTruthB x.expr = tb at *
      repeat' (first
 |refine aK fun K hK=>?_|refine Step.by1 ?_|refine sE (by decide) ?_|refine cz rfl ?_|refine Fork.by2 (fun h=>?_) fun h=>?_
 |((first|refine aR ?_|refine aC (f:=189) rfl rfl (hR) rfl rfl rfl ?_|refine aC (f:=190) rfl rfl (hT) rfl rfl rfl ?_);simp [vl, SetD.cells, NetD.cells, hlt, hx, wI];try (simp (disch:=omega) only [wI];try simp [vl, SetD.cells, NetD.cells, hlt, hx, wI]))
 |(refine Split.by2 (fun h=>?_) (fun h=>?_)<;>(simp [h, vl, SetD.cells, NetD.cells, hlt, hx, wI];try (simp (disch:=omega) only [wI];try simp [vl, SetD.cells, NetD.cells, hlt, hx, wI])))
 |(apply hK;clear hK K)|refine AWh ‹_› ?_)
      all_goals (try clear hR hT)
      all_goals first
        | exact r1q (cE (by rw [← hr, ← hM, hw]; simp [*]; done) rfl)
        | exact r1q (cE (by rw [← hr, ← hM, hw]; simp [*]; omega) rfl)
        | (refine ⟨by rw [← hM, hw]; simp [*]; done, ?_⟩; apply Weak.mk' <;> simp [vl, NetD.cells])
        | (refine ⟨by rw [← hM, hw]; simp [*]; omega, ?_⟩; apply Weak.mk' <;> simp [vl, NetD.cells])
    · intro hM
      repeat' (first
 |refine aK fun K hK=>?_|refine Step.by1 ?_|refine sE (by decide) ?_|refine cz rfl ?_|refine Fork.by2 (fun h=>?_) fun h=>?_
 |(refine aR ?_;simp [vl, NetD.cells])
 |(refine Split.by2 (fun h=>?_) (fun h=>?_)<;>(simp [h, vl, NetD.cells]))
 |(apply hK;clear hK K)|refine AWh ‹_› ?_)
      exact r1q (cE (by rw [← hr, ← hM, anyL_nil]; simp) rfl)
end Go.Proofs.YtbgooadmonnjaaaGreatDoor
end
