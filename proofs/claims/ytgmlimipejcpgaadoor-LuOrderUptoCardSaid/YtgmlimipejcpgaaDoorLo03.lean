/-
  YtgmlimipejcpgaaDoorLo03: steps of the proof of a law of the program: what these texts prove holds under the hypotheses that their theorems name, and no others.
-/
import Derived.Test.YtgmlimipejcpgaaDoorLo02
section
set_option linter.unusedSimpArgs false
set_option linter.unusedVariables false
namespace Go.Proofs.YtgmlimipejcpgaaDoor
open Go Go.AM Fx
structure NS where
  k : Nat
  more : Bool
  m : List (List Int)
  hc : List B
set_option maxRecDepth 20000 in
set_option maxHeartbeats 16000000 in
theorem c_luSpread {h : List B} {mr gm N : Nat} {fl : Bool} {ids : List (Nat × Nat)} {m0 : List (List Int)} (p0 : MR 30 3 ivs h mr gm fl ids N m0 h) (a : AutoD) (ha : a.ok) (hE : okE a) (b : Nat → Nat → Int) (hs : LS a N b m0) (hN : N ≤ 1048576) :
    GCall Tryd.prog GV 112 [.ref mr gm 0 ids.length, .agg a.cells] h (fun v h' => ∃ more m', v = .bool more ∧ NPass a N b m0 a.edges.length 0 more m' ∧ MR 30 3 ivs h mr gm fl ids N m' h') := by
  have hal := ha.2.1
  have hae := ha.2.2
  have hids : ids.length = a.locs.length := by rw [← p0.ml, hs.len]
  have hmr : mr < h.length := (List.getElem?_eq_some_iff.1 p0.mr).1
  have hml : (mrefs ids N).length = ids.length := by simp [mrefs]
  have hl3 : ∀ {m : List (List Int)} {hc : List B} {e : EdgeD}, MR 30 3 ivs h mr gm fl ids N m hc → HL (hc ++ [B.var a.cells, B.var e.cells]) := fun hm => hm.hl.app (by simp [AutoD.cells, EdgeD.cells, vl])
  refine gB1 Tryd.func112 rfl (by decide) Tryd.ntmps112 (by simp) Tryd.results112 ?_
  repeat' (first
 |refine aK fun K hK=>?_|refine Step.by1 ?_|refine sE (by decide) ?_|refine cz rfl ?_|refine Fork.by2 (fun h=>?_) fun h=>?_
 |(refine aR ?_;simp [vl, AutoD.cells])
 |(refine Split.by2 (fun h=>?_) (fun h=>?_)<;>(simp [h, vl, AutoD.cells]))
 |(apply hK;clear hK K)|refine AWh ‹_› ?_)
  refine aL [0, 12, 13] (fun s : NS => [(5, .bool s.more), (14, .int .i64 s.k)]) (fun s => s.hc ++ [B.var a.cells]) (fun s => s.k ≤ a.edges.length ∧ NPass a N b m0 s.k 0 s.more s.m ∧ MR 30 3 ivs h mr gm fl ids N s.m s.hc) (fun s => a.edges.length - s.k) ⟨0, false, m0, h⟩ ⟨Nat.zero_le _, .init hs, p0⟩
    (Weak.sym (x := []) (by simp [AutoD.cells, vl]) (p0.hl.app (by simp [AutoD.cells, vl])) (by simp [vl, AutoD.cells]; omega)) (fun s hs => by simp [hs.2.2.len]) ?_
  rintro ⟨k, more, m, hc⟩ ⟨hk, hp, hm⟩
  simp only at hk hp hm
  have hlen := hm.len
  have g0 := fun x : List B => ga0 (x := x) hlen
  have g1 := fun (x : List B) (k : Nat) => ga1 (x := x) (k := k) hlen
  have gr : ∀ x : List B, (hc ++ x)[mr]? = some (.row 30 gm 0 fl (mrefs ids N)) := fun x => by rw [get_app (by omega)]; exact hm.mr
  by_cases hkt : k < a.edges.length
  · obtain ⟨e, he⟩ : ∃ e, a.edges[k] = e := ⟨_, rfl⟩
    have he' : a.edges[k]? = some e := by rw [List.getElem?_eq_getElem hkt, he]
    have hem := List.mem_of_getElem? he'
    obtain ⟨⟨f1, f2⟩, t1, t2⟩ := hE e hem
    obtain ⟨p, hpp⟩ := Int.eq_ofNat_of_zero_le f1
    obtain ⟨q, hqq⟩ := Int.eq_ofNat_of_zero_le t1
    have hes := (hae.2 e hem).2.2.2.2.2.2.1
    have hkt' : (k : Int) < a.edges.length := by omega
    have w1 : IntKind.i64.wrap ((k : Int) + 1) = k + 1 := wI (by omega) (by omega)
    have hpl : p < ids.length := by omega
    have hql : q < ids.length := by omega
    have hpl' : (p : Int) < ids.length := by omega
    have hql' : (q : Int) < ids.length := by omega
    obtain ⟨xf, hxf, hmp⟩ := hm.at hpl
    obtain ⟨xt, hxt, hmq⟩ := hm.at hql
    have hxl : xt.1 < h.length := by obtain ⟨_, _, _, h3⟩ := hm.rows q xt hxt; rw [← hlen]; exact (List.getElem?_eq_some_iff.1 h3).1
    repeat' (first
 |refine aK fun K hK=>?_|refine Step.by1 ?_|refine sE (by decide) ?_|refine cz rfl ?_|refine Fork.by2 (fun h=>?_) fun h=>?_
 |(refine aR ?_;simp [vl, AutoD.cells, EdgeD.cells, hkt, hkt', he, hpp, hqq, hlen, g0, g1, gr, hml, hql, hql', hmq])
 |(refine Split.by2 (fun h=>?_) (fun h=>?_)<;>(simp [h, vl, AutoD.cells, EdgeD.cells, hkt, hkt', he, hpp, hqq, hlen, g0, g1, gr, hml, hql, hql', hmq]))
 |(apply hK;clear hK K)|refine AWh ‹_› ?_)
    refine aL [0, 7, 12, 13, 14, 22, 23] (fun s : NS => [(5, .bool s.more), (24, .int .i64 s.k)]) (fun s => s.hc ++ [B.var a.cells, B.var e.cells]) (fun s => s.k ≤ N ∧ NPass a N b m0 k s.k s.more s.m ∧ MR 30 3 ivs h mr gm fl ids N s.m s.hc) (fun s => N - s.k) ⟨0, more, m, hc⟩ ⟨Nat.zero_le _, hp, hm⟩
      (Weak.sym (x := []) (by simp [AutoD.cells, EdgeD.cells, vl, hpp, hqq]) (hl3 hm) (by simp [vl, AutoD.cells, EdgeD.cells, hlen]; omega)) (fun s hs => by simp [hs.2.2.len, hlen]) ?_
    clear hp hm hlen g0 g1 gr
    rintro ⟨j, more, m, hc⟩ ⟨hj, hp, hm⟩
    simp only at hj hp hm
    have hlen := hm.len
    have g0 := fun x : List B => ga0 (x := x) hlen
    have g1 := fun (x : List B) (k : Nat) => ga1 (x := x) (k := k) hlen
    have gr : ∀ x : List B, (hc ++ x)[mr]? = some (.row 30 gm 0 fl (mrefs ids N)) := fun x => by rw [get_app (by omega)]; exact hm.mr
    by_cases hjt : j < N
    · obtain ⟨rt, hrt, hrtl, ht⟩ := hm.rows q xt hxt
      obtain ⟨rf, hrf, hrfl, hf⟩ := hm.rows p xf hxf
      have htl := (List.getElem?_eq_some_iff.1 ht).1
      have hfl := (List.getElem?_eq_some_iff.1 hf).1
      have gt : ∀ x : List B, (hc ++ x)[xt.1]? = some (.row 3 xt.2 0 true (ivs rt)) := fun x => by rw [get_app htl]; exact ht
      have gf : ∀ x : List B, (hc ++ x)[xf.1]? = some (.row 3 xf.2 0 true (ivs rf)) := fun x => by rw [get_app hfl]; exact hf
      have sf : ∀ (x : List B) (y : B), (hc ++ x).set xf.1 y = hc.set xf.1 y ++ x := fun x y => set_app hfl
      have hjt' : (j : Int) < N := by omega
      have w2 : IntKind.i64.wrap ((j : Int) + 1) = j + 1 := wI (by omega) (by omega)
      obtain ⟨v, hv⟩ : ∃ v, rf[j]? = some v := ⟨_, List.getElem?_eq_getElem (by omega)⟩
      obtain ⟨u, hu⟩ : ∃ u, rt[j]? = some u := ⟨_, List.getElem?_eq_getElem (by omega)⟩
      have hcl : (ivs rt).length = N := by simp [ivs, hrtl]
      have hcl2 : (ivs rf).length = N := by simp [ivs, hrfl]
      have hct : (ivs rt)[j]'(by omega) = [V.int .i64 u] := by rw [List.getElem_eq_iff]; simp [ivs, hu]
      have hcf : (ivs rf)[j]'(by omega) = [V.int .i64 v] := by rw [List.getElem_eq_iff]; simp [ivs, hv]
      have hbs : (ivs rf).set j [V.int .i64 u] = ivs (rf.set j u) := by simp [ivs, List.map_set]
      have hpt : e.frm.toNat = p := by omega
      have hqt : e.to.toNat = q := by omega
      have mt : nget m e.to.toNat j = some u := nget_of (r := rt) (by rw [hqt]; exact hrt) hu
      have mf : nget m e.frm.toNat j = some v := nget_of (r := rf) (by rw [hpt]; exact hrf) hv
      have hk1 := hp.keep he'
      have hk2 := fun hsb huv => hp.step he' (r := rf) (by rw [hpt]; exact hrf) mt hsb hv huv
      rw [hpt] at hk2
      have hHl : HL (hc ++ [B.var a.cells, B.var e.cells, B.var [.int .i64 j]]) := hm.hl.app (by simp [AutoD.cells, EdgeD.cells, vl])
      have hb3 : (hc ++ [B.var a.cells, B.var e.cells, B.var [.int .i64 j]])[h.length + 2]? = some (.var [.int .i64 j]) := g1 _ 2
      have hcon := c_hasSet hHl 130 [.ptr (h.length + 2) 0] (by simp [hlen]) (fun s => decide (s.clock = (j : Int) + 1)) (fun s => c_spread1 hHl hb3 (by omega) s) e.sets hes
      have hsbe : anyL (fun s : SetD => decide (s.clock = (j : Int) + 1)) e.sets = setsB ((j : Int) + 1) e.sets := rfl
      rw [hsbe] at hcon
      obtain ⟨sb, hsb⟩ : ∃ sb, setsB ((j : Int) + 1) e.sets = sb := ⟨_, rfl⟩
      rw [hsb] at hcon hk2
      simp only [AutoD.cells, EdgeD.cells, vl, hpp, hqq] at hcon
      have hncl : (sb = true ∨ ¬ v < u) → nclos m e j := fun hor x y hx hs2 hy => by
        rw [mt] at hx; rw [mf] at hy; cases hx; cases hy
        rw [hsb] at hs2
        rcases hor with h | h
        · rw [h] at hs2; cases hs2
        · omega
      by_cases hall : sb = false ∧ v < u
      · obtain ⟨rfl, huv⟩ := hall
        have hm' := hm.upd hxf (r := rf.set j u) (by simp [hrfl])
        have hlen' : (hc.set xf.1 (B.row 3 xf.2 0 true (ivs (rf.set j u)))).length = h.length := hm'.len
        repeat' (first
 |refine aK fun K hK=>?_|refine Step.by1 ?_|refine sE (by decide) ?_|refine cz rfl ?_|refine Fork.by2 (fun h=>?_) fun h=>?_
 |((first|refine aR ?_|refine aX (id:=9) 14 mixed (by decide) ?_|refine aX (id:=10) 8 mixed (by decide) ?_);simp [vl, AutoD.cells, EdgeD.cells, hpp, hqq, hlen, g0, g1, gr, gt, gf, sf, hml, hpl, hpl', hmp, hjt, hjt', w2, hcl, hcl2, hct, hcf, hbs, huv])
 |(refine Split.by2 (fun h=>?_) (fun h=>?_)<;>(simp [h, vl, AutoD.cells, EdgeD.cells, hpp, hqq, hlen, g0, g1, gr, gt, gf, sf, hml, hpl, hpl', hmp, hjt, hjt', w2, hcl, hcl2, hct, hcf, hbs, huv]))
 |(refine aG (f := 129) rfl rfl hcon rfl (fun v h' hq => ?_); obtain ⟨rfl, rfl⟩ := hq; simp [hlen, g0, g1])
 |(apply hK;clear hK K)|refine AWh ‹_› ?_)
        exact ⟨⟨j + 1, true, m.set p (rf.set j u), hc.set xf.1 (.row 3 xf.2 0 true (ivs (rf.set j u)))⟩, ⟨by show j + 1 ≤ _; omega, hk2 rfl huv, hm'⟩, by show _ - (j + 1) < _ - j; omega, Weak.sym (x := [B.var [.int .i64 j]]) (by simp [vl, AutoD.cells, EdgeD.cells]) (hm'.hl.app (by simp [AutoD.cells, EdgeD.cells, vl])) (by simp [vl, AutoD.cells, EdgeD.cells, hlen']; omega)⟩
      · have hor : sb = true ∨ ¬ v < u := by
          cases sb
          · exact .inr fun h => hall ⟨rfl, h⟩
          · exact .inl rfl
        have hkk := hk1 (hncl hor)
        cases sb
        · have huv : ¬ v < u := fun h => hall ⟨rfl, h⟩
          repeat' (first
 |refine aK fun K hK=>?_|refine Step.by1 ?_|refine sE (by decide) ?_|refine cz rfl ?_|refine Fork.by2 (fun h=>?_) fun h=>?_
 |((first|refine aR ?_|refine aX (id:=9) 14 mixed (by decide) ?_);simp [vl, AutoD.cells, EdgeD.cells, hpp, hqq, hlen, g0, g1, gr, gt, gf, hml, hpl, hpl', hmp, hjt, hjt', w2, hcl, hcl2, hct, hcf, huv])
 |(refine Split.by2 (fun h=>?_) (fun h=>?_)<;>(simp [h, vl, AutoD.cells, EdgeD.cells, hpp, hqq, hlen, g0, g1, gr, gt, gf, hml, hpl, hpl', hmp, hjt, hjt', w2, hcl, hcl2, hct, hcf, huv]))
 |(refine aG (f := 129) rfl rfl hcon rfl (fun v h' hq => ?_); obtain ⟨rfl, rfl⟩ := hq; simp [hlen, g0, g1])
 |(apply hK;clear hK K)|refine AWh ‹_› ?_)
          exact ⟨⟨j + 1, more, m, hc⟩, ⟨by show j + 1 ≤ _; omega, hkk, hm⟩, by show _ - (j + 1) < _ - j; omega, Weak.sym (x := [B.var [.int .i64 j]]) (by simp [vl, AutoD.cells, EdgeD.cells]) (hm.hl.app (by simp [AutoD.cells, EdgeD.cells, vl])) (by simp [vl, AutoD.cells, EdgeD.cells, hlen]; omega)⟩
        · repeat' (first
 |refine aK fun K hK=>?_|refine Step.by1 ?_|refine sE (by decide) ?_|refine cz rfl ?_|refine Fork.by2 (fun h=>?_) fun h=>?_
 |((first|refine aR ?_|refine aX (id:=9) 14 mixed (by decide) ?_);simp [vl, AutoD.cells, EdgeD.cells, hpp, hqq, hlen, g0, g1, gr, gt, gf, hml, hpl, hpl', hmp, hjt, hjt', w2, hcl, hcl2, hct, hcf])
 |(refine Split.by2 (fun h=>?_) (fun h=>?_)<;>(simp [h, vl, AutoD.cells, EdgeD.cells, hpp, hqq, hlen, g0, g1, gr, gt, gf, hml, hpl, hpl', hmp, hjt, hjt', w2, hcl, hcl2, hct, hcf]))
 |(refine aG (f := 129) rfl rfl hcon rfl (fun v h' hq => ?_); obtain ⟨rfl, rfl⟩ := hq; simp [hlen, g0, g1])
 |(apply hK;clear hK K)|refine AWh ‹_› ?_)
          exact ⟨⟨j + 1, more, m, hc⟩, ⟨by show j + 1 ≤ _; omega, hkk, hm⟩, by show _ - (j + 1) < _ - j; omega, Weak.sym (x := [B.var [.int .i64 j]]) (by simp [vl, AutoD.cells, EdgeD.cells]) (hm.hl.app (by simp [AutoD.cells, EdgeD.cells, vl])) (by simp [vl, AutoD.cells, EdgeD.cells, hlen]; omega)⟩
    · obtain rfl : j = N := by omega
      repeat' (first
 |refine aK fun K hK=>?_|refine Step.by1 ?_|refine sE (by decide) ?_|refine cz rfl ?_|refine Fork.by2 (fun h=>?_) fun h=>?_
 |(refine aR ?_;simp [vl, AutoD.cells, EdgeD.cells, w1])
 |(refine Split.by2 (fun h=>?_) (fun h=>?_)<;>(simp [h, vl, AutoD.cells, EdgeD.cells, w1]))
 |(apply hK;clear hK K)|refine AWh ‹_› ?_)
      exact ⟨⟨k + 1, more, m, hc⟩, ⟨by show k + 1 ≤ _; omega, hp.next, hm⟩, by show _ - (k + 1) < _ - k; omega, Weak.sym (x := [B.var e.cells]) (by simp [vl, AutoD.cells, EdgeD.cells, hpp, hqq]) (hm.hl.app (by simp [AutoD.cells, vl])) (by simp [vl, AutoD.cells, EdgeD.cells, hlen]; omega)⟩
  · obtain rfl : k = a.edges.length := by omega
    repeat' (first
 |refine aK fun K hK=>?_|refine Step.by1 ?_|refine sE (by decide) ?_|refine cz rfl ?_|refine Fork.by2 (fun h=>?_) fun h=>?_
 |(refine aR ?_;simp [vl, AutoD.cells])
 |(refine Split.by2 (fun h=>?_) (fun h=>?_)<;>(simp [h, vl, AutoD.cells]))
 |(apply hK;clear hK K)|refine AWh ‹_› ?_)
    exact retg1 ⟨more, m, rfl, hp, hm⟩ rfl (Leaves.symx (by omega) hm.hl)
theorem wrap_u64 (n : Int) : IntKind.u64.wrap n = n % 18446744073709551616 := by
  unfold IntKind.wrap; simp [IntKind.bits, IntKind.signed]
theorem and_mask (x : Int) (hx : 0 ≤ x) (hx' : x < 18446744073709551616) : bits .and .u64 x 4294967295 = x % 4294967296 := by
  have h : (BitVec.ofInt 64 x &&& BitVec.ofInt 64 4294967295).toNat = (x % 4294967296).toNat := by
    have h1 : BitVec.ofInt 64 4294967295 = 4294967295#64 := by decide
    rw [h1, BitVec.toNat_and]
    have h2 : (4294967295#64).toNat = 2 ^ 32 - 1 := by decide
    rw [h2, Nat.and_two_pow_sub_one_eq_mod, BitVec.toNat_ofInt]
    omega
  show IntKind.u64.wrap ((BitVec.ofInt 64 x &&& BitVec.ofInt 64 4294967295).toNat : Int) = x % 4294967296
  rw [h, wrap_u64]
  omega
theorem shr32 (x : Int) : x.fdiv (2 ^ min 32 IntKind.u64.bits) = x / 4294967296 := by
  have : (2 : Int) ^ min 32 IntKind.u64.bits = 4294967296 := by decide
  rw [this, Int.fdiv_eq_ediv_of_nonneg _ (by decide)]
theorem mul_lt {a b n : Int} (ha : 0 ≤ a) (hb : 0 ≤ b) (ha' : a ≤ n) (hb' : b ≤ n) : 0 ≤ a * b ∧ a * b ≤ n * n :=
  ⟨Int.mul_nonneg ha hb, Int.mul_le_mul ha' hb' hb (by omega)⟩
theorem mul64_law (x y : Int) (hx : 0 ≤ x) (hx' : x < 18446744073709551616) (hy : 0 ≤ y) (hy' : y < 18446744073709551616) :
    ((x / 4294967296) * (y / 4294967296) % 18446744073709551616 + ((x / 4294967296) * (y % 4294967296) % 18446744073709551616 + (x % 4294967296) * (y % 4294967296) % 18446744073709551616 / 4294967296) % 18446744073709551616 / 4294967296) % 18446744073709551616 +
      (((x / 4294967296) * (y % 4294967296) % 18446744073709551616 + (x % 4294967296) * (y % 4294967296) % 18446744073709551616 / 4294967296) % 18446744073709551616 % 4294967296 + (x % 4294967296) * (y / 4294967296) % 18446744073709551616) % 18446744073709551616 / 4294967296 = x * y / 18446744073709551616 := by
  have h1 : x = x / 4294967296 * 4294967296 + x % 4294967296 := by omega
  have h2 : y = y / 4294967296 * 4294967296 + y % 4294967296 := by omega
  have b1 : 0 ≤ x / 4294967296 ∧ x / 4294967296 ≤ 4294967295 := by omega
  have b2 : 0 ≤ x % 4294967296 ∧ x % 4294967296 ≤ 4294967295 := by omega
  have b3 : 0 ≤ y / 4294967296 ∧ y / 4294967296 ≤ 4294967295 := by omega
  have b4 : 0 ≤ y % 4294967296 ∧ y % 4294967296 ≤ 4294967295 := by omega
  generalize x / 4294967296 = a at *
  generalize x % 4294967296 = b at *
  generalize y / 4294967296 = c at *
  generalize y % 4294967296 = d at *
  have hxy : x * y = a * c * 18446744073709551616 + (a * d + b * c) * 4294967296 + b * d := by
    rw [h1, h2]
    have e : (18446744073709551616 : Int) = 4294967296 * 4294967296 := by decide
    rw [e]
    generalize (4294967296 : Int) = m
    simp only [Int.add_mul, Int.mul_add, Int.mul_assoc, Int.mul_left_comm, Int.mul_comm, Int.add_assoc, Int.add_left_comm, Int.add_comm]
  have p1 := mul_lt b1.1 b3.1 b1.2 b3.2
  have p2 := mul_lt b1.1 b4.1 b1.2 b4.2
  have p3 := mul_lt b2.1 b3.1 b2.2 b3.2
  have p4 := mul_lt b2.1 b4.1 b2.2 b4.2
  rw [hxy]
  generalize a * c = s at *
  generalize a * d = q at *
  generalize b * c = r at *
  generalize b * d = p at *
  clear h1 h2 hxy b1 b2 b3 b4 hx hx' hy hy'
  omega
theorem mul_hi (x y : Int) (hx : 0 ≤ x) (hx' : x < 18446744073709551616) (hy : 0 ≤ y) (hy' : y < 18446744073709551616) : 0 ≤ x * y ∧ x * y ≤ 340282366920938463426481119284349108225 :=
  mul_lt (n := 18446744073709551615) hx hy (by omega) (by omega)
theorem c_mul64 (x y : Int) (hx : 0 ≤ x) (hx' : x < 18446744073709551616) (hy : 0 ≤ y) (hy' : y < 18446744073709551616) : PC 134 [.int .u64 x, .int .u64 y] (.tup [.int .u64 (x * y / 18446744073709551616), .int .u64 (x * y % 18446744073709551616)]) := by
  refine pB Tryd.func134 rfl (by decide) Tryd.ntmps134 (by simp) Tryd.results134 ?_
  repeat' (first
 |refine aK fun K hK=>?_|refine Step.by1 ?_|refine sE (by decide) ?_|refine cz rfl ?_|refine Fork.by2 (fun h=>?_) fun h=>?_
 |(refine aR ?_;simp)
 |(refine Split.by2 (fun h=>?_) (fun h=>?_)<;>(simp [h]))
 |(apply hK;clear hK K)|refine AWh ‹_› ?_)
  refine retq2 (cE ?_ rfl)
  simp [and_mask x hx hx', and_mask y hy hy', shr32, wrap_u64]
  rw [and_mask _ (by omega) (by omega)]
  have hl := mul64_law x y hx hx' hy hy'
  have hm := mul_hi x y hx hx' hy hy'
  omega
set_option maxHeartbeats 4000000 in
theorem c_bitsMul (x y : Int) (hx : 0 ≤ x) (hx' : x < 18446744073709551616) (hy : 0 ≤ y) (hy' : y < 18446744073709551616) : PC 128 [.int .u64 x, .int .u64 y] (.tup [.int .u64 (x * y / 18446744073709551616), .int .u64 (x * y % 18446744073709551616)]) := by
  have hc := c_mul64 x y hx hx' hy hy'
  refine pB Tryd.func128 rfl (by decide) Tryd.ntmps128 (by simp) Tryd.results128 ?_
  repeat' (first
 |refine aK fun K hK=>?_|refine Step.by1 ?_|refine sE (by decide) ?_|refine cz rfl ?_|refine Fork.by2 (fun h=>?_) fun h=>?_
 |((first|refine aR ?_|refine aC (f:=134) rfl rfl (hc) rfl rfl rfl ?_);simp)
 |(refine Split.by2 (fun h=>?_) (fun h=>?_)<;>(simp [h]))
 |(apply hK;clear hK K)|refine AWh ‹_› ?_)
  exact retq2 (cE rfl rfl)
end Go.Proofs.YtgmlimipejcpgaaDoor
end
section
set_option linter.unusedVariables false
set_option linter.unusedSimpArgs false
namespace Go.AM
theorem spl_get {α : Type} {L zs : List α} {off : Nat} (h : off + zs.length ≤ L.length) (i : Nat) : (L.take off ++ zs ++ L.drop (off + zs.length))[i]? = if off ≤ i ∧ i < off + zs.length then zs[i - off]? else L[i]? := by
  have h1 : (L.take off).length = off := by simp; omega
  by_cases a : i < off
  · rw [if_neg (by omega), List.append_assoc, List.getElem?_append_left (by omega), List.getElem?_take_of_lt a]
  · by_cases c : i < off + zs.length
    · rw [if_pos ⟨by omega, c⟩, List.append_assoc, List.getElem?_append_right (by omega), h1, List.getElem?_append_left (by omega)]
    · rw [if_neg (by omega), List.getElem?_append_right (by simp; omega), List.getElem?_drop]
      congr 1
      simp; omega
theorem spl_len {α : Type} {L zs : List α} {off : Nat} (h : off + zs.length ≤ L.length) : (L.take off ++ zs ++ L.drop (off + zs.length)).length = L.length := by simp; omega
section
variable {P : Program} {ge : GEnv} {st : St} {Q : Exit → St → Prop}
variable {d : Option Tmp} {t : TypeId} {p : String} {af : Array Edge} {gd : Option (Nat × Bool)}
theorem S_copy1 {T T2 e T0 : TypeId} {x y : Operand} {ts : Array TypeId} {b g off len m : Nat} {xs zs : List (List V)} (hts : ts = #[T, T2]) (hu : P.underlying T = some (.slice e)) (hs : (P.info? e).map (·.size) = some 1)
    (hx : ev ge st.tm x = .ref b g off len) (hb : st.h[b]? = some (.row T0 g 0 true xs)) (hlen : off + len ≤ xs.length) (h1 : szOf P T0 = 1) (hzl : zs.length = m) (hml : m ≤ len)
    (hsrc : ∀ G a w, Rep P ge G st a w → ∃ (ad : Addr) (sl sc : Nat) (cs : List Value), a.eval y = .slice (some ad) sl sc ∧ Nat.min sl len = m ∧ cs.length = m ∧ (∀ (j : Nat) (v : Value), cs[j]? = some v → w.cell? (ad.add j) = some v ∧ v.oneCell' = true) ∧
      ∀ (j : Nat) (z : List V), zs[j]? = some z → ∃ (v : V) (c : Value), z = [v] ∧ cs[j]? = some c ∧ R G w true v c) :
    OpS P ge st ⟨d, .call { callee := .builtin .copy, args := #[x, y], argTypes := ts }, t, p, af, gd⟩ (.int .i64 m) (st.h.set b (.row T0 g 0 true (xs.take off ++ zs ++ xs.drop (off + m)))) := by
  intro G a w hr
  have hvx := hr.ev x
  rw [hx] at hvx
  obtain ⟨ad, sl, sc, cs, hcy, hmin, hcl, hcell, hval⟩ := hsrc G a w hr
  obtain ⟨q1, q2, q3, hrow⟩ := hr.rh.bl b _ hb
  have hsz : G.sz b = 1 := q3.2.trans h1
  subst hzl
  have hrunx : ∀ (cx : Value) (r : Value) (w' : World), a.eval x = cx → (Builtin.copy_ #[T, T2] t #[cx, .slice (some ad) sl sc]).run P w = .ok r w' →
      (execOp a.eval ⟨d, .call { callee := .builtin .copy, args := #[x, y], argTypes := ts }, t, p, af, gd⟩).run P w = .ok (.value r) w' := fun cx r w' hc h => by
    subst hts
    simp [execOp, resolve, invoke, builtin, hc, hcy, h]
  generalize hcx : a.eval x = cx at hvx
  cases hvx with
  | refn hb' hg' hm' =>
    have hz : zs = [] := List.eq_nil_of_length_eq_zero (by omega)
    subst hz
    have hrun := run_copy_none w T T2 t e none (some ad) 0 0 sl sc hu hs (by simp)
    refine ⟨goInt 0, G, w, .inl (hrunx _ _ _ hcx hrun), ?_, ?_, ?_⟩
    · have : st.h.set b (.row T0 g 0 true (xs.take 0 ++ [] ++ xs.drop (0 + ([] : List (List V)).length))) = st.h := by
        simp
        obtain ⟨h5, h6⟩ := List.getElem?_eq_some_iff.1 hb
        rw [← h6]; simp
      rw [this]; exact hr.rh
    · exact .int
    · have : st.h.set b (.row T0 g 0 true (xs.take 0 ++ [] ++ xs.drop (0 + ([] : List (List V)).length))) = st.h := by
        simp
        obtain ⟨h5, h6⟩ := List.getElem?_eq_some_iff.1 hb
        rw [← h6]; simp
      rw [this]; exact .refl _ _ _
  | @ref _ _ _ _ k hb' hg' hm' hle =>
    rcases hrow with ⟨hn, hnil⟩ | ⟨k', arr, hm2, hh, r1, r2, r3, r4, r5, r6⟩
    · rw [hm'] at hn; cases hn
    rw [hm'] at hm2; cases hm2
    rw [hsz] at r2 hcx
    simp only [Nat.mul_one] at r2 hcx
    have hfz : G.fz k = 0 := by rw [Nat.zero_mul] at r1; omega
    have hone : ∀ v ∈ cs, v.oneCell' = true := fun v hv => by
      obtain ⟨j, hj⟩ := List.getElem?_of_mem hv
      exact (hcell j v hj).2
    have hfit : off + cs.length ≤ arr.size := by omega
    have hrun := run_copy_row P w T T2 t e k off len (G.cap b g - off) ad sl sc arr T0 cs hu hs hh (by rw [hcl, hmin]) (fun j v h => (hcell j v h).1) hfit hone
    generalize hnew : (arr.toList.take off ++ cs ++ arr.toList.drop (off + cs.length)).toArray = new at hrun
    have hget : ∀ j, new.getD j undef = if off ≤ j ∧ j < off + cs.length then cs.getD (j - off) undef else arr.getD j undef := fun j => by
      rw [toList_getD, ← hnew, List.toList_toArray, spl_get (by simpa using hfit)]
      split
      · simp [List.getD]
      · rw [toList_getD]
    have hnsz : new.size = arr.size := by rw [← hnew]; simp; omega
    have le : GLe G w G (w.setRow k new) := ⟨fun _ => Nat.le_refl _, fun k' o ho => by
      have : k' ≠ k := fun e => by rw [e, hfz] at ho; omega
      exact cell_eq (setRow_other w k k' new this), Nat.le_refl _, fun _ _ => Nat.le_refl _, fun _ _ _ _ => rfl, fun _ _ => rfl, fun _ _ _ _ => rfl⟩
    have hx' : ∀ i x, (xs.take off ++ zs ++ xs.drop (off + zs.length))[i]? = some x → (off ≤ i ∧ i < off + zs.length ∧ zs[i - off]? = some x) ∨ (¬(off ≤ i ∧ i < off + zs.length) ∧ xs[i]? = some x) := fun i x hx => by
      rw [spl_get (by omega)] at hx
      by_cases h : off ≤ i ∧ i < off + zs.length
      · rw [if_pos h] at hx; exact .inl ⟨h.1, h.2, hx⟩
      · rw [if_neg h] at hx; exact .inr ⟨h, hx⟩
    have hup := RH_upd (w' := w.setRow k new) hr.rh hb hm' (setRow_size w k new) (fun k' hk' => setRow_other w k k' new hk') rfl ⟨rfl, rfl⟩ le (y := .row T0 g 0 true (xs.take off ++ zs ++ xs.drop (off + zs.length)))
      ⟨q1, Nat.zero_le _, q3, .inr ⟨k, new, hm', setRow_heap w k arr new T0 _ hh, by rw [hfz]; exact Nat.zero_le _, by rw [hnsz, hsz, r2, Nat.mul_one], by rw [spl_len (by omega)]; exact r3, r4, fun i x hx => by
        rcases hx' i x hx with ⟨h2, h3, h4⟩ | ⟨h2, h4⟩
        · obtain ⟨v, c, rfl, _, _⟩ := hval _ _ h4
          rw [hsz]; rfl
        · exact r5 i x h4, fun i x j v hx hv => by
        rw [hsz, Nat.mul_one]
        rcases hx' i x hx with ⟨h2, h3, h4⟩ | ⟨h2, h4⟩
        · obtain ⟨v', c, rfl, h6, h7⟩ := hval _ _ h4
          have hj0 : j = 0 := by have := (List.getElem?_eq_some_iff.1 hv).1; simp at this; omega
          subst hj0
          simp at hv; subst hv
          have hgd := hget i
          rw [if_pos ⟨h2, by rw [hcl]; exact h3⟩] at hgd
          rw [Nat.add_zero, hgd]
          have : cs.getD (i - off) undef = c := by simp [List.getD, h6]
          rw [this]
          exact ⟨(hcell _ _ h6).2, h7.mono le⟩
        · have hl := r5 i x h4
          rw [hsz] at hl
          have hj0 : j = 0 := by have := (List.getElem?_eq_some_iff.1 hv).1; omega
          subst hj0
          have h8 := r6 i x 0 v h4 hv
          rw [hsz, Nat.mul_one, Nat.add_zero] at h8
          have hgd := hget i
          rw [if_neg (by rw [hcl]; exact h2)] at hgd
          rw [Nat.add_zero, hgd]
          exact ⟨h8.1, h8.2.mono le⟩⟩⟩ hm'
    exact ⟨goInt cs.length, G, w.setRow k new, .inl (hrunx _ _ _ hcx hrun), hup.1, by rw [← hcl]; exact .int, hup.2⟩
end
end Go.AM
namespace Go.AM
section
variable {P : Program} {ge : GEnv} {st : St}
theorem addr_add (k o j : Nat) : (⟨k, o, none⟩ : Addr).add j = ⟨k, o + j, none⟩ := by unfold Addr.add; split <;> simp_all
/-- What a row of one's own holds, to be copied. -/
theorem src_own {y : Operand} {b g off yl len m f : Nat} {T0 : TypeId} {xs : List (List V)} (hy : ev ge st.tm y = .ref b g off yl) (hb : st.h[b]? = some (.row T0 g f true xs)) (hle : off + yl ≤ xs.length) (h0 : 0 < xs.length) (h1 : szOf P T0 = 1) (hm : Nat.min yl len = m) :
    ∀ G a w, Rep P ge G st a w → ∃ (ad : Addr) (sl sc : Nat) (cs : List Value), a.eval y = .slice (some ad) sl sc ∧ Nat.min sl len = m ∧ cs.length = m ∧ (∀ (j : Nat) (v : Value), cs[j]? = some v → w.cell? (ad.add j) = some v ∧ v.oneCell' = true) ∧
      ∀ (j : Nat) (z : List V), ((xs.drop off).take m)[j]? = some z → ∃ (v : V) (c : Value), z = [v] ∧ cs[j]? = some c ∧ R G w true v c := by
  intro G a w hr
  have hv := hr.ev y
  rw [hy] at hv
  have hmy : m ≤ yl := by rw [← hm]; exact Nat.min_le_left _ _
  obtain ⟨q1, q2, q3, hrow⟩ := hr.rh.bl b _ hb
  have hsz : G.sz b = 1 := q3.2.trans h1
  rcases hrow with ⟨hn, hnil⟩ | ⟨k', arr, hm2, hh, r1, r2, r3, r4, r5, r6⟩
  · rw [hnil] at h0; simp at h0
  generalize hcy : a.eval y = cy at hv
  cases hv with
  | refn hb' hg' hm' => rw [hm'] at hm2; cases hm2
  | @ref _ _ _ _ k hb' hg' hm' hle' =>
    rw [hm'] at hm2; cases hm2
    rw [hsz] at r2 hcy
    simp only [Nat.mul_one] at r2 hcy
    have hcap : xs.length ≤ arr.size := by omega
    have hat : ∀ j, j < m → ∃ v, xs[off + j]? = some [v] ∧ w.cell? ⟨k', off + j, none⟩ = some (arr.getD (off + j) undef) ∧ (arr.getD (off + j) undef).oneCell' = true ∧ R G w true v (arr.getD (off + j) undef) := fun j hj => by
      have hjl : off + j < xs.length := by omega
      have e := List.getElem?_eq_getElem hjl
      have hz1 := r5 _ _ e
      rw [hsz] at hz1
      obtain ⟨v, hv⟩ := List.length_eq_one_iff.1 hz1
      rw [hv] at e
      have q := r6 _ [v] 0 v e rfl
      rw [hsz, Nat.mul_one, Nat.add_zero] at q
      exact ⟨v, e, arr_cell hh (by omega), q.1, q.2⟩
    refine ⟨⟨k', off, none⟩, yl, _, (List.range m).map fun j => arr.getD (off + j) undef, by rw [hsz, Nat.mul_one], hm, by simp, fun j v hj => ?_, fun j z hz => ?_⟩
    · have hjm : j < m := by have := (List.getElem?_eq_some_iff.1 hj).1; simpa using this
      simp [hjm] at hj
      obtain ⟨_, _, q1, q2, _⟩ := hat j hjm
      rw [addr_add]
      have : arr.getD (off + j) undef = v := by simp only [Array.getD_eq_getD_getElem?] ; exact hj
      rw [← this]; exact ⟨q1, q2⟩
    · have hjm : j < m := by have := (List.getElem?_eq_some_iff.1 hz).1; simp at this; omega
      rw [List.getElem?_take_of_lt hjm, List.getElem?_drop] at hz
      obtain ⟨v, q0, q1, q2, q3⟩ := hat j hjm
      rw [q0] at hz; cases hz
      exact ⟨v, _, rfl, by simp [hjm], q3⟩
end
end Go.AM
end
