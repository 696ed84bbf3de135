/-
  YtgmlimipejcpgaaGreatDoorCo27: steps of the proof of a law of the program: what these texts prove holds under the hypotheses that their theorems name, and no others.
-/
import Derived.Test.YtgmlimipejcpgaaGreatDoorCo26
section
set_option linter.unusedVariables false
set_option linter.unusedSimpArgs false
namespace Go.Proofs.YtgmlimipejcpgaaGreatDoor
open Go Go.AM Fx
/-- All references lead into the heap. -/
def HL (h : List B) : Prop := ∀ y ∈ h, y.lt h.length
theorem HL.set {h : List B} (hl : HL h) {i : Nat} {y : B} (hy : y.lt h.length) : HL (h.set i y) := fun z hz => by
  rw [List.length_set]
  rcases List.mem_or_eq_of_mem_set hz with h | h
  · exact hl z h
  · subst h; exact hy
theorem HL.get {h : List B} (hl : HL h) {i : Nat} {y : B} (hy : h[i]? = some y) : y.lt h.length := hl y (List.mem_of_getElem? hy)
theorem HL.push {h : List B} (hl : HL h) {y : B} (hy : y.lt (h.length + 1)) : HL (h ++ [y]) := fun z hz => by
  rw [List.length_append, List.length_singleton]
  rcases List.mem_append.1 hz with h | h
  · exact B.lt_mono (by omega) (hl z h)
  · rw [List.mem_singleton.1 h]; exact hy
theorem set_same {α : Type} {l : List α} {i : Nat} {a : α} (h : l[i]? = some a) : l.set i a = l := by
  obtain ⟨h1, h2⟩ := List.getElem?_eq_some_iff.1 h
  rw [← h2]; simp
theorem gN {h : List B} {i j : Nat} {y : B} (hne : i ≠ j) : (h.set i y)[j]? = h[j]? := by rw [List.getElem?_set, if_neg hne]
theorem get_set_eq {h : List B} {i : Nat} {y z : B} (hi : h[i]? = some z) : (h.set i y)[i]? = some y := by
  have := (List.getElem?_eq_some_iff.1 hi).1
  rw [List.getElem?_set, if_pos rfl, if_pos this]
def ivs (l : List Int) : List (List V) := l.map fun k => [V.int .i64 k]
def bookB (r g m : Nat) : B := .var [.nils, .nils, .ref r g 0 m, .nils, .nils, .nils, .nils, .nils, .nils, .nils, .nils, .nils, .nils, .nils]
def rv (x : Nat × Nat × Nat) : V := .ref x.1 x.2.1 0 x.2.2
theorem rowF_lt {T g f n : Nat} {xs : List (List V)} : (B.row T g f true xs).lt n := .inl rfl
theorem rowR_lt {T g f n : Nat} {fl : Bool} {xs : List (List V)} (h : ∀ x ∈ xs, V.lts n x = true) : (B.row T g f fl xs).lt n := .inr h
theorem bookB_lt {r g m n : Nat} (h : r < n) : (bookB r g m).lt n := by simp [bookB, h]
/-- A book of rows of one's own, no two of them the same. -/
structure Pre (h : List B) (bk r g : Nat) (refs : List (Nat × Nat × Nat)) : Prop where
  hl : HL h
  bk : h[bk]? = some (bookB r g refs.length)
  rr : h[r]? = some (.row 47 g 0 false (refs.map fun x => [rv x]))
  rows : ∀ (j : Nat) (x : Nat × Nat × Nat), refs[j]? = some x → ∃ ns, h[x.1]? = some (.row 3 x.2.1 0 true (ivs ns)) ∧ ns.length = x.2.2
  inj : ∀ (i j : Nat) (x y : Nat × Nat × Nat), refs[i]? = some x → refs[j]? = some y → x.1 = y.1 → i = j
/-- While each list is written. -/
structure P1 (h : List B) (bk r g : Nat) (refs : List (Nat × Nat × Nat)) (i k : Nat) (hc : List B) : Prop where
  len : hc.length = h.length
  hl : HL hc
  bk : hc[bk]? = some (bookB r g refs.length)
  rr : hc[r]? = some (.row 47 g 0 false (refs.map fun x => [rv x]))
  rows : ∀ (j : Nat) (x : Nat × Nat × Nat), refs[j]? = some x → ∃ ns, hc[x.1]? = some (.row 3 x.2.1 0 true (ivs ns)) ∧ ns.length = x.2.2 ∧ ∀ q, q < x.2.2 → (j < i ∨ (j = i ∧ q < k)) → ns[q]? = some (-9000 - (j : Int))
  inj : ∀ (i j : Nat) (x y : Nat × Nat × Nat), refs[i]? = some x → refs[j]? = some y → x.1 = y.1 → i = j
  rest : ∀ b, b ≠ r → (∀ x ∈ refs, x.1 ≠ b) → hc[b]? = h[b]?
section
variable {h hc : List B} {bk r g i k : Nat} {refs : List (Nat × Nat × Nat)}
theorem Pre.p1 (p : Pre h bk r g refs) : P1 h bk r g refs 0 0 h :=
  ⟨rfl, p.hl, p.bk, p.rr, fun j x hx => by
    obtain ⟨ns, h1, h2⟩ := p.rows j x hx
    exact ⟨ns, h1, h2, fun q hq hj => by omega⟩, p.inj, fun _ _ _ => rfl⟩
theorem ne_r {x : Nat × Nat × Nat} {ns cs : List (List V)} {f : Nat} {fl : Bool} {g' : Nat} (hr : hc[r]? = some (.row 47 g 0 false cs)) (hx : hc[x.1]? = some (.row 3 g' f fl ns)) : x.1 ≠ r := fun e => by
  rw [e, hr] at hx; cases hx
theorem bk_ne_r {cs : List (List V)} (hb : hc[bk]? = some (bookB r g k)) (hr : hc[r]? = some (.row 47 g 0 false cs)) : bk ≠ r := fun e => by
  rw [e, hr] at hb; cases hb
theorem P1.step (p : P1 h bk r g refs i k hc) {x : Nat × Nat × Nat} (hx : refs[i]? = some x) {ns : List Int} (hr : hc[x.1]? = some (.row 3 x.2.1 0 true (ivs ns))) (hn : ns.length = x.2.2) (hk : k < x.2.2) :
    P1 h bk r g refs i (k + 1) (hc.set x.1 (.row 3 x.2.1 0 true (ivs (ns.set k (-9000 - (i : Int)))))) := by
  have n1 : x.1 ≠ bk := fun e => by have := p.bk; rw [e, this] at hr; cases hr
  have n2 := ne_r p.rr hr
  refine ⟨by rw [List.length_set]; exact p.len, p.hl.set rowF_lt, by rw [gN n1]; exact p.bk, by rw [gN n2]; exact p.rr, fun j y hy => ?_, p.inj, fun b hb hb' => by rw [gN (hb' x (List.mem_of_getElem? hx))]; exact p.rest b hb hb'⟩
  by_cases e : j = i
  · subst e
    obtain rfl : x = y := by rw [hx] at hy; cases hy; rfl
    obtain ⟨ms, h1, h2, h3⟩ := p.rows j x hx
    have : ms = ns := by
      rw [hr] at h1
      simp only [Option.some.injEq, B.row.injEq, true_and] at h1
      have inj : ∀ (a b : List Int), ivs a = ivs b → a = b := fun a => by
        induction a with
        | nil => intro b hb; cases b <;> simp [ivs] at hb ⊢
        | cons z a ih =>
          intro b hb
          cases b with
          | nil => simp [ivs] at hb
          | cons w b =>
            simp only [ivs, List.map_cons, List.cons.injEq, V.int.injEq, true_and, and_true] at hb
            rw [hb.1, ih b hb.2]
      exact (inj _ _ h1).symm
    subst this
    refine ⟨_, get_set_eq hr, by simp [hn], fun q hq hj => ?_⟩
    rw [List.getElem?_set]
    by_cases e : k = q
    · subst e; rw [if_pos rfl, if_pos (by omega)]
    · rw [if_neg e]; exact h3 q hq (by omega)
  · obtain ⟨ms, h1, h2, h3⟩ := p.rows j y hy
    have hne : x.1 ≠ y.1 := fun e' => e (p.inj i j x y hx hy e').symm
    exact ⟨ms, by rw [gN hne]; exact h1, h2, fun q hq hj => h3 q hq (by omega)⟩
theorem P1.next (p : P1 h bk r g refs i k hc) {x : Nat × Nat × Nat} (hx : refs[i]? = some x) (hk : k = x.2.2) : P1 h bk r g refs (i + 1) 0 hc :=
  ⟨p.len, p.hl, p.bk, p.rr, fun j y hy => by
    obtain ⟨ms, h1, h2, h3⟩ := p.rows j y hy
    refine ⟨ms, h1, h2, fun q hq hj => h3 q hq ?_⟩
    by_cases e : j = i
    · subst e
      obtain rfl : x = y := by rw [hx] at hy; cases hy; rfl
      omega
    · omega, p.inj, p.rest⟩
/-- All places the same. -/
def repV (n : Nat) (v : Int) : List (List V) := List.replicate n [V.int .i64 v]
theorem ivs_rep {ns : List Int} {n : Nat} {v : Int} (hn : ns.length = n) (h : ∀ q, q < n → ns[q]? = some v) : ivs ns = repV n v := by
  have : ns = List.replicate n v := by
    apply List.ext_getElem?
    intro q
    by_cases hq : q < n
    · rw [h q hq]; simp [hq]
    · rw [List.getElem?_eq_none (by omega), List.getElem?_eq_none (by simp; omega)]
  subst this
  simp [ivs, repV]
/-- While each list is grown. -/
structure P2 (h : List B) (bk r g : Nat) (refs : List (Nat × Nat × Nat)) (i : Nat) (hc : List B) : Prop where
  len : hc.length = h.length + 1
  hl : HL hc
  bk : hc[bk]? = some (bookB r g refs.length)
  rr : ∃ cs : List (List V), hc[r]? = some (.row 47 g 0 false cs) ∧ cs.length = refs.length ∧ ∀ (j : Nat) (x : Nat × Nat × Nat), refs[j]? = some x → cs[j]? = some [if j < i then .vec (repV x.2.2 (-9000 - (j : Int))) x.2.2 else rv x]
  all : ∃ (fl : Bool) (ds : List (List V)), hc[h.length]? = some (.row 47 i 0 fl ds) ∧ ds.length = i ∧ ∀ (j : Nat) (x : Nat × Nat × Nat), j < i → refs[j]? = some x → ds[j]? = some [.ref x.1 (x.2.1 + 20) 0 (x.2.2 + 20)]
  rows : ∀ (j : Nat) (x : Nat × Nat × Nat), refs[j]? = some x → hc[x.1]? = some (if j < i then .row 3 (x.2.1 + 20) x.2.2 true (repV (x.2.2 + 20) (-9000 - (j : Int))) else .row 3 x.2.1 0 true (repV x.2.2 (-9000 - (j : Int))))
  inj : ∀ (i j : Nat) (x y : Nat × Nat × Nat), refs[i]? = some x → refs[j]? = some y → x.1 = y.1 → i = j
  rest : ∀ b, b < h.length → b ≠ r → (∀ x ∈ refs, x.1 ≠ b) → hc[b]? = h[b]?
theorem P1.p2 (p : P1 h bk r g refs refs.length 0 hc) : P2 h bk r g refs 0 (hc ++ [.row 47 0 0 true []]) := by
  have hlt : ∀ {b : Nat} {y : B}, hc[b]? = some y → (hc ++ [B.row 47 0 0 true []])[b]? = some y := fun {b y} hy => by
    rw [List.getElem?_append_left (List.getElem?_eq_some_iff.1 hy).1]; exact hy
  refine ⟨by rw [List.length_append, p.len]; rfl, p.hl.push rowF_lt, hlt p.bk, ⟨_, hlt p.rr, by simp, fun j x hx => ?_⟩, ⟨true, [], ?_, rfl, fun j x hj => by omega⟩, fun j x hx => ?_, p.inj, fun b hb hb1 hb2 => ?_⟩
  · rw [List.getElem?_map, hx, if_neg (by omega)]; rfl
  · rw [← p.len]; simp
  · obtain ⟨ns, h1, h2, h3⟩ := p.rows j x hx
    have hj := (List.getElem?_eq_some_iff.1 hx).1
    rw [if_neg (by omega), hlt h1, ivs_rep h2 fun q hq => h3 q hq (.inl hj)]
  · rw [List.getElem?_append_left (by rw [p.len]; exact hb)]; exact p.rest b hb1 hb2
/-- The heap while the list i is grown: k places more. -/
def grown (hc : List B) (r g i : Nat) (cs : List (List V)) (x : Nat × Nat × Nat) (v : Int) (k : Nat) : List B :=
  (hc.set r (.row 47 g 0 false (cs.set i [.vec (repV x.2.2 v) x.2.2]))).set x.1 (.row 3 (x.2.1 + k) x.2.2 true (repV (x.2.2 + k) v))
theorem grown_succ {hc : List B} {r g i k : Nat} {cs : List (List V)} {x : Nat × Nat × Nat} {v : Int} : grown hc r g i cs x v (k + 1) = (grown hc r g i cs x v k).set x.1 (.row 3 (x.2.1 + (k + 1)) x.2.2 true (repV (x.2.2 + (k + 1)) v)) := by
  simp [grown]
theorem P2.grows (p : P2 h bk r g refs i hc) {x : Nat × Nat × Nat} (hx : refs[i]? = some x) {cs ds : List (List V)} {fl : Bool} (hcs : hc[r]? = some (.row 47 g 0 false cs)) (hds : hc[h.length]? = some (.row 47 i 0 fl ds)) (v : Int) (k : Nat) :
    (grown hc r g i cs x v k).length = h.length + 1 ∧ HL (grown hc r g i cs x v k) ∧ (grown hc r g i cs x v k)[h.length]? = some (.row 47 i 0 fl ds) ∧
    (grown hc r g i cs x v k)[x.1]? = some (.row 3 (x.2.1 + k) x.2.2 true (repV (x.2.2 + k) v)) ∧ x.1 ≠ bk ∧ x.1 ≠ r ∧ bk ≠ r ∧ x.1 ≠ h.length ∧ bk ≠ h.length ∧ r ≠ h.length := by
  have hrow := p.rows i x hx
  rw [if_neg (by omega)] at hrow
  have n1 : x.1 ≠ bk := fun e => by have := p.bk; rw [e, this] at hrow; cases hrow
  have n2 : x.1 ≠ r := ne_r hcs hrow
  have n3 : bk ≠ r := bk_ne_r p.bk hcs
  have n4 : x.1 ≠ h.length := fun e => by rw [e, hds] at hrow; cases hrow
  have n5 : bk ≠ h.length := fun e => by have := p.bk; rw [e, hds] at this; cases this
  have n6 : r ≠ h.length := fun e => by
    have hr : r < hc.length := (List.getElem?_eq_some_iff.1 hcs).1
    have h1 := (p.hl.get hcs)
    have h2 := p.hl.get p.bk
    obtain ⟨cs', q1, q2, q3⟩ := p.rr
    obtain ⟨fl', ds', t1, t2, t3⟩ := p.all
    rw [e, t1] at q1
    have hi := (List.getElem?_eq_some_iff.1 hx).1
    cases q1
    omega
  have hi := (List.getElem?_eq_some_iff.1 hx).1
  obtain ⟨cs', q1, q2, q3⟩ := p.rr
  obtain rfl : cs' = cs := by rw [hcs] at q1; cases q1; rfl
  obtain ⟨fl', ds', t1, t2, t3⟩ := p.all
  obtain ⟨rfl, rfl⟩ : fl' = fl ∧ ds' = ds := by rw [hds] at t1; cases t1; exact ⟨rfl, rfl⟩
  have hxl : x.1 < h.length + 1 := by rw [← p.len]; exact (List.getElem?_eq_some_iff.1 hrow).1
  have hcsl : ∀ y ∈ cs'.set i [V.vec (repV x.2.2 v) x.2.2], V.lts hc.length y = true := fun y hy => by
    rcases List.mem_or_eq_of_mem_set hy with h | h
    · exact ((p.hl.get hcs).resolve_left (by simp)) y h
    · subst h; simp
  have e1 : (hc.set r (.row 47 g 0 false (cs'.set i [V.vec (repV x.2.2 v) x.2.2])))[x.1]? = hc[x.1]? := gN (fun e => n2 e.symm)
  exact ⟨by simp only [Go.Proofs.YtgmlimipejcpgaaGreatDoor.grown, List.length_set]; exact p.len, (p.hl.set (rowR_lt hcsl)).set rowF_lt, by rw [Go.Proofs.YtgmlimipejcpgaaGreatDoor.grown, gN n4, gN n6]; exact t1, get_set_eq (e1.trans hrow), n1, n2, n3, n4, n5, n6⟩
theorem P2.step (p : P2 h bk r g refs i hc) {x : Nat × Nat × Nat} (hx : refs[i]? = some x) {cs ds : List (List V)} {fl : Bool} (hcs : hc[r]? = some (.row 47 g 0 false cs)) (hds : hc[h.length]? = some (.row 47 i 0 fl ds)) :
    P2 h bk r g refs (i + 1) ((grown hc r g i cs x (-9000 - (i : Int)) 20).set h.length (.row 47 (i + 1) 0 false (ds ++ [[.ref x.1 (x.2.1 + 20) 0 (x.2.2 + 20)]]))) := by
  obtain ⟨hg_len, hg_hl, hg_all, hg_x, n1, n2, n3, n4, n5, n6⟩ := p.grows hx hcs hds (-9000 - (i : Int)) 20
  have hrow := p.rows i x hx
  rw [if_neg (by omega)] at hrow
  have hi := (List.getElem?_eq_some_iff.1 hx).1
  obtain ⟨cs', q1, q2, q3⟩ := p.rr
  obtain rfl : cs' = cs := by rw [hcs] at q1; cases q1; rfl
  obtain ⟨fl', ds', t1, t2, t3⟩ := p.all
  obtain ⟨rfl, rfl⟩ : fl' = fl ∧ ds' = ds := by rw [hds] at t1; cases t1; exact ⟨rfl, rfl⟩
  have hxl : x.1 < h.length + 1 := by rw [← p.len]; exact (List.getElem?_eq_some_iff.1 hrow).1
  have hdl : ∀ y ∈ ds' ++ [[V.ref x.1 (x.2.1 + 20) 0 (x.2.2 + 20)]], V.lts (h.length + 1) y = true := fun y hy => by
    rcases List.mem_append.1 hy with h | h
    · obtain ⟨j, hj⟩ := List.getElem?_of_mem h
      have hjl := (List.getElem?_eq_some_iff.1 hj).1
      have hjr : j < refs.length := by omega
      have := t3 j refs[j] (by omega) (List.getElem?_eq_getElem hjr)
      rw [hj] at this; cases this
      have h5 := p.rows j refs[j] (List.getElem?_eq_getElem hjr)
      have h6 := (List.getElem?_eq_some_iff.1 h5).1
      rw [p.len] at h6
      simp [h6]
    · rw [List.mem_singleton.1 h]; simp [hxl]
  refine ⟨by rw [List.length_set]; exact hg_len, hg_hl.set (rowR_lt (by rw [hg_len]; exact hdl)), ?_, ⟨cs'.set i [V.vec (repV x.2.2 (-9000 - (i : Int))) x.2.2], ?_, by rw [List.length_set]; exact q2, fun j y hy => ?_⟩, ⟨false, ds' ++ [[.ref x.1 (x.2.1 + 20) 0 (x.2.2 + 20)]], get_set_eq hg_all, by simp [t2], fun j y hj hy => ?_⟩, fun j y hy => ?_, p.inj, fun b hb hb1 hb2 => ?_⟩
  · rw [gN (fun e => n5 e.symm), Go.Proofs.YtgmlimipejcpgaaGreatDoor.grown, gN n1, gN (fun e => n3 e.symm)]; exact p.bk
  · rw [gN (fun e => n6 e.symm), Go.Proofs.YtgmlimipejcpgaaGreatDoor.grown, gN n2]; exact get_set_eq hcs
  · rw [List.getElem?_set]
    by_cases e : i = j
    · subst e
      obtain rfl : x = y := by rw [hx] at hy; cases hy; rfl
      rw [if_pos rfl, if_pos (by omega), if_pos (by omega)]
    · rw [if_neg e, q3 j y hy]
      by_cases e2 : j < i
      · rw [if_pos e2, if_pos (by omega)]
      · rw [if_neg e2, if_neg (by omega)]
  · by_cases e : j = i
    · subst e
      obtain rfl : x = y := by rw [hx] at hy; cases hy; rfl
      rw [List.getElem?_append_right (by omega), t2]; simp
    · rw [List.getElem?_append_left (by omega)]; exact t3 j y (by omega) hy
  · have hjn : y.1 ≠ h.length := fun e => by
      have h5 := p.rows j y hy
      rw [e, t1] at h5
      by_cases e2 : j < i
      · rw [if_pos e2] at h5; cases h5
      · rw [if_neg e2] at h5; cases h5
    rw [gN (fun e => hjn e.symm), Go.Proofs.YtgmlimipejcpgaaGreatDoor.grown]
    by_cases e : j = i
    · subst e
      obtain rfl : x = y := by rw [hx] at hy; cases hy; rfl
      rw [if_pos (by omega)]
      exact get_set_eq (z := .row 3 x.2.1 0 true (repV x.2.2 (-9000 - (j : Int)))) (by rw [gN (fun e => n2 e.symm)]; exact hrow)
    · have hne : x.1 ≠ y.1 := fun e' => e (p.inj i j x y hx hy e').symm
      have h5 := p.rows j y hy
      have hyr : r ≠ y.1 := fun e' => by
        rw [← e', hcs] at h5
        by_cases e2 : j < i
        · rw [if_pos e2] at h5; cases h5
        · rw [if_neg e2] at h5; cases h5
      rw [gN hne, gN hyr, h5]
      by_cases e2 : j < i
      · rw [if_pos e2, if_pos (by omega)]
      · rw [if_neg e2, if_neg (by omega)]
  · rw [gN (by omega), Go.Proofs.YtgmlimipejcpgaaGreatDoor.grown, gN (hb2 x (List.mem_of_getElem? hx)), gN (fun e => hb1 e.symm)]; exact p.rest b hb hb1 hb2
end
end Go.Proofs.YtgmlimipejcpgaaGreatDoor
end
