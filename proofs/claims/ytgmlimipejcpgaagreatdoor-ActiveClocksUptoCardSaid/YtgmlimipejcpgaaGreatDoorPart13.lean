/-
  YtgmlimipejcpgaaGreatDoorPart13: steps of the proof of a law of the program: what these texts prove holds under the hypotheses that their theorems name, and no others.
-/
import Derived.Test.YtgmlimipejcpgaaGreatDoorPart12
section
set_option linter.unusedVariables false
set_option linter.unusedSimpArgs false
namespace Go.Proofs.YtgmlimipejcpgaaGreatDoor
open Go Go.AM Fx
/-! A book of lists of ints: its heap. -/
/-- All references lead into the heap. -/
def HL (h : List B) : Prop := ∀ y ∈ h, y.lt h.length
theorem HL.set {h : List B} (hl : HL h) {i : Nat} {y : B} (hy : y.lt h.length) : HL (h.set i y) := fun z hz => by
  rw [List.length_set]
  rcases List.mem_or_eq_of_mem_set hz with h | h
  · exact hl z h
  · subst h; exact hy
theorem HL.get {h : List B} (hl : HL h) {i : Nat} {y : B} (hy : h[i]? = some y) : y.lt h.length := hl y (List.mem_of_getElem? hy)
theorem HL.push {h : List B} (hl : HL h) {y : B} (hy : y.lt (h.length + 1)) : HL (h ++ [y]) := fun z hz => by
  rw [List.length_append, List.length_singleton]
  rcases List.mem_append.1 hz with h | h
  · exact B.lt_mono (by omega) (hl z h)
  · rw [List.mem_singleton.1 h]; exact hy
theorem set_same {α : Type} {l : List α} {i : Nat} {a : α} (h : l[i]? = some a) : l.set i a = l := by
  obtain ⟨h1, h2⟩ := List.getElem?_eq_some_iff.1 h
  rw [← h2]; simp
theorem get_set_ne {h : List B} {i j : Nat} {y : B} (hne : i ≠ j) : (h.set i y)[j]? = h[j]? := by rw [List.getElem?_set, if_neg hne]
theorem get_set_eq {h : List B} {i : Nat} {y z : B} (hi : h[i]? = some z) : (h.set i y)[i]? = some y := by
  have := (List.getElem?_eq_some_iff.1 hi).1
  rw [List.getElem?_set, if_pos rfl, if_pos this]
def ivs (l : List Int) : List (List V) := l.map fun k => [V.int .i64 k]
def bookB (r g m : Nat) : B := .var [.nils, .nils, .ref r g 0 m, .nils, .nils, .nils, .nils, .nils, .nils, .nils, .nils, .nils, .nils, .nils]
def rv (x : Nat × Nat × Nat) : V := .ref x.1 x.2.1 0 x.2.2
theorem rowF_lt {T g f n : Nat} {xs : List (List V)} : (B.row T g f true xs).lt n := .inl rfl
theorem rowR_lt {T g f n : Nat} {fl : Bool} {xs : List (List V)} (h : ∀ x ∈ xs, V.lts n x = true) : (B.row T g f fl xs).lt n := .inr h
theorem bookB_lt {r g m n : Nat} (h : r < n) : (bookB r g m).lt n := by simp [bookB, h]
theorem bookB_r {r g m n : Nat} (h : (bookB r g m).lt n) : r < n := by simpa [bookB] using h
/-- A book of rows of one's own, no two of them the same. -/
structure Pre (h : List B) (bk r g : Nat) (refs : List (Nat × Nat × Nat)) : Prop where
  hl : HL h
  bk : h[bk]? = some (bookB r g refs.length)
  rr : h[r]? = some (.row 47 g 0 false (refs.map fun x => [rv x]))
  rows : ∀ (j : Nat) (x : Nat × Nat × Nat), refs[j]? = some x → ∃ ns, h[x.1]? = some (.row 3 x.2.1 0 true (ivs ns)) ∧ ns.length = x.2.2
  inj : ∀ (i j : Nat) (x y : Nat × Nat × Nat), refs[i]? = some x → refs[j]? = some y → x.1 = y.1 → i = j
/-- While each list is written. -/
structure P1 (h : List B) (bk r g : Nat) (refs : List (Nat × Nat × Nat)) (i k : Nat) (hc : List B) : Prop where
  len : hc.length = h.length
  hl : HL hc
  bk : hc[bk]? = some (bookB r g refs.length)
  rr : hc[r]? = some (.row 47 g 0 false (refs.map fun x => [rv x]))
  rows : ∀ (j : Nat) (x : Nat × Nat × Nat), refs[j]? = some x → ∃ ns, hc[x.1]? = some (.row 3 x.2.1 0 true (ivs ns)) ∧ ns.length = x.2.2 ∧ ∀ q, q < x.2.2 → (j < i ∨ (j = i ∧ q < k)) → ns[q]? = some (-9000 - (j : Int))
  inj : ∀ (i j : Nat) (x y : Nat × Nat × Nat), refs[i]? = some x → refs[j]? = some y → x.1 = y.1 → i = j
  rest : ∀ b, b ≠ r → (∀ x ∈ refs, x.1 ≠ b) → hc[b]? = h[b]?
section
variable {h hc : List B} {bk r g i k : Nat} {refs : List (Nat × Nat × Nat)}
theorem Pre.p1 (p : Pre h bk r g refs) : P1 h bk r g refs 0 0 h :=
  ⟨rfl, p.hl, p.bk, p.rr, fun j x hx => by
    obtain ⟨ns, h1, h2⟩ := p.rows j x hx
    exact ⟨ns, h1, h2, fun q hq hj => by omega⟩, p.inj, fun _ _ _ => rfl⟩
theorem ne_bk {x : Nat × Nat × Nat} {ns : List (List V)} {f : Nat} {fl : Bool} (hb : hc[bk]? = some (bookB r g k)) (hx : hc[x.1]? = some (.row 3 x.2.1 f fl ns)) : x.1 ≠ bk := fun e => by
  rw [e, hb] at hx; cases hx
theorem ne_r {x : Nat × Nat × Nat} {ns cs : List (List V)} {f : Nat} {fl : Bool} {g' : Nat} (hr : hc[r]? = some (.row 47 g 0 false cs)) (hx : hc[x.1]? = some (.row 3 g' f fl ns)) : x.1 ≠ r := fun e => by
  rw [e, hr] at hx; cases hx
theorem bk_ne_r {cs : List (List V)} (hb : hc[bk]? = some (bookB r g k)) (hr : hc[r]? = some (.row 47 g 0 false cs)) : bk ≠ r := fun e => by
  rw [e, hr] at hb; cases hb
theorem P1.step (p : P1 h bk r g refs i k hc) {x : Nat × Nat × Nat} (hx : refs[i]? = some x) {ns : List Int} (hr : hc[x.1]? = some (.row 3 x.2.1 0 true (ivs ns))) (hn : ns.length = x.2.2) (hk : k < x.2.2) :
    P1 h bk r g refs i (k + 1) (hc.set x.1 (.row 3 x.2.1 0 true (ivs (ns.set k (-9000 - (i : Int)))))) := by
  have n1 : x.1 ≠ bk := fun e => by have := p.bk; rw [e, this] at hr; cases hr
  have n2 := ne_r p.rr hr
  refine ⟨by rw [List.length_set]; exact p.len, p.hl.set rowF_lt, by rw [get_set_ne n1]; exact p.bk, by rw [get_set_ne n2]; exact p.rr, fun j y hy => ?_, p.inj, fun b hb hb' => by rw [get_set_ne (hb' x (List.mem_of_getElem? hx))]; exact p.rest b hb hb'⟩
  by_cases e : j = i
  · subst e
    obtain rfl : x = y := by rw [hx] at hy; cases hy; rfl
    obtain ⟨ms, h1, h2, h3⟩ := p.rows j x hx
    have : ms = ns := by
      rw [hr] at h1
      simp only [Option.some.injEq, B.row.injEq, true_and] at h1
      have inj : ∀ (a b : List Int), ivs a = ivs b → a = b := fun a => by
        induction a with
        | nil => intro b hb; cases b <;> simp [ivs] at hb ⊢
        | cons z a ih =>
          intro b hb
          cases b with
          | nil => simp [ivs] at hb
          | cons w b =>
            simp only [ivs, List.map_cons, List.cons.injEq, V.int.injEq, true_and, and_true] at hb
            rw [hb.1, ih b hb.2]
      exact (inj _ _ h1).symm
    subst this
    refine ⟨_, get_set_eq hr, by simp [hn], fun q hq hj => ?_⟩
    rw [List.getElem?_set]
    by_cases e : k = q
    · subst e; rw [if_pos rfl, if_pos (by omega)]
    · rw [if_neg e]; exact h3 q hq (by omega)
  · obtain ⟨ms, h1, h2, h3⟩ := p.rows j y hy
    have hne : x.1 ≠ y.1 := fun e' => e (p.inj i j x y hx hy e').symm
    exact ⟨ms, by rw [get_set_ne hne]; exact h1, h2, fun q hq hj => h3 q hq (by omega)⟩
theorem P1.next (p : P1 h bk r g refs i k hc) {x : Nat × Nat × Nat} (hx : refs[i]? = some x) (hk : k = x.2.2) : P1 h bk r g refs (i + 1) 0 hc :=
  ⟨p.len, p.hl, p.bk, p.rr, fun j y hy => by
    obtain ⟨ms, h1, h2, h3⟩ := p.rows j y hy
    refine ⟨ms, h1, h2, fun q hq hj => h3 q hq ?_⟩
    by_cases e : j = i
    · subst e
      obtain rfl : x = y := by rw [hx] at hy; cases hy; rfl
      omega
    · omega, p.inj, p.rest⟩
/-- All places the same. -/
def repV (n : Nat) (v : Int) : List (List V) := List.replicate n [V.int .i64 v]
theorem ivs_rep {ns : List Int} {n : Nat} {v : Int} (hn : ns.length = n) (h : ∀ q, q < n → ns[q]? = some v) : ivs ns = repV n v := by
  have : ns = List.replicate n v := by
    apply List.ext_getElem?
    intro q
    by_cases hq : q < n
    · rw [h q hq]; simp [hq]
    · rw [List.getElem?_eq_none (by omega), List.getElem?_eq_none (by simp; omega)]
  subst this
  simp [ivs, repV]
/-- While each list is grown. -/
structure P2 (h : List B) (bk r g : Nat) (refs : List (Nat × Nat × Nat)) (i : Nat) (hc : List B) : Prop where
  len : hc.length = h.length + 1
  hl : HL hc
  bk : hc[bk]? = some (bookB r g refs.length)
  rr : ∃ cs : List (List V), hc[r]? = some (.row 47 g 0 false cs) ∧ cs.length = refs.length ∧ ∀ (j : Nat) (x : Nat × Nat × Nat), refs[j]? = some x → cs[j]? = some [if j < i then .vec (repV x.2.2 (-9000 - (j : Int))) x.2.2 else rv x]
  all : ∃ (fl : Bool) (ds : List (List V)), hc[h.length]? = some (.row 47 i 0 fl ds) ∧ ds.length = i ∧ ∀ (j : Nat) (x : Nat × Nat × Nat), j < i → refs[j]? = some x → ds[j]? = some [.ref x.1 (x.2.1 + 20) 0 (x.2.2 + 20)]
  rows : ∀ (j : Nat) (x : Nat × Nat × Nat), refs[j]? = some x → hc[x.1]? = some (if j < i then .row 3 (x.2.1 + 20) x.2.2 true (repV (x.2.2 + 20) (-9000 - (j : Int))) else .row 3 x.2.1 0 true (repV x.2.2 (-9000 - (j : Int))))
  inj : ∀ (i j : Nat) (x y : Nat × Nat × Nat), refs[i]? = some x → refs[j]? = some y → x.1 = y.1 → i = j
  rest : ∀ b, b < h.length → b ≠ r → (∀ x ∈ refs, x.1 ≠ b) → hc[b]? = h[b]?
theorem P1.p2 (p : P1 h bk r g refs refs.length 0 hc) : P2 h bk r g refs 0 (hc ++ [.row 47 0 0 true []]) := by
  have hlt : ∀ {b : Nat} {y : B}, hc[b]? = some y → (hc ++ [B.row 47 0 0 true []])[b]? = some y := fun {b y} hy => by
    rw [List.getElem?_append_left (List.getElem?_eq_some_iff.1 hy).1]; exact hy
  refine ⟨by rw [List.length_append, p.len]; rfl, p.hl.push rowF_lt, hlt p.bk, ⟨_, hlt p.rr, by simp, fun j x hx => ?_⟩, ⟨true, [], ?_, rfl, fun j x hj => by omega⟩, fun j x hx => ?_, p.inj, fun b hb hb1 hb2 => ?_⟩
  · rw [List.getElem?_map, hx, if_neg (by omega)]; rfl
  · rw [← p.len]; simp
  · obtain ⟨ns, h1, h2, h3⟩ := p.rows j x hx
    have hj := (List.getElem?_eq_some_iff.1 hx).1
    rw [if_neg (by omega), hlt h1, ivs_rep h2 fun q hq => h3 q hq (.inl hj)]
  · rw [List.getElem?_append_left (by rw [p.len]; exact hb)]; exact p.rest b hb1 hb2
/-- The heap while the list i is grown: k places more. -/
def grown (hc : List B) (r g i : Nat) (cs : List (List V)) (x : Nat × Nat × Nat) (v : Int) (k : Nat) : List B :=
  (hc.set r (.row 47 g 0 false (cs.set i [.vec (repV x.2.2 v) x.2.2]))).set x.1 (.row 3 (x.2.1 + k) x.2.2 true (repV (x.2.2 + k) v))
theorem grown_succ {hc : List B} {r g i k : Nat} {cs : List (List V)} {x : Nat × Nat × Nat} {v : Int} : grown hc r g i cs x v (k + 1) = (grown hc r g i cs x v k).set x.1 (.row 3 (x.2.1 + (k + 1)) x.2.2 true (repV (x.2.2 + (k + 1)) v)) := by
  simp [grown]
theorem P2.grows (p : P2 h bk r g refs i hc) {x : Nat × Nat × Nat} (hx : refs[i]? = some x) {cs ds : List (List V)} {fl : Bool} (hcs : hc[r]? = some (.row 47 g 0 false cs)) (hds : hc[h.length]? = some (.row 47 i 0 fl ds)) (v : Int) (k : Nat) :
    (grown hc r g i cs x v k).length = h.length + 1 ∧ HL (grown hc r g i cs x v k) ∧ (grown hc r g i cs x v k)[h.length]? = some (.row 47 i 0 fl ds) ∧
    (grown hc r g i cs x v k)[x.1]? = some (.row 3 (x.2.1 + k) x.2.2 true (repV (x.2.2 + k) v)) ∧ x.1 ≠ bk ∧ x.1 ≠ r ∧ bk ≠ r ∧ x.1 ≠ h.length ∧ bk ≠ h.length ∧ r ≠ h.length := by
  have hrow := p.rows i x hx
  rw [if_neg (by omega)] at hrow
  have n1 : x.1 ≠ bk := fun e => by have := p.bk; rw [e, this] at hrow; cases hrow
  have n2 : x.1 ≠ r := ne_r hcs hrow
  have n3 : bk ≠ r := bk_ne_r p.bk hcs
  have n4 : x.1 ≠ h.length := fun e => by rw [e, hds] at hrow; cases hrow
  have n5 : bk ≠ h.length := fun e => by have := p.bk; rw [e, hds] at this; cases this
  have n6 : r ≠ h.length := fun e => by
    have hr : r < hc.length := (List.getElem?_eq_some_iff.1 hcs).1
    have h1 := (p.hl.get hcs)
    have h2 := p.hl.get p.bk
    obtain ⟨cs', q1, q2, q3⟩ := p.rr
    obtain ⟨fl', ds', t1, t2, t3⟩ := p.all
    rw [e, t1] at q1
    have hi := (List.getElem?_eq_some_iff.1 hx).1
    cases q1
    omega
  have hi := (List.getElem?_eq_some_iff.1 hx).1
  obtain ⟨cs', q1, q2, q3⟩ := p.rr
  obtain rfl : cs' = cs := by rw [hcs] at q1; cases q1; rfl
  obtain ⟨fl', ds', t1, t2, t3⟩ := p.all
  obtain ⟨rfl, rfl⟩ : fl' = fl ∧ ds' = ds := by rw [hds] at t1; cases t1; exact ⟨rfl, rfl⟩
  have hxl : x.1 < h.length + 1 := by rw [← p.len]; exact (List.getElem?_eq_some_iff.1 hrow).1
  have hcsl : ∀ y ∈ cs'.set i [V.vec (repV x.2.2 v) x.2.2], V.lts hc.length y = true := fun y hy => by
    rcases List.mem_or_eq_of_mem_set hy with h | h
    · exact ((p.hl.get hcs).resolve_left (by simp)) y h
    · subst h; simp
  have e1 : (hc.set r (.row 47 g 0 false (cs'.set i [V.vec (repV x.2.2 v) x.2.2])))[x.1]? = hc[x.1]? := get_set_ne (fun e => n2 e.symm)
  exact ⟨by simp only [Go.Proofs.YtgmlimipejcpgaaGreatDoor.grown, List.length_set]; exact p.len, (p.hl.set (rowR_lt hcsl)).set rowF_lt, by rw [Go.Proofs.YtgmlimipejcpgaaGreatDoor.grown, get_set_ne n4, get_set_ne n6]; exact t1, get_set_eq (e1.trans hrow), n1, n2, n3, n4, n5, n6⟩
theorem P2.step (p : P2 h bk r g refs i hc) {x : Nat × Nat × Nat} (hx : refs[i]? = some x) {cs ds : List (List V)} {fl : Bool} (hcs : hc[r]? = some (.row 47 g 0 false cs)) (hds : hc[h.length]? = some (.row 47 i 0 fl ds)) :
    P2 h bk r g refs (i + 1) ((grown hc r g i cs x (-9000 - (i : Int)) 20).set h.length (.row 47 (i + 1) 0 false (ds ++ [[.ref x.1 (x.2.1 + 20) 0 (x.2.2 + 20)]]))) := by
  obtain ⟨hg_len, hg_hl, hg_all, hg_x, n1, n2, n3, n4, n5, n6⟩ := p.grows hx hcs hds (-9000 - (i : Int)) 20
  have hrow := p.rows i x hx
  rw [if_neg (by omega)] at hrow
  have hi := (List.getElem?_eq_some_iff.1 hx).1
  obtain ⟨cs', q1, q2, q3⟩ := p.rr
  obtain rfl : cs' = cs := by rw [hcs] at q1; cases q1; rfl
  obtain ⟨fl', ds', t1, t2, t3⟩ := p.all
  obtain ⟨rfl, rfl⟩ : fl' = fl ∧ ds' = ds := by rw [hds] at t1; cases t1; exact ⟨rfl, rfl⟩
  have hxl : x.1 < h.length + 1 := by rw [← p.len]; exact (List.getElem?_eq_some_iff.1 hrow).1
  have hdl : ∀ y ∈ ds' ++ [[V.ref x.1 (x.2.1 + 20) 0 (x.2.2 + 20)]], V.lts (h.length + 1) y = true := fun y hy => by
    rcases List.mem_append.1 hy with h | h
    · obtain ⟨j, hj⟩ := List.getElem?_of_mem h
      have hjl := (List.getElem?_eq_some_iff.1 hj).1
      have hjr : j < refs.length := by omega
      have := t3 j refs[j] (by omega) (List.getElem?_eq_getElem hjr)
      rw [hj] at this; cases this
      have h5 := p.rows j refs[j] (List.getElem?_eq_getElem hjr)
      have h6 := (List.getElem?_eq_some_iff.1 h5).1
      rw [p.len] at h6
      simp [h6]
    · rw [List.mem_singleton.1 h]; simp [hxl]
  refine ⟨by rw [List.length_set]; exact hg_len, hg_hl.set (rowR_lt (by rw [hg_len]; exact hdl)), ?_, ⟨cs'.set i [V.vec (repV x.2.2 (-9000 - (i : Int))) x.2.2], ?_, by rw [List.length_set]; exact q2, fun j y hy => ?_⟩, ⟨false, ds' ++ [[.ref x.1 (x.2.1 + 20) 0 (x.2.2 + 20)]], get_set_eq hg_all, by simp [t2], fun j y hj hy => ?_⟩, fun j y hy => ?_, p.inj, fun b hb hb1 hb2 => ?_⟩
  · rw [get_set_ne (fun e => n5 e.symm), Go.Proofs.YtgmlimipejcpgaaGreatDoor.grown, get_set_ne n1, get_set_ne (fun e => n3 e.symm)]; exact p.bk
  · rw [get_set_ne (fun e => n6 e.symm), Go.Proofs.YtgmlimipejcpgaaGreatDoor.grown, get_set_ne n2]; exact get_set_eq hcs
  · rw [List.getElem?_set]
    by_cases e : i = j
    · subst e
      obtain rfl : x = y := by rw [hx] at hy; cases hy; rfl
      rw [if_pos rfl, if_pos (by omega), if_pos (by omega)]
    · rw [if_neg e, q3 j y hy]
      by_cases e2 : j < i
      · rw [if_pos e2, if_pos (by omega)]
      · rw [if_neg e2, if_neg (by omega)]
  · by_cases e : j = i
    · subst e
      obtain rfl : x = y := by rw [hx] at hy; cases hy; rfl
      rw [List.getElem?_append_right (by omega), t2]; simp
    · rw [List.getElem?_append_left (by omega)]; exact t3 j y (by omega) hy
  · have hjn : y.1 ≠ h.length := fun e => by
      have h5 := p.rows j y hy
      rw [e, t1] at h5
      by_cases e2 : j < i
      · rw [if_pos e2] at h5; cases h5
      · rw [if_neg e2] at h5; cases h5
    rw [get_set_ne (fun e => hjn e.symm), Go.Proofs.YtgmlimipejcpgaaGreatDoor.grown]
    by_cases e : j = i
    · subst e
      obtain rfl : x = y := by rw [hx] at hy; cases hy; rfl
      rw [if_pos (by omega)]
      exact get_set_eq (z := .row 3 x.2.1 0 true (repV x.2.2 (-9000 - (j : Int)))) (by rw [get_set_ne (fun e => n2 e.symm)]; exact hrow)
    · have hne : x.1 ≠ y.1 := fun e' => e (p.inj i j x y hx hy e').symm
      have h5 := p.rows j y hy
      have hyr : r ≠ y.1 := fun e' => by
        rw [← e', hcs] at h5
        by_cases e2 : j < i
        · rw [if_pos e2] at h5; cases h5
        · rw [if_neg e2] at h5; cases h5
      rw [get_set_ne hne, get_set_ne hyr, h5]
      by_cases e2 : j < i
      · rw [if_pos e2, if_pos (by omega)]
      · rw [if_neg e2, if_neg (by omega)]
  · rw [get_set_ne (by omega), Go.Proofs.YtgmlimipejcpgaaGreatDoor.grown, get_set_ne (hb2 x (List.mem_of_getElem? hx)), get_set_ne (fun e => hb1 e.symm)]; exact p.rest b hb hb1 hb2
end
end Go.Proofs.YtgmlimipejcpgaaGreatDoor
end

section
set_option linter.unusedVariables false
set_option linter.unusedSimpArgs false
namespace Go.Proofs.YtgmlimipejcpgaaGreatDoor
open Go Go.AM Fx
/-! A book of lists of ints: what takes a list, what writes and grows each. -/
theorem Leaves.symx {h0 h x : List B} (h1 : h0.length ≤ h.length) (hl : HL h) : Go.AM.Leaves h0 (h ++ x) h :=
  ⟨h1, by simp, fun b y hy => .inr ⟨by rw [List.getElem?_append_left (List.getElem?_eq_some_iff.1 hy).1]; exact hy, .inr (hl.get hy)⟩⟩
theorem set_app {h x : List B} {i : Nat} {y : B} (hi : i < h.length) : (h ++ x).set i y = h.set i y ++ x := by rw [List.set_append, if_pos hi]
theorem get_app {h x : List B} {i : Nat} (hi : i < h.length) : (h ++ x)[i]? = h[i]? := List.getElem?_append_left hi
set_option maxHeartbeats 4000000 in
theorem g_Take {h : List B} {bk r g m b gb len : Nat} {fl : Bool} {xs : List (List V)} (hl : HL h) (h1 : h[bk]? = some (bookB r g m)) (h2 : h[r]? = some (.row 47 g 0 fl xs)) (hxs : ∀ x ∈ xs, V.lts h.length x = true) (hm : xs.length = m) (hb : b < h.length) (hmm : m ≤ 1099511627776) :
    GCall Tryz.prog GV 31 [.ptr bk 0, .ref b gb 0 len] h (fun v h' => v = .tup [] ∧ h' = (h.set r (.row 47 (g + 1) 0 false (xs ++ [[.ref b gb 0 len]]))).set bk (bookB r (g + 1) (m + 1))) := by
  have hbk := (List.getElem?_eq_some_iff.1 h1).1
  have hr := (List.getElem?_eq_some_iff.1 h2).1
  have hne : r ≠ bk := fun e => by rw [e, h1] at h2; cases h2
  have hby : (m + 1) * 24 ≤ 140737488355328 := by omega
  subst hm
  have hxl : ∀ x ∈ xs ++ [[V.ref b gb 0 len]], V.lts h.length x = true := fun x hx => by
    rcases List.mem_append.1 hx with hx | hx
    · exact hxs x hx
    · rw [List.mem_singleton.1 hx]; simp [hb]
  have hl2 : HL ((h.set r (.row 47 (g + 1) 0 false (xs ++ [[.ref b gb 0 len]]))).set bk (bookB r (g + 1) (xs.length + 1))) :=
    (hl.set (rowR_lt hxl)).set (by rw [List.length_set]; exact bookB_lt hr)
  have hbk2 : bk < (h.set r (B.row 47 (g + 1) 0 false (xs ++ [[V.ref b gb 0 len]]))).length := by rw [List.length_set]; exact hbk
  refine GCall_body Tryz.func31 rfl (by decide) Tryz.ntmps31 (by simp) Tryz.results31 ?_
  repeat' (first
 |refine AW_seq_k fun K hK=>?_|refine Step.by1 ?_|refine SBlock_exit_ne (by decide) ?_|refine cz rfl ?_|refine Fork.by2 (fun h=>?_) fun h=>?_
 |(refine AW_region_AO ?_;simp [h1, h2, get_app hbk, get_app hr, get_set_ne hne, hby, bookB, hb])
 |(refine Split.by2 (fun h=>?_) (fun h=>?_)<;>(simp [h, h1, h2, get_app hbk, get_app hr, get_set_ne hne, hby, bookB, hb]))
 |(apply hK;clear hK K)|refine AWh (by assumption) ?_)
  refine ⟨.inl rfl, _, _, ⟨[], rfl, trivial⟩, ⟨rfl, rfl⟩, rfl, ?_⟩
  have := Go.Proofs.YtgmlimipejcpgaaGreatDoor.Leaves.symx (h0 := h) (x := [.row 47 0 0 false [[V.ref b gb 0 len]]]) (by simp) hl2
  simpa [bookB, set_app hr, set_app hbk2] using this
set_option maxRecDepth 20000 in
set_option maxHeartbeats 16000000 in
theorem g_aloneInts {h : List B} {bk r g : Nat} {refs : List (Nat × Nat × Nat)} (p : Pre h bk r g refs) (hm : refs.length ≤ 1099511627776) (hlen : ∀ x ∈ refs, x.2.2 ≤ 1099511627776) :
    GCall Tryz.prog GV 86 [.ptr bk 0] h (fun v h' => v = .bool true ∧ h'[bk]? = some (bookB r g refs.length) ∧ HL h' ∧ h.length ≤ h'.length ∧ ∀ b, b < h.length → b ≠ r → (∀ x ∈ refs, x.1 ≠ b) → h'[b]? = h[b]?) := by
  have hbk := (List.getElem?_eq_some_iff.1 p.bk).1
  refine GCall_body Tryz.func86 rfl (by decide) Tryz.ntmps86 (by simp) Tryz.results86 ?_
  repeat' (first
 |refine AW_seq_k fun K hK=>?_|refine Step.by1 ?_|refine SBlock_exit_ne (by decide) ?_|refine cz rfl ?_|refine Fork.by2 (fun h=>?_) fun h=>?_
 |(refine AW_region_AO ?_;simp)
 |(refine Split.by2 (fun h=>?_) (fun h=>?_)<;>(simp [h]))
 |(apply hK;clear hK K)|refine AWh (by assumption) ?_)
  refine AW_loopL [0] (fun s : Nat × List B => [(3, .int .i64 s.1)]) (fun s => s.2) (fun s => s.1 ≤ refs.length ∧ P1 h bk r g refs s.1 0 s.2) (fun s => refs.length - s.1) (0, h) ⟨Nat.zero_le _, p.p1⟩ (Weak.sym (x := []) (by simp) p.hl (by simp [hbk])) (fun s hs => hs.2.len) ?_
  rintro ⟨i, hc⟩ ⟨hi, q⟩
  simp only at hi q
  have hbc : bk < hc.length := by rw [q.len]; exact hbk
  by_cases hlt : i < refs.length
  · obtain ⟨x, hx⟩ : ∃ x, refs[i] = x := ⟨_, rfl⟩
    have hx' : refs[i]? = some x := by rw [List.getElem?_eq_getElem hlt, hx]
    have hxl := hlen x (List.mem_of_getElem? hx')
    have hlt' : (i : Int) < refs.length := by omega
    have w1 : IntKind.i64.wrap ((i : Int) + 1) = i + 1 := wrap_i64 (by omega) (by omega)
    have w2 : IntKind.i64.wrap (-9000 - (i : Int)) = -9000 - i := wrap_i64 (by omega) (by omega)
    repeat' (first
 |refine AW_seq_k fun K hK=>?_|refine Step.by1 ?_|refine SBlock_exit_ne (by decide) ?_|refine cz rfl ?_|refine Fork.by2 (fun h=>?_) fun h=>?_
 |(refine AW_region_AO ?_;simp [q.bk, q.rr, bookB, rv, hlt, hlt', hx])
 |(refine Split.by2 (fun h=>?_) (fun h=>?_)<;>(simp [h, q.bk, q.rr, bookB, rv, hlt, hlt', hx]))
 |(apply hK;clear hK K)|refine AWh (by assumption) ?_)
    refine AW_loopL [0, 3] (fun s : Nat × List B => [(4, .int .i64 s.1)]) (fun s => s.2) (fun s => s.1 ≤ x.2.2 ∧ P1 h bk r g refs i s.1 s.2) (fun s => x.2.2 - s.1) (0, hc) ⟨Nat.zero_le _, q⟩ (Weak.sym (x := []) (by simp) q.hl (by simp [hbc])) (fun s hs => by rw [hs.2.len]; exact q.len.symm) ?_
    rintro ⟨k, hd⟩ ⟨hk, q2⟩
    simp only at hk q2
    have hbd : bk < hd.length := by rw [q2.len]; exact hbk
    obtain ⟨ns, n1, n2, n3⟩ := q2.rows i x hx'
    by_cases hkt : k < x.2.2
    · have st := q2.step hx' n1 n2 hkt
      have hkt' : (k : Int) < x.2.2 := by omega
      have w3 : IntKind.i64.wrap ((k : Int) + 1) = k + 1 := wrap_i64 (by omega) (by omega)
      repeat' (first
 |refine AW_seq_k fun K hK=>?_|refine Step.by1 ?_|refine SBlock_exit_ne (by decide) ?_|refine cz rfl ?_|refine Fork.by2 (fun h=>?_) fun h=>?_
 |(refine AW_region_AO ?_;simp [q2.bk, q2.rr, bookB, rv, hlt, hlt', hx, n1, n2, hkt, hkt', w2, w3, ivs])
 |(refine Split.by2 (fun h=>?_) (fun h=>?_)<;>(simp [h, q2.bk, q2.rr, bookB, rv, hlt, hlt', hx, n1, n2, hkt, hkt', w2, w3, ivs]))
 |(apply hK;clear hK K)|refine AWh (by assumption) ?_)
      refine ⟨k + 1, _, ⟨by omega, st⟩, by omega, Weak.sym (x := []) (by simp [ivs, List.map_set]) st.hl (by simp [hbd])⟩
    · have hkt' : ¬ (k : Int) < x.2.2 := by omega
      repeat' (first
 |refine AW_seq_k fun K hK=>?_|refine Step.by1 ?_|refine SBlock_exit_ne (by decide) ?_|refine cz rfl ?_|refine Fork.by2 (fun h=>?_) fun h=>?_
 |(refine AW_region_AO ?_;simp [q2.bk, q2.rr, bookB, rv, hlt, hlt', hx, hkt, hkt', w1])
 |(refine Split.by2 (fun h=>?_) (fun h=>?_)<;>(simp [h, q2.bk, q2.rr, bookB, rv, hlt, hlt', hx, hkt, hkt', w1]))
 |(apply hK;clear hK K)|refine AWh (by assumption) ?_)
      exact ⟨i + 1, hd, ⟨by omega, q2.next hx' (by omega)⟩, by omega, Weak.sym (x := []) (by simp) q2.hl (by simp [hbd])⟩
  · obtain rfl : i = refs.length := by omega
    repeat' (first
 |refine AW_seq_k fun K hK=>?_|refine Step.by1 ?_|refine SBlock_exit_ne (by decide) ?_|refine cz rfl ?_|refine Fork.by2 (fun h=>?_) fun h=>?_
 |(refine AW_region_AO ?_;simp [q.bk, q.rr, bookB])
 |(refine Split.by2 (fun h=>?_) (fun h=>?_)<;>(simp [h, q.bk, q.rr, bookB]))
 |(apply hK;clear hK K)|refine AWh (by assumption) ?_)
    refine AW_nilrow 5 47 rfl (by simp) ?_
    have hcl : hc.length = h.length := q.len
    refine AW_loopL [0] (fun s : Nat × List B => [(6, .int .i64 s.1), (5, .ref h.length s.1 0 s.1)]) (fun s => s.2) (fun s => s.1 ≤ refs.length ∧ P2 h bk r g refs s.1 s.2) (fun s => refs.length - s.1) (0, hc ++ [B.row 47 0 0 true []]) ⟨Nat.zero_le _, q.p2⟩ (Weak.sym (x := []) (by simp) q.p2.hl (by simp [hcl]; omega)) (fun s hs => by rw [hs.2.len]; simp [hcl]) ?_
    rintro ⟨i, hc2⟩ ⟨hi, q⟩
    simp only at hi q
    have hbc2 : bk < hc2.length := by rw [q.len]; omega
    obtain ⟨cs, c1, c2, c3⟩ := q.rr
    obtain ⟨fl, ds, d1, d2, d3⟩ := q.all
    by_cases hlt : i < refs.length
    · obtain ⟨x, hx⟩ : ∃ x, refs[i] = x := ⟨_, rfl⟩
      have hx' : refs[i]? = some x := by rw [List.getElem?_eq_getElem hlt, hx]
      have hxl := hlen x (List.mem_of_getElem? hx')
      have hlt' : (i : Int) < refs.length := by omega
      have w1 : IntKind.i64.wrap ((i : Int) + 1) = i + 1 := wrap_i64 (by omega) (by omega)
      have w2 : IntKind.i64.wrap (-9000 - (i : Int)) = -9000 - i := wrap_i64 (by omega) (by omega)
      have hci? := c3 i x hx'
      rw [if_neg (by omega)] at hci?
      have hcl2 : i < cs.length := by omega
      have hci : cs[i] = [rv x] := by rw [List.getElem?_eq_getElem hcl2] at hci?; exact Option.some.inj hci?
      have hrow := q.rows i x hx'
      rw [if_neg (by omega)] at hrow
      have hgr := q.grows hx' c1 d1 (-9000 - (i : Int))
      have hst := q.step hx' c1 d1
      have hgn : ∀ k, Go.Proofs.YtgmlimipejcpgaaGreatDoor.grown hc2 r g i cs x (-9000 - (i : Int)) (k + 1) = _ := fun k => grown_succ
      obtain ⟨_, _, _, _, n1, n2, n3, n4, n5, n6⟩ := hgr 0
      have hql := q.len
      have hxc : x.1 < hc2.length := (List.getElem?_eq_some_iff.1 hrow).1
      have hrc : r < hc2.length := (List.getElem?_eq_some_iff.1 c1).1
      have h0 : (hc2.set x.1 (.row 3 x.2.1 (repV x.2.2 (-9000 - (i : Int))).length true (repV x.2.2 (-9000 - (i : Int))))).set r (.row 47 g 0 false (cs.set i ([rv x].set 0 (.vec ((repV x.2.2 (-9000 - (i : Int))).drop 0) x.2.2)))) = Go.Proofs.YtgmlimipejcpgaaGreatDoor.grown hc2 r g i cs x (-9000 - (i : Int)) 0 := by
        rw [List.set_comm _ _ n2]
        simp [Go.Proofs.YtgmlimipejcpgaaGreatDoor.grown, repV]
      repeat' (first
 |refine AW_seq_k fun K hK=>?_|refine Step.by1 ?_|refine SBlock_exit_ne (by decide) ?_|refine cz rfl ?_|refine Fork.by2 (fun h=>?_) fun h=>?_
 |(refine AW_region_AO ?_;simp [q.bk, c1, bookB, hlt, hlt', c2, hci, hcl2])
 |(refine Split.by2 (fun h=>?_) (fun h=>?_)<;>(simp [h, q.bk, c1, bookB, hlt, hlt', c2, hci, hcl2]))
 |(apply hK;clear hK K)|refine AWh (by assumption) ?_)
      refine AW_viewrow r i 0 c1 hci? rfl hrow (by simp [repV]) ?_
      rw [h0]
      refine AW_loopL [0, 5, 6] (fun k : Nat => [(7, .ref x.1 (x.2.1 + k) 0 (x.2.2 + k)), (8, .int .i64 k)]) (fun k => Go.Proofs.YtgmlimipejcpgaaGreatDoor.grown hc2 r g i cs x (-9000 - (i : Int)) k) (fun k => k ≤ 20) (fun k => 20 - k) 0 (by omega) (Weak.sym (x := []) (by simp) (hgr 0).2.1 (by simp [rv, (hgr 0).1]; omega)) (fun k _ => by rw [(hgr k).1]; exact (hgr 0).1.symm) ?_
      intro k hk
      obtain ⟨g1, g2, g3, g4, _⟩ := hgr k
      by_cases hk20 : k < 20
      · obtain ⟨g5, g6, _⟩ := hgr (k + 1)
        have e1 := hgn k
        generalize Go.Proofs.YtgmlimipejcpgaaGreatDoor.grown hc2 r g i cs x (-9000 - (i : Int)) k = hd at *
        have hxd : x.1 < hd.length := by omega
        have hk20' : (k : Int) < 20 := by omega
        have w3 : IntKind.i64.wrap ((k : Int) + 1) = k + 1 := wrap_i64 (by omega) (by omega)
        have hby : (x.2.2 + k + 1) * 8 ≤ 140737488355328 := by omega
        have hrl : (repV (x.2.2 + k) (-9000 - (i : Int))).length = x.2.2 + k := by simp [repV]
        have hrs : repV (x.2.2 + k) (-9000 - (i : Int)) ++ [[V.int .i64 (-9000 - (i : Int))]] = repV (x.2.2 + (k + 1)) (-9000 - (i : Int)) := by
          rw [← Nat.add_assoc]; simp [repV, List.replicate_succ']
        repeat' (first
 |refine AW_seq_k fun K hK=>?_|refine Step.by1 ?_|refine SBlock_exit_ne (by decide) ?_|refine cz rfl ?_|refine Fork.by2 (fun h=>?_) fun h=>?_
 |(refine AW_region_AO ?_;simp [g4, get_app hxd, hk20, hk20', w2, w3, hby, hrl, hrs])
 |(refine Split.by2 (fun h=>?_) (fun h=>?_)<;>(simp [h, g4, get_app hxd, hk20, hk20', w2, w3, hby, hrl, hrs]))
 |(apply hK;clear hK K)|refine AWh (by assumption) ?_)
        refine ⟨k + 1, by omega, by omega, Weak.sym (x := [.row 3 0 0 true [[V.int .i64 (-9000 - (i : Int))]]]) (by simp [e1, set_app hxd, Nat.add_assoc]) g6 (by simp [Nat.add_assoc, g5]; omega)⟩
      · obtain rfl : k = 20 := by omega
        generalize Go.Proofs.YtgmlimipejcpgaaGreatDoor.grown hc2 r g i cs x (-9000 - (i : Int)) 20 = hd at *
        have hnd : h.length < hd.length := by omega
        have hby : (i + 1) * 24 ≤ 140737488355328 := by omega
        repeat' (first
 |refine AW_seq_k fun K hK=>?_|refine Step.by1 ?_|refine SBlock_exit_ne (by decide) ?_|refine cz rfl ?_|refine Fork.by2 (fun h=>?_) fun h=>?_
 |(refine AW_region_AO ?_;simp [g3, get_app hnd, w1, hby, d2])
 |(refine Split.by2 (fun h=>?_) (fun h=>?_)<;>(simp [h, g3, get_app hnd, w1, hby, d2]))
 |(apply hK;clear hK K)|refine AWh (by assumption) ?_)
        refine ⟨i + 1, _, ⟨by omega, hst⟩, by omega, Weak.sym (x := [.row 47 0 0 false [[V.ref x.1 (x.2.1 + 20) 0 (x.2.2 + 20)]]]) (by simp [set_app hnd]) hst.hl (by simp; omega)⟩
    · obtain rfl : i = refs.length := by omega
      have hql := q.len
      repeat' (first
 |refine AW_seq_k fun K hK=>?_|refine Step.by1 ?_|refine SBlock_exit_ne (by decide) ?_|refine cz rfl ?_|refine Fork.by2 (fun h=>?_) fun h=>?_
 |(refine AW_region_AO ?_;simp [q.bk, c1, bookB, c2])
 |(refine Split.by2 (fun h=>?_) (fun h=>?_)<;>(simp [h, q.bk, c1, bookB, c2]))
 |(apply hK;clear hK K)|refine AWh (by assumption) ?_)
      refine AW_loopL [0, 5] (fun i : Nat => [(9, .int .i64 i)]) (fun _ => hc2) (fun i => i ≤ refs.length) (fun i => refs.length - i) 0 (Nat.zero_le _) (Weak.sym (x := []) (by simp) q.hl (by simp; omega)) (fun _ _ => rfl) ?_
      intro i hi3
      by_cases hlt3 : i < refs.length
      · obtain ⟨x, hx⟩ : ∃ x, refs[i] = x := ⟨_, rfl⟩
        have hx' : refs[i]? = some x := by rw [List.getElem?_eq_getElem hlt3, hx]
        have hxl := hlen x (List.mem_of_getElem? hx')
        have hlt' : (i : Int) < refs.length := by omega
        have w1 : IntKind.i64.wrap ((i : Int) + 1) = i + 1 := wrap_i64 (by omega) (by omega)
        have w2 : IntKind.i64.wrap (-9000 - (i : Int)) = -9000 - i := wrap_i64 (by omega) (by omega)
        have hci? := c3 i x hx'
        rw [if_pos hlt3] at hci?
        have hcl2 : i < cs.length := by omega
        have hci : cs[i] = [.vec (repV x.2.2 (-9000 - (i : Int))) x.2.2] := by rw [List.getElem?_eq_getElem hcl2] at hci?; exact Option.some.inj hci?
        have hdi? := d3 i x hlt3 hx'
        have hdl : i < ds.length := by omega
        have hdi : ds[i] = [.ref x.1 (x.2.1 + 20) 0 (x.2.2 + 20)] := by rw [List.getElem?_eq_getElem hdl] at hdi?; exact Option.some.inj hdi?
        have hrow := q.rows i x hx'
        rw [if_pos hlt3] at hrow
        have r1 : (repV (x.2.2 + 20) (-9000 - (i : Int))).length = x.2.2 + 20 := by simp [repV]
        have r2 : (repV x.2.2 (-9000 - (i : Int))).length = x.2.2 := by simp [repV]
        repeat' (first
 |refine AW_seq_k fun K hK=>?_|refine Step.by1 ?_|refine SBlock_exit_ne (by decide) ?_|refine cz rfl ?_|refine Fork.by2 (fun h=>?_) fun h=>?_
 |(refine AW_region_AO ?_;simp [d1, d2, hlt3, hlt', hdi, hdl])
 |(refine Split.by2 (fun h=>?_) (fun h=>?_)<;>(simp [h, d1, d2, hlt3, hlt', hdi, hdl]))
 |(apply hK;clear hK K)|refine AWh (by assumption) ?_)
        refine AW_loopL [0, 5, 9] (fun k : Nat => [(10, .int .i64 k)]) (fun _ => hc2) (fun k => k ≤ x.2.2 + 20) (fun k => x.2.2 + 20 - k) 0 (Nat.zero_le _) (Weak.sym (x := []) (by simp) q.hl (by simp; omega)) (fun _ _ => rfl) ?_
        intro k hk
        by_cases hkt : k < x.2.2 + 20
        · have hkt' : (k : Int) < (x.2.2 : Int) + 20 := by omega
          have w3 : IntKind.i64.wrap ((k : Int) + 1) = k + 1 := wrap_i64 (by omega) (by omega)
          have hrk : (repV (x.2.2 + 20) (-9000 - (i : Int)))[k]'(by omega) = [.int .i64 (-9000 - (i : Int))] := by simp [repV]
          repeat' (first
 |refine AW_seq_k fun K hK=>?_|refine Step.by1 ?_|refine SBlock_exit_ne (by decide) ?_|refine cz rfl ?_|refine Fork.by2 (fun h=>?_) fun h=>?_
 |(refine AW_region_AO ?_;simp [d1, d2, hlt3, hlt', hdi, hdl, hrow, r1, hkt, hkt', hrk, w2, w3])
 |(refine Split.by2 (fun h=>?_) (fun h=>?_)<;>(simp [h, d1, d2, hlt3, hlt', hdi, hdl, hrow, r1, hkt, hkt', hrk, w2, w3]))
 |(apply hK;clear hK K)|refine AWh (by assumption) ?_)
          exact ⟨k + 1, by omega, by omega, Weak.sym (x := []) (by simp) q.hl (by simp; omega)⟩
        · have hkt' : ¬ (k : Int) < (x.2.2 : Int) + 20 := by omega
          repeat' (first
 |refine AW_seq_k fun K hK=>?_|refine Step.by1 ?_|refine SBlock_exit_ne (by decide) ?_|refine cz rfl ?_|refine Fork.by2 (fun h=>?_) fun h=>?_
 |(refine AW_region_AO ?_;simp [d1, d2, hlt3, hlt', hdi, hdl, hkt, hkt'])
 |(refine Split.by2 (fun h=>?_) (fun h=>?_)<;>(simp [h, d1, d2, hlt3, hlt', hdi, hdl, hkt, hkt']))
 |(apply hK;clear hK K)|refine AWh (by assumption) ?_)
          refine AW_loopL [0, 5, 9] (fun k : Nat => [(11, .int .i64 k)]) (fun _ => hc2) (fun k => k ≤ x.2.2) (fun k => x.2.2 - k) 0 (Nat.zero_le _) (Weak.sym (x := []) (by simp) q.hl (by simp; omega)) (fun _ _ => rfl) ?_
          intro m hmk
          by_cases hmt : m < x.2.2
          · have hmt' : (m : Int) < x.2.2 := by omega
            have w4 : IntKind.i64.wrap ((m : Int) + 1) = m + 1 := wrap_i64 (by omega) (by omega)
            have hrm : (repV x.2.2 (-9000 - (i : Int)))[m]'(by omega) = [.int .i64 (-9000 - (i : Int))] := by simp [repV]
            repeat' (first
 |refine AW_seq_k fun K hK=>?_|refine Step.by1 ?_|refine SBlock_exit_ne (by decide) ?_|refine cz rfl ?_|refine Fork.by2 (fun h=>?_) fun h=>?_
 |(refine AW_region_AO ?_;simp [q.bk, bookB, c1, c2, hlt3, hlt', hci, hcl2, r2, hmt, hmt', hrm, w2, w4])
 |(refine Split.by2 (fun h=>?_) (fun h=>?_)<;>(simp [h, q.bk, bookB, c1, c2, hlt3, hlt', hci, hcl2, r2, hmt, hmt', hrm, w2, w4]))
 |(apply hK;clear hK K)|refine AWh (by assumption) ?_)
            exact ⟨m + 1, by omega, by omega, Weak.sym (x := []) (by simp) q.hl (by simp; omega)⟩
          · have hmt' : ¬ (m : Int) < x.2.2 := by omega
            repeat' (first
 |refine AW_seq_k fun K hK=>?_|refine Step.by1 ?_|refine SBlock_exit_ne (by decide) ?_|refine cz rfl ?_|refine Fork.by2 (fun h=>?_) fun h=>?_
 |(refine AW_region_AO ?_;simp [q.bk, bookB, c1, c2, hlt3, hlt', hci, hcl2, hmt, hmt', w1])
 |(refine Split.by2 (fun h=>?_) (fun h=>?_)<;>(simp [h, q.bk, bookB, c1, c2, hlt3, hlt', hci, hcl2, hmt, hmt', w1]))
 |(apply hK;clear hK K)|refine AWh (by assumption) ?_)
            exact ⟨i + 1, by omega, by omega, Weak.sym (x := []) (by simp) q.hl (by simp; omega)⟩
      · have hlt' : ¬ (i : Int) < refs.length := by omega
        repeat' (first
 |refine AW_seq_k fun K hK=>?_|refine Step.by1 ?_|refine SBlock_exit_ne (by decide) ?_|refine cz rfl ?_|refine Fork.by2 (fun h=>?_) fun h=>?_
 |(refine AW_region_AO ?_;simp [d1, d2, hlt3, hlt'])
 |(refine Split.by2 (fun h=>?_) (fun h=>?_)<;>(simp [h, d1, d2, hlt3, hlt']))
 |(apply hK;clear hK K)|refine AWh (by assumption) ?_)
        exact retg1 ⟨rfl, q.bk, q.hl, by omega, q.rest⟩ rfl (Go.AM.Leaves.sym (show h.length ≤ hc2.length by omega) q.hl)

theorem g_aloneBytes {h : List B} {bk r g m : Nat} (h1 : h[bk]? = some (bookB r g m)) : GCall Tryz.prog GV 84 [.ptr bk 0] h (fun v h' => v = .bool true ∧ h' = h) := by
  refine GCall_body Tryz.func84 rfl (by decide) Tryz.ntmps84 (by simp) Tryz.results84 ?_
  repeat' (first
 |refine AW_loop0 ?_
 |refine AW_seq_k fun K hK=>?_|refine Step.by1 ?_|refine SBlock_exit_ne (by decide) ?_|refine cz rfl ?_|refine Fork.by2 (fun h=>?_) fun h=>?_
 |(refine AW_region_AO ?_;simp [h1, bookB])
 |(refine Split.by2 (fun h=>?_) (fun h=>?_)<;>(simp [h, h1, bookB]))
 |(apply hK;clear hK K)|refine AWh (by assumption) ?_)
  exact retg1 ⟨rfl, rfl⟩ rfl Go.AM.Leaves.refl
theorem g_aloneTexts {h : List B} {bk r g m : Nat} (h1 : h[bk]? = some (bookB r g m)) : GCall Tryz.prog GV 85 [.ptr bk 0] h (fun v h' => v = .bool true ∧ h' = h) := by
  refine GCall_body Tryz.func85 rfl (by decide) Tryz.ntmps85 (by simp) Tryz.results85 ?_
  repeat' (first
 |refine AW_loop0 ?_
 |refine AW_seq_k fun K hK=>?_|refine Step.by1 ?_|refine SBlock_exit_ne (by decide) ?_|refine cz rfl ?_|refine Fork.by2 (fun h=>?_) fun h=>?_
 |(refine AW_region_AO ?_;simp [h1, bookB])
 |(refine Split.by2 (fun h=>?_) (fun h=>?_)<;>(simp [h, h1, bookB]))
 |(apply hK;clear hK K)|refine AWh (by assumption) ?_)
  exact retg1 ⟨rfl, rfl⟩ rfl Go.AM.Leaves.refl
theorem g_aloneInt64s {h : List B} {bk r g m : Nat} (h1 : h[bk]? = some (bookB r g m)) : GCall Tryz.prog GV 87 [.ptr bk 0] h (fun v h' => v = .bool true ∧ h' = h) := by
  refine GCall_body Tryz.func87 rfl (by decide) Tryz.ntmps87 (by simp) Tryz.results87 ?_
  repeat' (first
 |refine AW_loop0 ?_
 |refine AW_seq_k fun K hK=>?_|refine Step.by1 ?_|refine SBlock_exit_ne (by decide) ?_|refine cz rfl ?_|refine Fork.by2 (fun h=>?_) fun h=>?_
 |(refine AW_region_AO ?_;simp [h1, bookB])
 |(refine Split.by2 (fun h=>?_) (fun h=>?_)<;>(simp [h, h1, bookB]))
 |(apply hK;clear hK K)|refine AWh (by assumption) ?_)
  exact retg1 ⟨rfl, rfl⟩ rfl Go.AM.Leaves.refl
theorem g_aloneBounds {h : List B} {bk r g m : Nat} (h1 : h[bk]? = some (bookB r g m)) : GCall Tryz.prog GV 88 [.ptr bk 0] h (fun v h' => v = .bool true ∧ h' = h) := by
  refine GCall_body Tryz.func88 rfl (by decide) Tryz.ntmps88 (by simp) Tryz.results88 ?_
  repeat' (first
 |refine AW_loop0 ?_
 |refine AW_seq_k fun K hK=>?_|refine Step.by1 ?_|refine SBlock_exit_ne (by decide) ?_|refine cz rfl ?_|refine Fork.by2 (fun h=>?_) fun h=>?_
 |(refine AW_region_AO ?_;simp [h1, bookB])
 |(refine Split.by2 (fun h=>?_) (fun h=>?_)<;>(simp [h, h1, bookB]))
 |(apply hK;clear hK K)|refine AWh (by assumption) ?_)
  exact retg1 ⟨rfl, rfl⟩ rfl Go.AM.Leaves.refl
theorem g_aloneRats {h : List B} {bk r g m : Nat} (h1 : h[bk]? = some (bookB r g m)) : GCall Tryz.prog GV 89 [.ptr bk 0] h (fun v h' => v = .bool true ∧ h' = h) := by
  refine GCall_body Tryz.func89 rfl (by decide) Tryz.ntmps89 (by simp) Tryz.results89 ?_
  repeat' (first
 |refine AW_loop0 ?_
 |refine AW_seq_k fun K hK=>?_|refine Step.by1 ?_|refine SBlock_exit_ne (by decide) ?_|refine cz rfl ?_|refine Fork.by2 (fun h=>?_) fun h=>?_
 |(refine AW_region_AO ?_;simp [h1, bookB])
 |(refine Split.by2 (fun h=>?_) (fun h=>?_)<;>(simp [h, h1, bookB]))
 |(apply hK;clear hK K)|refine AWh (by assumption) ?_)
  exact retg1 ⟨rfl, rfl⟩ rfl Go.AM.Leaves.refl
theorem g_aloneLimits {h : List B} {bk r g m : Nat} (h1 : h[bk]? = some (bookB r g m)) : GCall Tryz.prog GV 90 [.ptr bk 0] h (fun v h' => v = .bool true ∧ h' = h) := by
  refine GCall_body Tryz.func90 rfl (by decide) Tryz.ntmps90 (by simp) Tryz.results90 ?_
  repeat' (first
 |refine AW_loop0 ?_
 |refine AW_seq_k fun K hK=>?_|refine Step.by1 ?_|refine SBlock_exit_ne (by decide) ?_|refine cz rfl ?_|refine Fork.by2 (fun h=>?_) fun h=>?_
 |(refine AW_region_AO ?_;simp [h1, bookB])
 |(refine Split.by2 (fun h=>?_) (fun h=>?_)<;>(simp [h, h1, bookB]))
 |(apply hK;clear hK K)|refine AWh (by assumption) ?_)
  exact retg1 ⟨rfl, rfl⟩ rfl Go.AM.Leaves.refl
theorem g_aloneGuards {h : List B} {bk r g m : Nat} (h1 : h[bk]? = some (bookB r g m)) : GCall Tryz.prog GV 91 [.ptr bk 0] h (fun v h' => v = .bool true ∧ h' = h) := by
  refine GCall_body Tryz.func91 rfl (by decide) Tryz.ntmps91 (by simp) Tryz.results91 ?_
  repeat' (first
 |refine AW_loop0 ?_
 |refine AW_seq_k fun K hK=>?_|refine Step.by1 ?_|refine SBlock_exit_ne (by decide) ?_|refine cz rfl ?_|refine Fork.by2 (fun h=>?_) fun h=>?_
 |(refine AW_region_AO ?_;simp [h1, bookB])
 |(refine Split.by2 (fun h=>?_) (fun h=>?_)<;>(simp [h, h1, bookB]))
 |(apply hK;clear hK K)|refine AWh (by assumption) ?_)
  exact retg1 ⟨rfl, rfl⟩ rfl Go.AM.Leaves.refl
theorem g_aloneNodes {h : List B} {bk r g m : Nat} (h1 : h[bk]? = some (bookB r g m)) : GCall Tryz.prog GV 92 [.ptr bk 0] h (fun v h' => v = .bool true ∧ h' = h) := by
  refine GCall_body Tryz.func92 rfl (by decide) Tryz.ntmps92 (by simp) Tryz.results92 ?_
  repeat' (first
 |refine AW_loop0 ?_
 |refine AW_seq_k fun K hK=>?_|refine Step.by1 ?_|refine SBlock_exit_ne (by decide) ?_|refine cz rfl ?_|refine Fork.by2 (fun h=>?_) fun h=>?_
 |(refine AW_region_AO ?_;simp [h1, bookB])
 |(refine Split.by2 (fun h=>?_) (fun h=>?_)<;>(simp [h, h1, bookB]))
 |(apply hK;clear hK K)|refine AWh (by assumption) ?_)
  exact retg1 ⟨rfl, rfl⟩ rfl Go.AM.Leaves.refl
theorem g_aloneMoves {h : List B} {bk r g m : Nat} (h1 : h[bk]? = some (bookB r g m)) : GCall Tryz.prog GV 93 [.ptr bk 0] h (fun v h' => v = .bool true ∧ h' = h) := by
  refine GCall_body Tryz.func93 rfl (by decide) Tryz.ntmps93 (by simp) Tryz.results93 ?_
  repeat' (first
 |refine AW_loop0 ?_
 |refine AW_seq_k fun K hK=>?_|refine Step.by1 ?_|refine SBlock_exit_ne (by decide) ?_|refine cz rfl ?_|refine Fork.by2 (fun h=>?_) fun h=>?_
 |(refine AW_region_AO ?_;simp [h1, bookB])
 |(refine Split.by2 (fun h=>?_) (fun h=>?_)<;>(simp [h, h1, bookB]))
 |(apply hK;clear hK K)|refine AWh (by assumption) ?_)
  exact retg1 ⟨rfl, rfl⟩ rfl Go.AM.Leaves.refl
theorem g_aloneDiffs {h : List B} {bk r g m : Nat} (h1 : h[bk]? = some (bookB r g m)) : GCall Tryz.prog GV 94 [.ptr bk 0] h (fun v h' => v = .bool true ∧ h' = h) := by
  refine GCall_body Tryz.func94 rfl (by decide) Tryz.ntmps94 (by simp) Tryz.results94 ?_
  repeat' (first
 |refine AW_loop0 ?_
 |refine AW_seq_k fun K hK=>?_|refine Step.by1 ?_|refine SBlock_exit_ne (by decide) ?_|refine cz rfl ?_|refine Fork.by2 (fun h=>?_) fun h=>?_
 |(refine AW_region_AO ?_;simp [h1, bookB])
 |(refine Split.by2 (fun h=>?_) (fun h=>?_)<;>(simp [h, h1, bookB]))
 |(apply hK;clear hK K)|refine AWh (by assumption) ?_)
  exact retg1 ⟨rfl, rfl⟩ rfl Go.AM.Leaves.refl
theorem g_aloneSteps {h : List B} {bk r g m : Nat} (h1 : h[bk]? = some (bookB r g m)) : GCall Tryz.prog GV 95 [.ptr bk 0] h (fun v h' => v = .bool true ∧ h' = h) := by
  refine GCall_body Tryz.func95 rfl (by decide) Tryz.ntmps95 (by simp) Tryz.results95 ?_
  repeat' (first
 |refine AW_loop0 ?_
 |refine AW_seq_k fun K hK=>?_|refine Step.by1 ?_|refine SBlock_exit_ne (by decide) ?_|refine cz rfl ?_|refine Fork.by2 (fun h=>?_) fun h=>?_
 |(refine AW_region_AO ?_;simp [h1, bookB])
 |(refine Split.by2 (fun h=>?_) (fun h=>?_)<;>(simp [h, h1, bookB]))
 |(apply hK;clear hK K)|refine AWh (by assumption) ?_)
  exact retg1 ⟨rfl, rfl⟩ rfl Go.AM.Leaves.refl
theorem g_aloneAts {h : List B} {bk r g m : Nat} (h1 : h[bk]? = some (bookB r g m)) : GCall Tryz.prog GV 96 [.ptr bk 0] h (fun v h' => v = .bool true ∧ h' = h) := by
  refine GCall_body Tryz.func96 rfl (by decide) Tryz.ntmps96 (by simp) Tryz.results96 ?_
  repeat' (first
 |refine AW_loop0 ?_
 |refine AW_seq_k fun K hK=>?_|refine Step.by1 ?_|refine SBlock_exit_ne (by decide) ?_|refine cz rfl ?_|refine Fork.by2 (fun h=>?_) fun h=>?_
 |(refine AW_region_AO ?_;simp [h1, bookB])
 |(refine Split.by2 (fun h=>?_) (fun h=>?_)<;>(simp [h, h1, bookB]))
 |(apply hK;clear hK K)|refine AWh (by assumption) ?_)
  exact retg1 ⟨rfl, rfl⟩ rfl Go.AM.Leaves.refl
theorem g_aloneBools {h : List B} {bk r g m : Nat} (h1 : h[bk]? = some (bookB r g m)) : GCall Tryz.prog GV 97 [.ptr bk 0] h (fun v h' => v = .bool true ∧ h' = h) := by
  refine GCall_body Tryz.func97 rfl (by decide) Tryz.ntmps97 (by simp) Tryz.results97 ?_
  repeat' (first
 |refine AW_loop0 ?_
 |refine AW_seq_k fun K hK=>?_|refine Step.by1 ?_|refine SBlock_exit_ne (by decide) ?_|refine cz rfl ?_|refine Fork.by2 (fun h=>?_) fun h=>?_
 |(refine AW_region_AO ?_;simp [h1, bookB])
 |(refine Split.by2 (fun h=>?_) (fun h=>?_)<;>(simp [h, h1, bookB]))
 |(apply hK;clear hK K)|refine AWh (by assumption) ?_)
  exact retg1 ⟨rfl, rfl⟩ rfl Go.AM.Leaves.refl
end Go.Proofs.YtgmlimipejcpgaaGreatDoor
end

section
set_option linter.unusedVariables false
set_option linter.unusedSimpArgs false
namespace Go.Proofs.YtgmlimipejcpgaaGreatDoor
open Go Go.AM Fx
/-! Is each list of the book alone? -/
set_option maxHeartbeats 8000000 in
theorem g_Alone {h : List B} {bk r g : Nat} {refs : List (Nat × Nat × Nat)} (p : Pre h bk r g refs) (hm : refs.length ≤ 1099511627776) (hlen : ∀ x ∈ refs, x.2.2 ≤ 1099511627776) :
    GCall Tryz.prog GV 32 [.ptr bk 0] h (fun v h' => v = .bool true ∧ HL h' ∧ h.length ≤ h'.length ∧ ∀ b, b < h.length → b ≠ r → b ≠ bk → (∀ x ∈ refs, x.1 ≠ b) → h'[b]? = h[b]?) := by
  have hb := p.bk
  have hbk := (List.getElem?_eq_some_iff.1 hb).1
  refine GCall_body Tryz.func32 rfl (by decide) Tryz.ntmps32 (by simp) Tryz.results32 ?_
  repeat' (first
 |refine AW_seq_k fun K hK=>?_|refine Step.by1 ?_|refine SBlock_exit_ne (by decide) ?_|refine cz rfl ?_|refine Fork.by2 (fun h=>?_) fun h=>?_
 |(refine AW_region_AO ?_;simp [bookB])
 |(refine Split.by2 (fun h=>?_) (fun h=>?_)<;>(simp [h, bookB]))
 |(refine AS_callG (f := 86) rfl rfl (g_aloneInts p hm hlen) rfl (fun v h' hq => ?_); obtain ⟨rfl, k1, k2, k3, k4⟩ := hq; clear hb; simp)
 |(refine AS_callG (f := 84) rfl rfl (g_aloneBytes (r := r) (g := g) (m := refs.length) (by assumption)) rfl (fun v h' hq => ?_); obtain ⟨rfl, rfl⟩ := hq; simp)
 |(refine AS_callG (f := 85) rfl rfl (g_aloneTexts (r := r) (g := g) (m := refs.length) (by assumption)) rfl (fun v h' hq => ?_); obtain ⟨rfl, rfl⟩ := hq; simp)
 |(refine AS_callG (f := 87) rfl rfl (g_aloneInt64s (r := r) (g := g) (m := refs.length) (by assumption)) rfl (fun v h' hq => ?_); obtain ⟨rfl, rfl⟩ := hq; simp)
 |(refine AS_callG (f := 88) rfl rfl (g_aloneBounds (r := r) (g := g) (m := refs.length) (by assumption)) rfl (fun v h' hq => ?_); obtain ⟨rfl, rfl⟩ := hq; simp)
 |(refine AS_callG (f := 89) rfl rfl (g_aloneRats (r := r) (g := g) (m := refs.length) (by assumption)) rfl (fun v h' hq => ?_); obtain ⟨rfl, rfl⟩ := hq; simp)
 |(refine AS_callG (f := 90) rfl rfl (g_aloneLimits (r := r) (g := g) (m := refs.length) (by assumption)) rfl (fun v h' hq => ?_); obtain ⟨rfl, rfl⟩ := hq; simp)
 |(refine AS_callG (f := 91) rfl rfl (g_aloneGuards (r := r) (g := g) (m := refs.length) (by assumption)) rfl (fun v h' hq => ?_); obtain ⟨rfl, rfl⟩ := hq; simp)
 |(refine AS_callG (f := 92) rfl rfl (g_aloneNodes (r := r) (g := g) (m := refs.length) (by assumption)) rfl (fun v h' hq => ?_); obtain ⟨rfl, rfl⟩ := hq; simp)
 |(refine AS_callG (f := 93) rfl rfl (g_aloneMoves (r := r) (g := g) (m := refs.length) (by assumption)) rfl (fun v h' hq => ?_); obtain ⟨rfl, rfl⟩ := hq; simp)
 |(refine AS_callG (f := 94) rfl rfl (g_aloneDiffs (r := r) (g := g) (m := refs.length) (by assumption)) rfl (fun v h' hq => ?_); obtain ⟨rfl, rfl⟩ := hq; simp)
 |(refine AS_callG (f := 95) rfl rfl (g_aloneSteps (r := r) (g := g) (m := refs.length) (by assumption)) rfl (fun v h' hq => ?_); obtain ⟨rfl, rfl⟩ := hq; simp)
 |(refine AS_callG (f := 96) rfl rfl (g_aloneAts (r := r) (g := g) (m := refs.length) (by assumption)) rfl (fun v h' hq => ?_); obtain ⟨rfl, rfl⟩ := hq; simp)
 |(refine AS_callG (f := 97) rfl rfl (g_aloneBools (r := r) (g := g) (m := refs.length) (by assumption)) rfl (fun v h' hq => ?_); obtain ⟨rfl, rfl⟩ := hq; simp)
 |(apply hK;clear hK K)|refine AWh (by assumption) ?_)
  simp only at k3 k4
  simp [k1, bookB]
  repeat' (first
 |refine AW_seq_k fun K hK=>?_|refine Step.by1 ?_|refine SBlock_exit_ne (by decide) ?_|refine cz rfl ?_|refine Fork.by2 (fun h=>?_) fun h=>?_
 |(refine AW_region_AO ?_;simp)
 |(refine Split.by2 (fun h=>?_) (fun h=>?_)<;>(simp [h]))
 |(apply hK;clear hK K)|refine AWh (by assumption) ?_)
  have hl2 : HL (h'.set bk (.var [.nils, .nils, .nils, .nils, .nils, .nils, .nils, .nils, .nils, .nils, .nils, .nils, .nils, .nils])) := k2.set (by simp)
  refine retg1 ⟨rfl, hl2, by rw [List.length_set]; exact k3, fun b hb hb1 hb2 hb3 => ?_⟩ rfl (Go.AM.Leaves.sym (by rw [List.length_set]; exact k3) hl2)
  rw [get_set_ne (fun e => hb2 e.symm)]; exact k4 b hb hb1 hb3
end Go.Proofs.YtgmlimipejcpgaaGreatDoor
end

section
set_option linter.unusedVariables false
set_option linter.unusedSimpArgs false
namespace Go.Proofs.YtgmlimipejcpgaaGreatDoor
open Go Go.AM Fx
/-! Which clocks are active: what is wrong; which clocks guards name. -/
def lookF (n : NetD) : List (List PartD) → Int
  | [] => 0
  | g :: r => if goalE n g ≠ 0 then goalE n g else lookF n r
theorem lookF_nil {n : NetD} : lookF n [] = 0 := rfl
theorem lookF_cons {n : NetD} {g : List PartD} {r : List (List PartD)} : lookF n (g :: r) = if goalE n g ≠ 0 then goalE n g else lookF n r := rfl
def lookE (n : NetD) (gs : List (List PartD)) : Int := if netE n ≠ 0 then netE n else lookF n gs
set_option maxRecDepth 20000 in
set_option maxHeartbeats 8000000 in
theorem c_look (n : NetD) (hn : n.ok) (gs : List (List PartD)) (hgl : gs.length ≤ 1048576) (hgs : ∀ g ∈ gs, okGoal g) : PC 98 [.agg n.cells, gsV gs] (.int .i64 (lookE n gs)) := by
  have hN := c_Net n hn
  obtain ⟨r, hr⟩ : ∃ r, lookE n gs = r := ⟨_, rfl⟩
  rw [hr]
  unfold lookE at hr
  simp only [vl, NetD.cells] at hN
  refine PCall_body Tryz.func98 rfl (by decide) Tryz.ntmps98 (by simp) Tryz.results98 ?_
  by_cases hz : netE n = 0
  · rw [if_neg (by simp [hz])] at hr
    rw [hz] at hN
    repeat' (first
 |refine AW_seq_k fun K hK=>?_|refine Step.by1 ?_|refine SBlock_exit_ne (by decide) ?_|refine cz rfl ?_|refine Fork.by2 (fun h=>?_) fun h=>?_
 |((first|refine AW_region_AO ?_|refine AS_call1 (f:=15) rfl rfl (hN) rfl rfl rfl ?_);simp [gsV, vl, NetD.cells])
 |(refine Split.by2 (fun h=>?_) (fun h=>?_)<;>(simp [h, gsV, vl, NetD.cells]))
 |(apply hK;clear hK K)|refine AWh (by assumption) ?_)
    refine AW_scan (r := r) gs 16 [2, 14, 15] (lookF n) hr (by apply Weak.mk' <;> simp [gsV, vl, NetD.cells]) ?_ ?_
    · intro i g _ hlt hg hF
      rw [lookF_cons] at hF
      have hc := c_Goal n hn g (hgs g (hg ▸ List.getElem_mem hlt))
      have hlt' : (i : Int) < gs.length := by omega
      have w1 : IntKind.i64.wrap ((i : Int) + 1) = i + 1 := wrap_i64 (by omega) (by omega)
      simp only [vl, NetD.cells] at hc
      generalize goalE n g = e at *
      by_cases he : e = 0
      · rw [if_neg (by simp [he])] at hF
        rw [he] at hc
        repeat' (first
 |refine AW_seq_k fun K hK=>?_|refine Step.by1 ?_|refine SBlock_exit_ne (by decide) ?_|refine cz rfl ?_|refine Fork.by2 (fun h=>?_) fun h=>?_
 |((first|refine AW_region_AO ?_|refine AS_call1 (f:=19) rfl rfl (hc) rfl rfl rfl ?_);simp [gsV, vl, NetD.cells, hlt, hlt', hg, w1])
 |(refine Split.by2 (fun h=>?_) (fun h=>?_)<;>(simp [h, gsV, vl, NetD.cells, hlt, hlt', hg, w1]))
 |(apply hK;clear hK K)|refine AWh (by assumption) ?_)
        refine ⟨hF, ?_⟩; apply Weak.mk' <;> simp [gsV, vl, NetD.cells]
      · rw [if_pos he] at hF
        subst hF
        repeat' (first
 |refine AW_seq_k fun K hK=>?_|refine Step.by1 ?_|refine SBlock_exit_ne (by decide) ?_|refine cz rfl ?_|refine Fork.by2 (fun h=>?_) fun h=>?_
 |((first|refine AW_region_AO ?_|refine AS_call1 (f:=19) rfl rfl (hc) rfl rfl rfl ?_);simp [gsV, vl, NetD.cells, hlt, hlt', hg, he])
 |(refine Split.by2 (fun h=>?_) (fun h=>?_)<;>(simp [h, gsV, vl, NetD.cells, hlt, hlt', hg, he]))
 |(apply hK;clear hK K)|refine AWh (by assumption) ?_)
        exact retq1 (conv_eq rfl rfl)
    · intro hF
      rw [lookF_nil] at hF
      repeat' (first
 |refine AW_seq_k fun K hK=>?_|refine Step.by1 ?_|refine SBlock_exit_ne (by decide) ?_|refine cz rfl ?_|refine Fork.by2 (fun h=>?_) fun h=>?_
 |(refine AW_region_AO ?_;simp [gsV, vl, NetD.cells])
 |(refine Split.by2 (fun h=>?_) (fun h=>?_)<;>(simp [h, gsV, vl, NetD.cells]))
 |(apply hK;clear hK K)|refine AWh (by assumption) ?_)
      exact retq1 (conv_eq (by rw [← hF]; rfl) rfl)
  · rw [if_pos hz] at hr
    subst hr
    repeat' (first
 |refine AW_seq_k fun K hK=>?_|refine Step.by1 ?_|refine SBlock_exit_ne (by decide) ?_|refine cz rfl ?_|refine Fork.by2 (fun h=>?_) fun h=>?_
 |((first|refine AW_region_AO ?_|refine AS_call1 (f:=15) rfl rfl (hN) rfl rfl rfl ?_);simp [gsV, vl, NetD.cells, hz])
 |(refine Split.by2 (fun h=>?_) (fun h=>?_)<;>(simp [h, gsV, vl, NetD.cells, hz]))
 |(apply hK;clear hK K)|refine AWh (by assumption) ?_)
    exact retq1 (conv_eq rfl rfl)
def bvs (l : List Bool) : List (List V) := l.map fun b => [V.bool b]
def useL (l : List GuardD) (m : List Bool) : List Bool := l.foldl (fun m g => m.set (g.clock - 1).toNat true) m
theorem useL_nil {m : List Bool} : useL [] m = m := rfl
theorem useL_cons {g : GuardD} {l : List GuardD} {m : List Bool} : useL (g :: l) m = useL l (m.set (g.clock - 1).toNat true) := rfl
theorem useL_len : ∀ {l : List GuardD} {m : List Bool}, (useL l m).length = m.length
  | [], m => rfl
  | g :: l, m => by rw [useL_cons, useL_len]; simp
set_option maxRecDepth 20000 in
set_option maxHeartbeats 8000000 in
theorem c_use {h : List B} {b g : Nat} {m : List Bool} (hl : HL h) (h1 : h[b]? = some (.row 4 g 0 true (bvs m))) (l : List GuardD) (hll : l.length ≤ 1048576) (hm : m.length ≤ 1048576) (hg : ∀ x ∈ l, okG m.length x) :
    GCall Tryz.prog GV 162 [.ref b g 0 m.length, vl GuardD.cells l] h (fun v h' => v = .tup [] ∧ h' = h.set b (.row 4 g 0 true (bvs (useL l m)))) := by
  have hb := (List.getElem?_eq_some_iff.1 h1).1
  have hlx : ∀ c : List Bool, HL (h.set b (.row 4 g 0 true (bvs c))) := fun c => hl.set rowF_lt
  have hbx : ∀ c : List Bool, (h.set b (.row 4 g 0 true (bvs c)))[b]? = some (.row 4 g 0 true (bvs c)) := fun c => get_set_eq h1
  have hnx : ∀ c : List Bool, (h.set b (.row 4 g 0 true (bvs c))).length = h.length := fun c => List.length_set ..
  have hsx : ∀ c d : List Bool, h.set b (.row 4 g 0 true (bvs d)) = (h.set b (.row 4 g 0 true (bvs c))).set b (.row 4 g 0 true (bvs d)) := fun c d => by rw [List.set_set]
  refine GCall_body Tryz.func162 rfl (by decide) Tryz.ntmps162 (by simp) Tryz.results162 ?_
  repeat' (first
 |refine AW_seq_k fun K hK=>?_|refine Step.by1 ?_|refine SBlock_exit_ne (by decide) ?_|refine cz rfl ?_|refine Fork.by2 (fun h=>?_) fun h=>?_
 |(refine AW_region_AO ?_;simp [vl])
 |(refine Split.by2 (fun h=>?_) (fun h=>?_)<;>(simp [h, vl]))
 |(apply hK;clear hK K)|refine AWh (by assumption) ?_)
  refine AW_range (r := useL l m) l 8 [0, 6, 7] (fun _ : List Bool => []) (fun c => h.set b (.row 4 g 0 true (bvs c))) (fun i c => c.length = m.length) useL m
    rfl rfl (Weak.sym (x := []) (by simp [set_same h1]) (hlx m) (by simp [vl, hb])) (fun _ c _ => by rw [hnx]) ?_ ?_
  · intro i c x _ hlt hx hJ hF
    rw [useL_cons] at hF
    obtain ⟨g1, g2⟩ := hg x (hx ▸ List.getElem_mem hlt)
    have hlt' : (i : Int) < l.length := by omega
    have w1 : IntKind.i64.wrap ((i : Int) + 1) = i + 1 := wrap_i64 (by omega) (by omega)
    have w2 : IntKind.i64.wrap (x.clock - 1) = x.clock - 1 := wrap_i64 (by omega) (by omega)
    obtain ⟨p, hp⟩ := Int.eq_ofNat_of_zero_le (show 0 ≤ x.clock - 1 by omega)
    have hpl : p < c.length := by omega
    have hpm : p < m.length := by omega
    have hpm' : (p : Int) < m.length := by omega
    rw [hp] at hF w2
    have hpt : ((p : Int)).toNat = p := by omega
    rw [hpt] at hF
    have f1 := hlx c
    have f2 := hbx c
    have f3 := hnx c
    have f4 := hsx c (c.set p true)
    have f5 := hlx (c.set p true)
    have f6 := hnx (c.set p true)
    have hbc : b < (h.set b (.row 4 g 0 true (bvs c))).length := by rw [f3]; exact hb
    have hcl : (bvs c).length = m.length := by simp [bvs, hJ]
    have hcp : (bvs c)[p]'(by rw [hcl]; exact hpm) = [V.bool c[p]] := by simp [bvs]
    have hbs : (bvs c).set p [V.bool true] = bvs (c.set p true) := by simp [bvs, List.map_set]
    generalize h.set b (.row 4 g 0 true (bvs c)) = hc at *
    repeat' (first
 |refine AW_seq_k fun K hK=>?_|refine Step.by1 ?_|refine SBlock_exit_ne (by decide) ?_|refine cz rfl ?_|refine Fork.by2 (fun h=>?_) fun h=>?_
 |(refine AW_region_AO ?_;simp [vl, GuardD.cells, hlt, hlt', hx, w1, hp, w2, f2, get_app hbc, hpm, hpm', hcl, hcp, hbs])
 |(refine Split.by2 (fun h=>?_) (fun h=>?_)<;>(simp [h, vl, GuardD.cells, hlt, hlt', hx, w1, hp, w2, f2, get_app hbc, hpm, hpm', hcl, hcp, hbs]))
 |(apply hK;clear hK K)|refine AWh (by assumption) ?_)
    refine ⟨c.set p true, hF, by simp [hJ], Weak.sym (x := [.var x.cells]) (by rw [f4]; simp [set_app hbc, GuardD.cells]) f5 (by simp [vl, f6, hb])⟩
  · intro c hJ hF
    rw [useL_nil] at hF
    subst hF
    repeat' (first
 |refine AW_seq_k fun K hK=>?_|refine Step.by1 ?_|refine SBlock_exit_ne (by decide) ?_|refine cz rfl ?_|refine Fork.by2 (fun h=>?_) fun h=>?_
 |(refine AW_region_AO ?_;simp [vl])
 |(refine Split.by2 (fun h=>?_) (fun h=>?_)<;>(simp [h, vl]))
 |(apply hK;clear hK K)|refine AWh (by assumption) ?_)
    exact ⟨.inl rfl, _, _, ⟨[], rfl, trivial⟩, ⟨rfl, rfl⟩, rfl, Go.AM.Leaves.sym (by rw [hnx]; exact Nat.le_refl _) (hlx _)⟩
end Go.Proofs.YtgmlimipejcpgaaGreatDoor
end

section
set_option linter.unusedVariables false
set_option linter.unusedSimpArgs false
namespace Go.Proofs.YtgmlimipejcpgaaGreatDoor
open Go Go.AM Fx
/-! Which clocks are active: the reference's small functions. -/
def namedB (c : Int) (l : List GuardD) : Bool := anyL (fun g => decide (g.clock = c)) l
def setsB (c : Int) (l : List SetD) : Bool := anyL (fun s => decide (s.clock = c)) l
theorem namedB_nil {c : Int} : namedB c [] = false := anyL_nil
theorem namedB_cons {c : Int} {g : GuardD} {l : List GuardD} : namedB c (g :: l) = (decide (g.clock = c) || namedB c l) := anyL_cons
theorem setsB_nil {c : Int} : setsB c [] = false := anyL_nil
theorem setsB_cons {c : Int} {s : SetD} {l : List SetD} : setsB c (s :: l) = (decide (s.clock = c) || setsB c l) := anyL_cons
set_option maxHeartbeats 4000000 in
theorem r_named24 (l : List GuardD) (c : Int) (hl : l.length ≤ 1048576) : PC 206 [vl GuardD.cells l, .int .i64 c] (.bool (namedB c l)) := by
  obtain ⟨r, hr⟩ : ∃ r, namedB c l = r := ⟨_, rfl⟩
  rw [hr]
  refine PCall_body Tryz.func206 rfl (by decide) Tryz.ntmps206 (by simp) Tryz.results206 ?_
  repeat' (first
 |refine AW_seq_k fun K hK=>?_|refine Step.by1 ?_|refine SBlock_exit_ne (by decide) ?_|refine cz rfl ?_|refine Fork.by2 (fun h=>?_) fun h=>?_
 |(refine AW_region_AO ?_;simp [vl])
 |(refine Split.by2 (fun h=>?_) (fun h=>?_)<;>(simp [h, vl]))
 |(apply hK;clear hK K)|refine AWh (by assumption) ?_)
  refine AW_scan (r := r) l 5 [0, 1] (namedB c) hr (by apply Weak.mk' <;> simp [vl]) ?_ ?_
  · intro i g _ hlt hg hF
    rw [namedB_cons] at hF
    have hlt' : (i : Int) < l.length := by omega
    have w1 : IntKind.i64.wrap ((i : Int) + 1) = i + 1 := wrap_i64 (by omega) (by omega)
    by_cases he : g.clock = c
    · rw [decide_eq_true he, Bool.true_or] at hF
      subst hF
      repeat' (first
 |refine AW_seq_k fun K hK=>?_|refine Step.by1 ?_|refine SBlock_exit_ne (by decide) ?_|refine cz rfl ?_|refine Fork.by2 (fun h=>?_) fun h=>?_
 |(refine AW_region_AO ?_;simp [vl, GuardD.cells, hlt, hlt', hg, he, w1])
 |(refine Split.by2 (fun h=>?_) (fun h=>?_)<;>(simp [h, vl, GuardD.cells, hlt, hlt', hg, he, w1]))
 |(apply hK;clear hK K)|refine AWh (by assumption) ?_)
      exact retq1 (conv_eq rfl rfl)
    · rw [decide_eq_false he, Bool.false_or] at hF
      repeat' (first
 |refine AW_seq_k fun K hK=>?_|refine Step.by1 ?_|refine SBlock_exit_ne (by decide) ?_|refine cz rfl ?_|refine Fork.by2 (fun h=>?_) fun h=>?_
 |(refine AW_region_AO ?_;simp [vl, GuardD.cells, hlt, hlt', hg, he, w1])
 |(refine Split.by2 (fun h=>?_) (fun h=>?_)<;>(simp [h, vl, GuardD.cells, hlt, hlt', hg, he, w1]))
 |(apply hK;clear hK K)|refine AWh (by assumption) ?_)
      refine ⟨hF, ?_⟩; apply Weak.mk' <;> simp [vl]
  · intro hF
    rw [namedB_nil] at hF
    subst hF
    repeat' (first
 |refine AW_seq_k fun K hK=>?_|refine Step.by1 ?_|refine SBlock_exit_ne (by decide) ?_|refine cz rfl ?_|refine Fork.by2 (fun h=>?_) fun h=>?_
 |(refine AW_region_AO ?_;simp [vl])
 |(refine Split.by2 (fun h=>?_) (fun h=>?_)<;>(simp [h, vl]))
 |(apply hK;clear hK K)|refine AWh (by assumption) ?_)
    exact retq1 (conv_eq rfl rfl)
set_option maxHeartbeats 4000000 in
theorem r_Sets (e : EdgeD) (c : Int) (hl : e.sets.length ≤ 1048576) : PC 165 [.agg e.cells, .int .i64 c] (.bool (setsB c e.sets)) := by
  obtain ⟨r, hr⟩ : ∃ r, setsB c e.sets = r := ⟨_, rfl⟩
  rw [hr]
  refine PCall_body Tryz.func165 rfl (by decide) Tryz.ntmps165 (by simp) Tryz.results165 ?_
  repeat' (first
 |refine AW_seq_k fun K hK=>?_|refine Step.by1 ?_|refine SBlock_exit_ne (by decide) ?_|refine cz rfl ?_|refine Fork.by2 (fun h=>?_) fun h=>?_
 |(refine AW_region_AO ?_;simp [vl, EdgeD.cells])
 |(refine Split.by2 (fun h=>?_) (fun h=>?_)<;>(simp [h, vl, EdgeD.cells]))
 |(apply hK;clear hK K)|refine AWh (by assumption) ?_)
  refine AW_scan (r := r) e.sets 5 [1, 2] (setsB c) hr (by apply Weak.mk' <;> simp [vl, EdgeD.cells]) ?_ ?_
  · intro i s _ hlt hs hF
    rw [setsB_cons] at hF
    have hlt' : (i : Int) < e.sets.length := by omega
    have w1 : IntKind.i64.wrap ((i : Int) + 1) = i + 1 := wrap_i64 (by omega) (by omega)
    by_cases he : s.clock = c
    · rw [decide_eq_true he, Bool.true_or] at hF
      subst hF
      repeat' (first
 |refine AW_seq_k fun K hK=>?_|refine Step.by1 ?_|refine SBlock_exit_ne (by decide) ?_|refine cz rfl ?_|refine Fork.by2 (fun h=>?_) fun h=>?_
 |(refine AW_region_AO ?_;simp [vl, EdgeD.cells, SetD.cells, hlt, hlt', hs, he, w1])
 |(refine Split.by2 (fun h=>?_) (fun h=>?_)<;>(simp [h, vl, EdgeD.cells, SetD.cells, hlt, hlt', hs, he, w1]))
 |(apply hK;clear hK K)|refine AWh (by assumption) ?_)
      exact retq1 (conv_eq rfl rfl)
    · rw [decide_eq_false he, Bool.false_or] at hF
      repeat' (first
 |refine AW_seq_k fun K hK=>?_|refine Step.by1 ?_|refine SBlock_exit_ne (by decide) ?_|refine cz rfl ?_|refine Fork.by2 (fun h=>?_) fun h=>?_
 |(refine AW_region_AO ?_;simp [vl, EdgeD.cells, SetD.cells, hlt, hlt', hs, he, w1])
 |(refine Split.by2 (fun h=>?_) (fun h=>?_)<;>(simp [h, vl, EdgeD.cells, SetD.cells, hlt, hlt', hs, he, w1]))
 |(apply hK;clear hK K)|refine AWh (by assumption) ?_)
      refine ⟨hF, ?_⟩; apply Weak.mk' <;> simp [vl, EdgeD.cells]
  · intro hF
    rw [setsB_nil] at hF
    subst hF
    repeat' (first
 |refine AW_seq_k fun K hK=>?_|refine Step.by1 ?_|refine SBlock_exit_ne (by decide) ?_|refine cz rfl ?_|refine Fork.by2 (fun h=>?_) fun h=>?_
 |(refine AW_region_AO ?_;simp [vl, EdgeD.cells])
 |(refine Split.by2 (fun h=>?_) (fun h=>?_)<;>(simp [h, vl, EdgeD.cells]))
 |(apply hK;clear hK K)|refine AWh (by assumption) ?_)
    exact retq1 (conv_eq rfl rfl)
/-- A clock that guards name at a location, on an edge from there, or in a goal. -/
def usedPs (c : Int) (X : Bool) : List PartD → Bool
  | [] => X
  | p :: l => namedB c p.guards || usedPs c X l
def usedGs (c : Int) : List (List PartD) → Bool
  | [] => false
  | g :: l => usedPs c (usedGs c l) g
def usedEs (i : Nat) (c : Int) (X : Bool) : List EdgeD → Bool
  | [] => X
  | e :: l => (decide (e.frm = i) && namedB c e.guards) || usedEs i c X l
theorem usedPs_nil {c : Int} {X : Bool} : usedPs c X [] = X := rfl
theorem usedPs_cons {c : Int} {X : Bool} {p : PartD} {l : List PartD} : usedPs c X (p :: l) = (namedB c p.guards || usedPs c X l) := rfl
theorem usedGs_nil {c : Int} : usedGs c [] = false := rfl
theorem usedGs_cons {c : Int} {g : List PartD} {l : List (List PartD)} : usedGs c (g :: l) = usedPs c (usedGs c l) g := rfl
theorem usedEs_nil {i : Nat} {c : Int} {X : Bool} : usedEs i c X [] = X := rfl
theorem usedEs_cons {i : Nat} {c : Int} {X : Bool} {e : EdgeD} {l : List EdgeD} : usedEs i c X (e :: l) = ((decide (e.frm = i) && namedB c e.guards) || usedEs i c X l) := rfl
def usedB (a : AutoD) (gs : List (List PartD)) (i : Nat) (c : Int) : Bool := namedB c (a.locs.getD i default).inv || usedEs i c (usedGs c gs) a.edges
set_option maxRecDepth 20000 in
set_option maxHeartbeats 8000000 in
theorem r_used (a : AutoD) (ha : a.ok) (i : Nat) (hi : i < a.locs.length) (c : Int) (gs : List (List PartD)) (hgl : gs.length ≤ 1048576) (hgs : ∀ g ∈ gs, okGoal g) : PC 164 [.agg a.cells, .int .i64 i, .int .i64 c, gsV gs] (.bool (usedB a gs i c)) := by
  obtain ⟨_, hal, hae⟩ := ha
  obtain ⟨r, hr⟩ : ∃ r, usedB a gs i c = r := ⟨_, rfl⟩
  rw [hr]
  unfold usedB at hr
  obtain ⟨x, hx⟩ : ∃ x, a.locs[i] = x := ⟨_, rfl⟩
  rw [show a.locs.getD i default = x by simp [List.getD, hi, hx]] at hr
  have hc0 := r_named24 x.inv c (hal.2 x (hx ▸ List.getElem_mem hi)).2.2.1
  have hi' : (i : Int) < a.locs.length := by omega
  simp only [vl] at hc0
  refine PCall_body Tryz.func164 rfl (by decide) Tryz.ntmps164 (by simp) Tryz.results164 ?_
  generalize namedB c x.inv = b0 at *
  cases b0
  · rw [Bool.false_or] at hr
    repeat' (first
 |refine AW_seq_k fun K hK=>?_|refine Step.by1 ?_|refine SBlock_exit_ne (by decide) ?_|refine cz rfl ?_|refine Fork.by2 (fun h=>?_) fun h=>?_
 |((first|refine AW_region_AO ?_|refine AS_call1 (f:=206) rfl rfl (hc0) rfl rfl rfl ?_);simp [gsV, vl, AutoD.cells, LocD.cells, hi, hi', hx])
 |(refine Split.by2 (fun h=>?_) (fun h=>?_)<;>(simp [h, gsV, vl, AutoD.cells, LocD.cells, hi, hi', hx]))
 |(apply hK;clear hK K)|refine AWh (by assumption) ?_)
    refine AW_scan (r := r) a.edges 9 [1, 2, 3, 4] (usedEs i c (usedGs c gs)) hr (by apply Weak.mk' <;> simp [gsV, vl, AutoD.cells]) ?_ ?_
    · intro k e _ hlt he hF
      rw [usedEs_cons] at hF
      have hc := r_named24 e.guards c (hae.2 e (he ▸ List.getElem_mem hlt)).2.2.1.1
      have hlt' : (k : Int) < a.edges.length := by omega
      have w1 : IntKind.i64.wrap ((k : Int) + 1) = k + 1 := wrap_i64 (by omega) (by omega)
      simp only [vl] at hc
      generalize namedB c e.guards = b1 at *
      by_cases hf : e.frm = i
      · rw [decide_eq_true hf, Bool.true_and] at hF
        cases b1
        · rw [Bool.false_or] at hF
          repeat' (first
 |refine AW_seq_k fun K hK=>?_|refine Step.by1 ?_|refine SBlock_exit_ne (by decide) ?_|refine cz rfl ?_|refine Fork.by2 (fun h=>?_) fun h=>?_
 |((first|refine AW_region_AO ?_|refine AS_call1 (f:=206) rfl rfl (hc) rfl rfl rfl ?_);simp [gsV, vl, AutoD.cells, EdgeD.cells, hlt, hlt', he, hf, w1])
 |(refine Split.by2 (fun h=>?_) (fun h=>?_)<;>(simp [h, gsV, vl, AutoD.cells, EdgeD.cells, hlt, hlt', he, hf, w1]))
 |(apply hK;clear hK K)|refine AWh (by assumption) ?_)
          refine ⟨hF, ?_⟩; apply Weak.mk' <;> simp [gsV, vl, AutoD.cells]
        · rw [Bool.true_or] at hF
          subst hF
          repeat' (first
 |refine AW_seq_k fun K hK=>?_|refine Step.by1 ?_|refine SBlock_exit_ne (by decide) ?_|refine cz rfl ?_|refine Fork.by2 (fun h=>?_) fun h=>?_
 |((first|refine AW_region_AO ?_|refine AS_call1 (f:=206) rfl rfl (hc) rfl rfl rfl ?_);simp [gsV, vl, AutoD.cells, EdgeD.cells, hlt, hlt', he, hf, w1])
 |(refine Split.by2 (fun h=>?_) (fun h=>?_)<;>(simp [h, gsV, vl, AutoD.cells, EdgeD.cells, hlt, hlt', he, hf, w1]))
 |(apply hK;clear hK K)|refine AWh (by assumption) ?_)
          exact retq1 (conv_eq rfl rfl)
      · rw [decide_eq_false hf, Bool.false_and, Bool.false_or] at hF
        repeat' (first
 |refine AW_seq_k fun K hK=>?_|refine Step.by1 ?_|refine SBlock_exit_ne (by decide) ?_|refine cz rfl ?_|refine Fork.by2 (fun h=>?_) fun h=>?_
 |((first|refine AW_region_AO ?_|refine AS_call1 (f:=206) rfl rfl (hc) rfl rfl rfl ?_);simp [gsV, vl, AutoD.cells, EdgeD.cells, hlt, hlt', he, hf, w1])
 |(refine Split.by2 (fun h=>?_) (fun h=>?_)<;>(simp [h, gsV, vl, AutoD.cells, EdgeD.cells, hlt, hlt', he, hf, w1]))
 |(apply hK;clear hK K)|refine AWh (by assumption) ?_)
        refine ⟨hF, ?_⟩; apply Weak.mk' <;> simp [gsV, vl, AutoD.cells]
    · intro hF
      rw [usedEs_nil] at hF
      repeat' (first
 |refine AW_seq_k fun K hK=>?_|refine Step.by1 ?_|refine SBlock_exit_ne (by decide) ?_|refine cz rfl ?_|refine Fork.by2 (fun h=>?_) fun h=>?_
 |(refine AW_region_AO ?_;simp [gsV, vl, AutoD.cells])
 |(refine Split.by2 (fun h=>?_) (fun h=>?_)<;>(simp [h, gsV, vl, AutoD.cells]))
 |(apply hK;clear hK K)|refine AWh (by assumption) ?_)
      refine AW_scan (r := r) gs 10 [2, 3] (usedGs c) hF (by apply Weak.mk' <;> simp [gsV, vl, AutoD.cells]) ?_ ?_
      · intro k g _ hlt hg hF
        rw [usedGs_cons] at hF
        have hgo := hgs g (hg ▸ List.getElem_mem hlt)
        have hgl2 := hgo.1
        have hlt' : (k : Int) < gs.length := by omega
        have w1 : IntKind.i64.wrap ((k : Int) + 1) = k + 1 := wrap_i64 (by omega) (by omega)
        repeat' (first
 |refine AW_seq_k fun K hK=>?_|refine Step.by1 ?_|refine SBlock_exit_ne (by decide) ?_|refine cz rfl ?_|refine Fork.by2 (fun h=>?_) fun h=>?_
 |(refine AW_region_AO ?_;simp [gsV, vl, hlt, hlt', hg, w1])
 |(refine Split.by2 (fun h=>?_) (fun h=>?_)<;>(simp [h, gsV, vl, hlt, hlt', hg, w1]))
 |(apply hK;clear hK K)|refine AWh (by assumption) ?_)
        refine AW_scan (r := r) g 11 [2, 3, 10] (usedPs c (usedGs c (gs.drop (k + 1)))) hF (by apply Weak.mk' <;> simp [gsV, vl, AutoD.cells]) ?_ ?_
        · intro m p _ hmt hp hG
          rw [usedPs_cons] at hG
          have hc := r_named24 p.guards c (hgo.2 p (hp ▸ List.getElem_mem hmt)).2.1.1
          have hmt' : (m : Int) < g.length := by omega
          have w2 : IntKind.i64.wrap ((m : Int) + 1) = m + 1 := wrap_i64 (by omega) (by omega)
          simp only [vl] at hc
          generalize namedB c p.guards = b1 at *
          cases b1
          · rw [Bool.false_or] at hG
            repeat' (first
 |refine AW_seq_k fun K hK=>?_|refine Step.by1 ?_|refine SBlock_exit_ne (by decide) ?_|refine cz rfl ?_|refine Fork.by2 (fun h=>?_) fun h=>?_
 |((first|refine AW_region_AO ?_|refine AS_call1 (f:=206) rfl rfl (hc) rfl rfl rfl ?_);simp [gsV, vl, PartD.cells, hlt, hlt', hg, hmt, hmt', hp, w2])
 |(refine Split.by2 (fun h=>?_) (fun h=>?_)<;>(simp [h, gsV, vl, PartD.cells, hlt, hlt', hg, hmt, hmt', hp, w2]))
 |(apply hK;clear hK K)|refine AWh (by assumption) ?_)
            refine ⟨hG, ?_⟩; apply Weak.mk' <;> simp [gsV, vl, AutoD.cells]
          · rw [Bool.true_or] at hG
            subst hG
            repeat' (first
 |refine AW_seq_k fun K hK=>?_|refine Step.by1 ?_|refine SBlock_exit_ne (by decide) ?_|refine cz rfl ?_|refine Fork.by2 (fun h=>?_) fun h=>?_
 |((first|refine AW_region_AO ?_|refine AS_call1 (f:=206) rfl rfl (hc) rfl rfl rfl ?_);simp [gsV, vl, PartD.cells, hlt, hlt', hg, hmt, hmt', hp, w2])
 |(refine Split.by2 (fun h=>?_) (fun h=>?_)<;>(simp [h, gsV, vl, PartD.cells, hlt, hlt', hg, hmt, hmt', hp, w2]))
 |(apply hK;clear hK K)|refine AWh (by assumption) ?_)
            exact retq1 (conv_eq rfl rfl)
        · intro hG
          rw [usedPs_nil] at hG
          repeat' (first
 |refine AW_seq_k fun K hK=>?_|refine Step.by1 ?_|refine SBlock_exit_ne (by decide) ?_|refine cz rfl ?_|refine Fork.by2 (fun h=>?_) fun h=>?_
 |(refine AW_region_AO ?_;simp [gsV, vl, hlt, hlt', hg, w1])
 |(refine Split.by2 (fun h=>?_) (fun h=>?_)<;>(simp [h, gsV, vl, hlt, hlt', hg, w1]))
 |(apply hK;clear hK K)|refine AWh (by assumption) ?_)
          refine ⟨hG, ?_⟩; apply Weak.mk' <;> simp [gsV, vl, AutoD.cells]
      · intro hF
        rw [usedGs_nil] at hF
        subst hF
        repeat' (first
 |refine AW_seq_k fun K hK=>?_|refine Step.by1 ?_|refine SBlock_exit_ne (by decide) ?_|refine cz rfl ?_|refine Fork.by2 (fun h=>?_) fun h=>?_
 |(refine AW_region_AO ?_;simp [gsV, vl])
 |(refine Split.by2 (fun h=>?_) (fun h=>?_)<;>(simp [h, gsV, vl]))
 |(apply hK;clear hK K)|refine AWh (by assumption) ?_)
        exact retq1 (conv_eq rfl rfl)
  · rw [Bool.true_or] at hr
    subst hr
    repeat' (first
 |refine AW_seq_k fun K hK=>?_|refine Step.by1 ?_|refine SBlock_exit_ne (by decide) ?_|refine cz rfl ?_|refine Fork.by2 (fun h=>?_) fun h=>?_
 |((first|refine AW_region_AO ?_|refine AS_call1 (f:=206) rfl rfl (hc0) rfl rfl rfl ?_);simp [gsV, vl, AutoD.cells, LocD.cells, hi, hi', hx])
 |(refine Split.by2 (fun h=>?_) (fun h=>?_)<;>(simp [h, gsV, vl, AutoD.cells, LocD.cells, hi, hi', hx]))
 |(apply hK;clear hK K)|refine AWh (by assumption) ?_)
    exact retq1 (conv_eq rfl rfl)
end Go.Proofs.YtgmlimipejcpgaaGreatDoor
end

section
set_option linter.unusedVariables false
set_option linter.unusedSimpArgs false
namespace Go.Proofs.YtgmlimipejcpgaaGreatDoor
open Go Go.AM Fx
/-! Where a clock is active: the least set that holds where it is used and goes back along edges that do not set it. -/
inductive Act (a : AutoD) (gs : List (List PartD)) (c : Int) : Nat → Prop
  | use {i : Nat} (hi : i < a.locs.length) (h : usedB a gs i c = true) : Act a gs c i
  | edge {e : EdgeD} (he : e ∈ a.edges) (hto : Act a gs c e.to.toNat) (hs : setsB c e.sets = false) : Act a gs c e.frm.toNat
open Classical in
noncomputable def actB (a : AutoD) (gs : List (List PartD)) (c : Int) (i : Nat) : Bool := decide (Act a gs c i)
/-- Edges that lead from and to places of the automaton. -/
def okE (a : AutoD) : Prop := ∀ e ∈ a.edges, (0 ≤ e.frm ∧ e.frm < a.locs.length) ∧ (0 ≤ e.to ∧ e.to < a.locs.length)
def falses (l : List Bool) : Nat := (l.filter fun b => !b).length
theorem falses_set : ∀ {l : List Bool} {i : Nat}, l[i]? = some false → falses (l.set i true) + 1 = falses l
  | [], i, h => by simp at h
  | b :: l, 0, h => by simp at h; subst h; simp [falses]
  | b :: l, i + 1, h => by
    have := falses_set (l := l) (i := i) (by simpa using h)
    cases b <;> simp [falses] at this ⊢ <;> omega
/-- What is marked so far is sound. -/
structure Snd (a : AutoD) (gs : List (List PartD)) (c : Int) (on : List Bool) : Prop where
  len : on.length = a.locs.length
  snd : ∀ i, on[i]? = some true → Act a gs c i
  use : ∀ i, i < a.locs.length → usedB a gs i c = true → on[i]? = some true
/-- No edge asks for a mark more. -/
def clos (c : Int) (on : List Bool) (e : EdgeD) : Prop := on[e.to.toNat]? = some true → setsB c e.sets = false → on[e.frm.toNat]? = some true
structure Pass (a : AutoD) (gs : List (List PartD)) (c : Int) (on0 : List Bool) (k : Nat) (moved : Bool) (on : List Bool) : Prop where
  s : Snd a gs c on
  lt : moved = true → falses on < falses on0
  eq : moved = false → on = on0 ∧ ∀ j e, j < k → a.edges[j]? = some e → clos c on e
theorem Pass.init {a : AutoD} {gs : List (List PartD)} {c : Int} {on : List Bool} (h : Snd a gs c on) : Pass a gs c on 0 false on :=
  ⟨h, fun h => (by cases h), fun _ => ⟨rfl, fun j e hj => (by omega)⟩⟩
theorem Pass.keep {a : AutoD} {gs : List (List PartD)} {c : Int} {on0 on : List Bool} {k : Nat} {moved : Bool} (p : Pass a gs c on0 k moved on) {e : EdgeD} (he : a.edges[k]? = some e) (hc : clos c on e) : Pass a gs c on0 (k + 1) moved on :=
  ⟨p.s, p.lt, fun hm => ⟨(p.eq hm).1, fun j x hj hx => by
    by_cases h : j = k
    · subst h; rw [he] at hx; cases hx; exact hc
    · exact (p.eq hm).2 j x (by omega) hx⟩⟩
theorem Snd.step {a : AutoD} {gs : List (List PartD)} {c : Int} {on : List Bool} (s : Snd a gs c on) {e : EdgeD} (he : e ∈ a.edges) (h1 : on[e.to.toNat]? = some true) (h2 : setsB c e.sets = false) : Snd a gs c (on.set e.frm.toNat true) := by
  refine ⟨by rw [List.length_set]; exact s.len, fun i hi => ?_, fun i hi hu => ?_⟩
  · rw [List.getElem?_set] at hi
    by_cases h : e.frm.toNat = i
    · subst h; exact .edge he (s.snd _ h1) h2
    · rw [if_neg h] at hi; exact s.snd i hi
  · rw [List.getElem?_set]
    by_cases h : e.frm.toNat = i
    · subst h; simp [s.len, hi]
    · rw [if_neg h]; exact s.use i hi hu
theorem Pass.step {a : AutoD} {gs : List (List PartD)} {c : Int} {on0 on : List Bool} {k : Nat} {moved : Bool} (p : Pass a gs c on0 k moved on) {e : EdgeD} (he : a.edges[k]? = some e)
    (h1 : on[e.to.toNat]? = some true) (h2 : setsB c e.sets = false) (h3 : on[e.frm.toNat]? = some false) : Pass a gs c on0 (k + 1) true (on.set e.frm.toNat true) := by
  have h4 := falses_set h3
  refine ⟨p.s.step (List.mem_of_getElem? he) h1 h2, fun _ => ?_, fun h => by cases h⟩
  cases hm : moved
  · rw [← (p.eq hm).1]; omega
  · have := p.lt hm; omega
/-- Where no edge asks for more, what is marked is just what is active. -/
theorem act_of_closed {a : AutoD} {gs : List (List PartD)} {c : Int} {on : List Bool} (s : Snd a gs c on) (hc : ∀ e ∈ a.edges, clos c on e) : ∀ i, Act a gs c i → on[i]? = some true := by
  intro i h
  induction h with
  | use hi h => exact s.use _ hi h
  | edge he _ hs ih => exact hc _ he ih hs
theorem closed_eq {a : AutoD} {gs : List (List PartD)} {c : Int} {on : List Bool} (s : Snd a gs c on) (hc : ∀ e ∈ a.edges, clos c on e) : on = (List.range a.locs.length).map (actB a gs c) := by
  apply List.ext_getElem?
  intro i
  by_cases hi : i < a.locs.length
  · have hi2 : i < on.length := by rw [s.len]; exact hi
    rw [List.getElem?_map, List.getElem?_range hi, List.getElem?_eq_getElem hi2]
    simp only [Option.map_some, Option.some.injEq]
    cases h : on[i]
    · have : ¬ Act a gs c i := fun h' => by
        have := act_of_closed s hc i h'
        rw [List.getElem?_eq_getElem hi2, h] at this; cases this
      simp [actB, this]
    · simp [actB, s.snd i (by rw [List.getElem?_eq_getElem hi2, h])]
  · rw [List.getElem?_eq_none (by rw [s.len]; omega), List.getElem?_eq_none (by simp; omega)]
theorem Pass.done {a : AutoD} {gs : List (List PartD)} {c : Int} {on0 on : List Bool} (p : Pass a gs c on0 a.edges.length false on) : ∀ e ∈ a.edges, clos c on e := fun e he => by
  obtain ⟨j, hj⟩ := List.getElem?_of_mem he
  exact (p.eq rfl).2 j e (List.getElem?_eq_some_iff.1 hj).1 hj
def usedL (a : AutoD) (gs : List (List PartD)) (c : Int) (k : Nat) : List Bool := (List.range k).map fun i => usedB a gs i c
theorem usedL_succ {a : AutoD} {gs : List (List PartD)} {c : Int} {k : Nat} : usedL a gs c (k + 1) = usedL a gs c k ++ [usedB a gs k c] := by simp [usedL, List.range_succ]
theorem usedL_len {a : AutoD} {gs : List (List PartD)} {c : Int} {k : Nat} : (usedL a gs c k).length = k := by simp [usedL]
theorem snd_used (a : AutoD) (gs : List (List PartD)) (c : Int) : Snd a gs c (usedL a gs c a.locs.length) := by
  refine ⟨usedL_len, fun i hi => ?_, fun i hi hu => ?_⟩
  · have hl : i < a.locs.length := by have := (List.getElem?_eq_some_iff.1 hi).1; rwa [usedL_len] at this
    rw [usedL, List.getElem?_map, List.getElem?_range hl] at hi
    exact .use hl (by simpa using hi)
  · rw [usedL, List.getElem?_map, List.getElem?_range hi]; simp [hu]
end Go.Proofs.YtgmlimipejcpgaaGreatDoor
end

section
set_option linter.unusedVariables false
set_option linter.unusedSimpArgs false
namespace Go.Proofs.YtgmlimipejcpgaaGreatDoor
open Go Go.AM Fx
/-! The reference: where a clock is active. -/
structure PS where
  k : Nat
  mv : Bool
  on : List Bool
set_option maxRecDepth 20000 in
set_option maxHeartbeats 16000000 in
theorem r_active (a : AutoD) (ha : a.ok) (hE : okE a) (c : Int) (gs : List (List PartD)) (hgl : gs.length ≤ 1048576) (hgs : ∀ g ∈ gs, okGoal g) :
    PC 101 [.agg a.cells, .int .i64 c, gsV gs] (.own 4 (bvs ((List.range a.locs.length).map (actB a gs c)))) := by
  have hal := ha.2.1
  have hae := ha.2.2
  refine PCall_body Tryz.func101 rfl (by decide) Tryz.ntmps101 (by simp) Tryz.results101 ?_
  repeat' (first
 |refine AW_seq_k fun K hK=>?_|refine Step.by1 ?_|refine SBlock_exit_ne (by decide) ?_|refine cz rfl ?_|refine Fork.by2 (fun h=>?_) fun h=>?_
 |(refine AW_region_AO ?_;simp [gsV, vl, AutoD.cells])
 |(refine Split.by2 (fun h=>?_) (fun h=>?_)<;>(simp [h, gsV, vl, AutoD.cells]))
 |(apply hK;clear hK K)|refine AWh (by assumption) ?_)
  refine AW_nilrow 7 4 rfl (by simp) ?_
  refine AW_loopL [1, 2, 3] (fun i : Nat => [(8, .int .i64 i), (7, .ref 1 i 0 i)]) (fun i => [.var a.cells, .row 4 i 0 true (bvs (usedL a gs c i))]) (fun i => i ≤ a.locs.length) (fun i => a.locs.length - i) 0 (Nat.zero_le _) (by apply Weak.mk' <;> simp [gsV, vl, AutoD.cells, usedL, bvs]) (fun _ _ => rfl) ?_
  intro i hi
  by_cases hlt : i < a.locs.length
  · have hc := r_used a ha i hlt c gs hgl hgs
    have hlt' : (i : Int) < a.locs.length := by omega
    have w1 : IntKind.i64.wrap ((i : Int) + 1) = i + 1 := wrap_i64 (by omega) (by omega)
    have hby : i + 1 ≤ 140737488355328 := by omega
    have hul : (bvs (usedL a gs c i)).length = i := by simp [bvs, usedL_len]
    simp only [gsV, vl, AutoD.cells] at hc
    repeat' (first
 |refine AW_seq_k fun K hK=>?_|refine Step.by1 ?_|refine SBlock_exit_ne (by decide) ?_|refine cz rfl ?_|refine Fork.by2 (fun h=>?_) fun h=>?_
 |((first|refine AW_region_AO ?_|refine AS_call1 (f:=164) rfl rfl (hc) rfl rfl rfl ?_);simp [gsV, vl, AutoD.cells, hlt, hlt', w1, hby, hul])
 |(refine Split.by2 (fun h=>?_) (fun h=>?_)<;>(simp [h, gsV, vl, AutoD.cells, hlt, hlt', w1, hby, hul]))
 |(apply hK;clear hK K)|refine AWh (by assumption) ?_)
    refine ⟨i + 1, by omega, by omega, ?_⟩
    apply Weak.mk' <;> simp [gsV, vl, AutoD.cells, usedL_succ, bvs]
  · obtain rfl : i = a.locs.length := by omega
    repeat' (first
 |refine AW_seq_k fun K hK=>?_|refine Step.by1 ?_|refine SBlock_exit_ne (by decide) ?_|refine cz rfl ?_|refine Fork.by2 (fun h=>?_) fun h=>?_
 |(refine AW_region_AO ?_;simp [gsV, vl, AutoD.cells])
 |(refine Split.by2 (fun h=>?_) (fun h=>?_)<;>(simp [h, gsV, vl, AutoD.cells]))
 |(apply hK;clear hK K)|refine AWh (by assumption) ?_)
    refine AW_loopL [1, 3, 7] (fun s : PS => [(9, .bool s.mv)]) (fun s => [.var a.cells, .row 4 a.locs.length 0 true (bvs s.on)]) (fun s => Snd a gs c s.on ∧ (s.mv = false → ∀ e ∈ a.edges, clos c s.on e)) (fun s => 2 * falses s.on + s.mv.toNat) ⟨0, true, usedL a gs c a.locs.length⟩ ⟨snd_used a gs c, fun h => (by cases h)⟩ (by apply Weak.mk' <;> simp [gsV, vl, AutoD.cells]) (fun _ _ => rfl) ?_
    rintro ⟨_, mv, on⟩ ⟨hs, hcl⟩
    simp only at hs hcl
    cases mv
    · have hon := closed_eq hs (hcl rfl)
      have hol : (bvs on).length = a.locs.length := by simp [bvs, hs.len]
      clear hcl
      subst hon
      repeat' (first
 |refine AW_seq_k fun K hK=>?_|refine Step.by1 ?_|refine SBlock_exit_ne (by decide) ?_|refine cz rfl ?_|refine Fork.by2 (fun h=>?_) fun h=>?_
 |(refine AW_region_AO ?_;simp [gsV, vl, AutoD.cells])
 |(refine Split.by2 (fun h=>?_) (fun h=>?_)<;>(simp [h, gsV, vl, AutoD.cells]))
 |(apply hK;clear hK K)|refine AWh (by assumption) ?_)
      exact retq1 (.inr (.inl (conv1_own rfl (by simp [hol]))))
    · repeat' (first
 |refine AW_seq_k fun K hK=>?_|refine Step.by1 ?_|refine SBlock_exit_ne (by decide) ?_|refine cz rfl ?_|refine Fork.by2 (fun h=>?_) fun h=>?_
 |(refine AW_region_AO ?_;simp [gsV, vl, AutoD.cells])
 |(refine Split.by2 (fun h=>?_) (fun h=>?_)<;>(simp [h, gsV, vl, AutoD.cells]))
 |(apply hK;clear hK K)|refine AWh (by assumption) ?_)
      refine AW_loopL [1, 3, 7] (fun s : PS => [(9, .bool s.mv), (10, .int .i64 s.k)]) (fun s => [.var a.cells, .row 4 a.locs.length 0 true (bvs s.on)]) (fun s => s.k ≤ a.edges.length ∧ Pass a gs c on s.k s.mv s.on) (fun s => a.edges.length - s.k) ⟨0, false, on⟩ ⟨Nat.zero_le _, .init hs⟩ (by apply Weak.mk' <;> simp [gsV, vl, AutoD.cells]) (fun _ _ => rfl) ?_
      rintro ⟨k, mv, on2⟩ ⟨hk, hp⟩
      simp only at hk hp
      by_cases hkt : k < a.edges.length
      · obtain ⟨e, he⟩ : ∃ e, a.edges[k] = e := ⟨_, rfl⟩
        have he' : a.edges[k]? = some e := by rw [List.getElem?_eq_getElem hkt, he]
        have hem := List.mem_of_getElem? he'
        obtain ⟨⟨f1, f2⟩, t1, t2⟩ := hE e hem
        obtain ⟨p, hpp⟩ := Int.eq_ofNat_of_zero_le f1
        obtain ⟨q, hqq⟩ := Int.eq_ofNat_of_zero_le t1
        have hcs := r_Sets e c (hae.2 e hem).2.2.2.2.2.2.1
        have hkt' : (k : Int) < a.edges.length := by omega
        have w1 : IntKind.i64.wrap ((k : Int) + 1) = k + 1 := wrap_i64 (by omega) (by omega)
        have hol : on2.length = a.locs.length := hp.s.len
        have hpl : p < on2.length := by omega
        have hql : q < on2.length := by omega
        have hpl' : p < a.locs.length := by omega
        have hql' : q < a.locs.length := by omega
        have hpt : e.frm.toNat = p := by omega
        have hqt : e.to.toNat = q := by omega
        obtain ⟨bf, hbf⟩ : ∃ bf, on2[p] = bf := ⟨_, rfl⟩
        obtain ⟨bt, hbt⟩ : ∃ bt, on2[q] = bt := ⟨_, rfl⟩
        have hbf' : on2[e.frm.toNat]? = some bf := by rw [hpt, List.getElem?_eq_getElem hpl, hbf]
        have hbt' : on2[e.to.toNat]? = some bt := by rw [hqt, List.getElem?_eq_getElem hql, hbt]
        simp only [EdgeD.cells, vl, hpp, hqq] at hcs
        have hcl : (bvs on2).length = a.locs.length := by simp [bvs, hol]
        have hcf : (bvs on2)[p]'(by omega) = [V.bool bf] := by simp [bvs, hbf]
        have hct : (bvs on2)[q]'(by omega) = [V.bool bt] := by simp [bvs, hbt]
        have hbs : (bvs on2).set p [V.bool true] = bvs (on2.set p true) := by simp [bvs, List.map_set]
        have hk1 := hp.keep he'
        have hk2 := hp.step he'
        have hcf2 : ∀ (e1 : on2[e.to.toNat]? = some true → setsB c e.sets = false → on2[e.frm.toNat]? = some true), clos c on2 e := fun h => h
        rw [hpt] at hk2
        generalize hsb : setsB c e.sets = sb at *
        by_cases hall : bt = true ∧ bf = false ∧ sb = false
        · obtain ⟨rfl, rfl, rfl⟩ := hall
          repeat' (first
 |refine AW_seq_k fun K hK=>?_|refine Step.by1 ?_|refine SBlock_exit_ne (by decide) ?_|refine cz rfl ?_|refine Fork.by2 (fun h=>?_) fun h=>?_
 |((first|refine AW_region_AO ?_|refine AS_call1 (f:=165) rfl rfl (hcs) rfl rfl rfl ?_);simp [gsV, vl, AutoD.cells, EdgeD.cells, hkt, hkt', he, hpp, hqq, hpl', hql', hcl, hcf, hct, hbs, w1])
 |(refine Split.by2 (fun h=>?_) (fun h=>?_)<;>(simp [h, gsV, vl, AutoD.cells, EdgeD.cells, hkt, hkt', he, hpp, hqq, hpl', hql', hcl, hcf, hct, hbs, w1]))
 |(apply hK;clear hK K)|refine AWh (by assumption) ?_)
          refine ⟨⟨k + 1, true, on2.set p true⟩, ⟨by show k + 1 ≤ _; omega, hk2 hbt' rfl (by rw [← hpt]; exact hbf')⟩, by show _ - (k + 1) < _ - k; omega, ?_⟩
          apply Weak.mk' <;> simp [gsV, vl, AutoD.cells]
        · have hcc : clos c on2 e := hcf2 (fun h1 h2 => by
            rw [hbt'] at h1; rw [hbf']
            cases bf
            · exact absurd ⟨by cases h1; rfl, rfl, h2⟩ hall
            · rfl)
          have hkk := hk1 hcc
          cases bt <;> cases bf <;> cases sb <;> simp only [not_true_eq_false, and_self, and_false, false_and, and_true, true_and, Bool.false_eq_true, reduceCtorEq] at hall
          all_goals
            repeat' (first
 |refine AW_seq_k fun K hK=>?_|refine Step.by1 ?_|refine SBlock_exit_ne (by decide) ?_|refine cz rfl ?_|refine Fork.by2 (fun h=>?_) fun h=>?_
 |((first|refine AW_region_AO ?_|refine AS_call1 (f:=165) rfl rfl (hcs) rfl rfl rfl ?_);simp [gsV, vl, AutoD.cells, EdgeD.cells, hkt, hkt', he, hpp, hqq, hpl', hql', hcl, hcf, hct, w1])
 |(refine Split.by2 (fun h=>?_) (fun h=>?_)<;>(simp [h, gsV, vl, AutoD.cells, EdgeD.cells, hkt, hkt', he, hpp, hqq, hpl', hql', hcl, hcf, hct, w1]))
 |(apply hK;clear hK K)|refine AWh (by assumption) ?_)
            refine ⟨⟨k + 1, mv, on2⟩, ⟨by show k + 1 ≤ _; omega, hkk⟩, by show _ - (k + 1) < _ - k; omega, ?_⟩
            apply Weak.mk' <;> simp [gsV, vl, AutoD.cells]
      · obtain rfl : k = a.edges.length := by omega
        repeat' (first
 |refine AW_seq_k fun K hK=>?_|refine Step.by1 ?_|refine SBlock_exit_ne (by decide) ?_|refine cz rfl ?_|refine Fork.by2 (fun h=>?_) fun h=>?_
 |(refine AW_region_AO ?_;simp [gsV, vl, AutoD.cells])
 |(refine Split.by2 (fun h=>?_) (fun h=>?_)<;>(simp [h, gsV, vl, AutoD.cells]))
 |(apply hK;clear hK K)|refine AWh (by assumption) ?_)
        refine ⟨⟨0, mv, on2⟩, ⟨hp.s, fun h => ?_⟩, ?_, ?_⟩
        · simp only at h; subst h; exact hp.done
        · cases mv
          · have := (hp.eq rfl).1; subst this; simp
          · have := hp.lt rfl; simp; omega
        · apply Weak.mk' <;> simp [gsV, vl, AutoD.cells]
end Go.Proofs.YtgmlimipejcpgaaGreatDoor
end

section
set_option linter.unusedVariables false
set_option linter.unusedSimpArgs false
namespace Go.Proofs.YtgmlimipejcpgaaGreatDoor
open Go Go.AM Fx
/-! The reference: what is wrong; the clocks that are active at a place. -/
def badF (n : NetD) : List (List PartD) → Int → Int
  | [], e => e
  | g :: r, e => if e = 0 then badF n r (goalE n g) else e
theorem badF_nil {n : NetD} {e : Int} : badF n [] e = e := rfl
theorem badF_cons {n : NetD} {g : List PartD} {r : List (List PartD)} {e : Int} : badF n (g :: r) e = if e = 0 then badF n r (goalE n g) else e := rfl
theorem badF_not {n : NetD} {e : Int} (h : e ≠ 0) : ∀ {l : List (List PartD)}, badF n l e = e
  | [] => rfl
  | g :: r => by rw [badF_cons, if_neg h]
theorem badF_look {n : NetD} : ∀ {l : List (List PartD)}, badF n l 0 = lookF n l
  | [] => rfl
  | g :: r => by
    rw [badF_cons, if_pos rfl, lookF_cons]
    by_cases h : goalE n g = 0
    · rw [if_neg (by simp [h]), h, badF_look]
    · rw [if_pos h, badF_not h]
theorem badF_eq {n : NetD} {gs : List (List PartD)} : badF n gs (netE n) = lookE n gs := by
  unfold lookE
  by_cases h : netE n = 0
  · rw [if_neg (by simp [h]), h, badF_look]
  · rw [if_pos h, badF_not h]
set_option maxRecDepth 20000 in
set_option maxHeartbeats 8000000 in
theorem r_Bad (n : NetD) (hn : n.ok) (gs : List (List PartD)) (hgl : gs.length ≤ 1048576) (hgs : ∀ g ∈ gs, okGoal g) : PC 100 [.agg n.cells, gsV gs] (.int .i64 (lookE n gs)) := by
  have hN := r_Net n hn
  obtain ⟨r, hr⟩ : ∃ r, lookE n gs = r := ⟨_, rfl⟩
  rw [hr]
  rw [← badF_eq] at hr
  generalize netE n = e0 at *
  simp only [vl, NetD.cells] at hN
  refine PCall_body Tryz.func100 rfl (by decide) Tryz.ntmps100 (by simp) Tryz.results100 ?_
  repeat' (first
 |refine AW_seq_k fun K hK=>?_|refine Step.by1 ?_|refine SBlock_exit_ne (by decide) ?_|refine cz rfl ?_|refine Fork.by2 (fun h=>?_) fun h=>?_
 |((first|refine AW_region_AO ?_|refine AS_call1 (f:=16) rfl rfl (hN) rfl rfl rfl ?_);simp [gsV, vl, NetD.cells])
 |(refine Split.by2 (fun h=>?_) (fun h=>?_)<;>(simp [h, gsV, vl, NetD.cells]))
 |(apply hK;clear hK K)|refine AWh (by assumption) ?_)
  refine AW_range (r := r) gs 6 [1, 2] (fun e : Int => [(5, .int .i64 e)]) (fun _ => [.var n.cells]) (fun _ _ => True) (badF n) e0 hr trivial (by apply Weak.mk' <;> simp [gsV, vl, NetD.cells]) (fun _ _ _ => rfl) ?_ ?_
  · intro i e g _ hlt hg _ hF
    rw [badF_cons] at hF
    have hc := r_Goal n hn g (hgs g (hg ▸ List.getElem_mem hlt))
    have hlt' : (i : Int) < gs.length := by omega
    have w1 : IntKind.i64.wrap ((i : Int) + 1) = i + 1 := wrap_i64 (by omega) (by omega)
    simp only [vl, NetD.cells] at hc
    generalize goalE n g = e1 at *
    by_cases he : e = 0
    · rw [if_pos he] at hF
      repeat' (first
 |refine AW_seq_k fun K hK=>?_|refine Step.by1 ?_|refine SBlock_exit_ne (by decide) ?_|refine cz rfl ?_|refine Fork.by2 (fun h=>?_) fun h=>?_
 |((first|refine AW_region_AO ?_|refine AW_region_APx (id:=5) 7 mixed (by decide) ?_|refine AP_call1 (f:=20) rfl rfl (hc) rfl rfl rfl ?_);simp [gsV, vl, NetD.cells, hlt, hlt', hg, w1, he])
 |(refine Split.by2 (fun h=>?_) (fun h=>?_)<;>(simp [h, gsV, vl, NetD.cells, hlt, hlt', hg, w1, he]))
 |(apply hK;clear hK K)|refine AWh (by assumption) ?_)
      refine ⟨e1, hF, ?_⟩; apply Weak.mk' <;> simp [gsV, vl, NetD.cells]
    · rw [if_neg he] at hF
      subst hF
      repeat' (first
 |refine AW_seq_k fun K hK=>?_|refine Step.by1 ?_|refine SBlock_exit_ne (by decide) ?_|refine cz rfl ?_|refine Fork.by2 (fun h=>?_) fun h=>?_
 |(refine AW_region_AO ?_;simp [gsV, vl, NetD.cells, hlt, hlt', hg, w1, he])
 |(refine Split.by2 (fun h=>?_) (fun h=>?_)<;>(simp [h, gsV, vl, NetD.cells, hlt, hlt', hg, w1, he]))
 |(apply hK;clear hK K)|refine AWh (by assumption) ?_)
      exact retq1 (conv_eq rfl rfl)
  · intro e _ hF
    rw [badF_nil] at hF
    subst hF
    repeat' (first
 |refine AW_seq_k fun K hK=>?_|refine Step.by1 ?_|refine SBlock_exit_ne (by decide) ?_|refine cz rfl ?_|refine Fork.by2 (fun h=>?_) fun h=>?_
 |(refine AW_region_AO ?_;simp [gsV, vl, NetD.cells])
 |(refine Split.by2 (fun h=>?_) (fun h=>?_)<;>(simp [h, gsV, vl, NetD.cells]))
 |(apply hK;clear hK K)|refine AWh (by assumption) ?_)
    all_goals exact retq1 (conv_eq rfl rfl)
theorem edges_ok {n : NetD} (h : wholeE n = 0) : ∀ a ∈ n.autos, okE a := by
  unfold wholeE at h
  have h1 := (firstE_zero (firstE_zero (firstE_zero (firstE_zero (firstE_zero (firstE_zero h).2).2).2).2).2).1
  intro a ha e he
  unfold edgesE at h1
  by_cases hb : anyL (fun a => anyL (edgeB n a) a.edges) n.autos = true
  · rw [if_pos hb] at h1; cases h1
  · have h2 : edgeB n a e = false := by
      cases hc : edgeB n a e
      · rfl
      · exact absurd (List.any_eq_true.2 ⟨a, ha, List.any_eq_true.2 ⟨e, he, hc⟩⟩) hb
    simp only [edgeB, isLoc, Bool.or_eq_false_iff, Bool.not_eq_false', decide_eq_true_eq] at h2
    exact ⟨by omega, by omega⟩
/-- The clocks, counted from 1, that are active. -/
noncomputable def actL (a : AutoD) (gs : List (List PartD)) (loc k : Nat) : List Int := ((List.range k).filter fun c : Nat => actB a gs ((c : Int) + 1) loc).map fun c : Nat => (c : Int) + 1
theorem actL_succ {a : AutoD} {gs : List (List PartD)} {loc k : Nat} : actL a gs loc (k + 1) = if actB a gs ((k : Int) + 1) loc = true then actL a gs loc k ++ [(k : Int) + 1] else actL a gs loc k := by
  unfold actL
  rw [List.range_succ, List.filter_append, List.map_append]
  by_cases h : actB a gs ((k : Int) + 1) loc = true <;> simp [h]
theorem actL_len {a : AutoD} {gs : List (List PartD)} {loc k : Nat} : (actL a gs loc k).length ≤ k := by
  unfold actL
  rw [List.length_map]
  exact Nat.le_trans (List.length_filter_le _ _) (by simp)
def badLoc (n : NetD) (au lo : Int) : Prop := au < 0 ∨ (n.autos.length : Int) ≤ au ∨ lo < 0 ∨ ((n.autos.getD au.toNat default).locs.length : Int) ≤ lo
instance {n : NetD} {au lo : Int} : Decidable (badLoc n au lo) := by unfold badLoc; infer_instance
/-- The clocks and the error: what both tell. -/
noncomputable def clksL (n : NetD) (au lo : Int) (gs : List (List PartD)) : List Int :=
  if lookE n gs ≠ 0 then [] else if badLoc n au lo then [] else actL (n.autos.getD au.toNat default) gs lo.toNat n.clocks.length
def clksE (n : NetD) (au lo : Int) (gs : List (List PartD)) : Int :=
  if lookE n gs ≠ 0 then lookE n gs else if badLoc n au lo then 122 else 0
end Go.Proofs.YtgmlimipejcpgaaGreatDoor
end
