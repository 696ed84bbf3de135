/-
  YtgmlimipejcpgaaDoorCd16: steps of the proof of a law of the program: what these texts prove holds under the hypotheses that their theorems name, and no others.
-/
import Derived.Test.YtgmlimipejcpgaaDoorCd15
import Derived.Lib.AppendZeros
section
set_option linter.unusedSimpArgs false
set_option linter.unusedVariables false
namespace Go.Proofs.YtgmlimipejcpgaaDoor
open Go Go.AM Fx
def goodAt (l : List ByteArray) (i : Nat) : Bool := isNameB (l.getD i ⟨#[]⟩) && !memS (l.getD i ⟨#[]⟩) (l.take i)
def givenB (l : List ByteArray) : Bool := (List.range l.length).all (goodAt l)
theorem givenB_bad {l : List ByteArray} {i : Nat} (hi : i < l.length) (h : goodAt l i = false) : givenB l = false := by
  unfold givenB
  rw [Bool.eq_false_iff]
  intro ha
  rw [List.all_eq_true.1 ha i (List.mem_range.2 hi)] at h; cases h
theorem givenB_good {l : List ByteArray} (h : ∀ i, i < l.length → goodAt l i = true) : givenB l = true := List.all_eq_true.2 fun i hi => h i (List.mem_range.1 hi)
theorem isNameB_size {s : ByteArray} (h : isNameB s = true) : s.size ≤ 16 := by
  unfold isNameB at h
  simp only [Bool.and_eq_true, decide_eq_true_eq] at h
  exact h.2.1
/-- What has been seen. -/
def seenL (l : List ByteArray) (i : Nat) : List (ByteArray × V) := (l.take i).map fun s => (s, V.bool true)
theorem seen_keys (l : List ByteArray) (i : Nat) : (seenL l i).map (·.1) = l.take i := by simp [seenL, Function.comp_def]
theorem seen_get (l : List ByteArray) (i : Nat) (x : ByteArray) : (sget (seenL l i) x).getD (.bool false) = .bool (memS x (l.take i)) := by
  unfold seenL
  generalize l.take i = r
  induction r with
  | nil => rfl
  | cons y r ih =>
    unfold sget memS at *
    rw [List.map_cons, List.find?_cons, List.any_cons]
    by_cases h : y = x
    · simp [h]
    · simp only [h, decide_false, Bool.false_or]; exact ih
theorem seen_put {l : List ByteArray} {i : Nat} (hi : i < l.length) (h : memS l[i] (l.take i) = false) : sput (seenL l i) l[i] (.bool true) = seenL l (i + 1) := by
  have hn : (seenL l i).findIdx? (fun p => p.1 = l[i]) = none := (find_none fun q hq e => by
    obtain ⟨s, hs, rfl⟩ := List.mem_map.1 hq
    have : memS l[i] (l.take i) = true := memS_iff.2 (by rw [← e]; exact hs)
    rw [h] at this; cases this).2
  unfold sput
  rw [hn]
  unfold seenL
  rw [List.take_add_one, List.getElem?_eq_getElem hi, List.map_append]; rfl
theorem zb4 : (Tryd.prog.info? 4).bind (·.zero) = some (.bool false) := by kernel_rfl
set_option maxRecDepth 8000 in
set_option maxHeartbeats 4000000 in
theorem c_given (l : List ByteArray) (hl : l.length ≤ 1099511627776) (hs : ∀ s ∈ l, s.size ≤ 1048576) : PC 77 [vl strV l] (.bool (givenB l)) := by
  obtain ⟨r, hr⟩ : ∃ r, givenB l = r := ⟨_, rfl⟩
  have hbad := fun i hi h => givenB_bad (l := l) (i := i) hi h
  have hgood := givenB_good (l := l)
  rw [hr] at hbad hgood ⊢
  refine pB Tryd.func77 rfl (by decide) Tryd.ntmps77 (by simp) Tryd.results77 ?_
  repeat' (first
 |refine aK fun K hK=>?_|refine Step.by1 ?_|refine sE (by decide) ?_|refine cz rfl ?_|refine Fork.by2 (fun h=>?_) fun h=>?_
 |(refine aR ?_;simp [vl, strV])
 |(refine Split.by2 (fun h=>?_) (fun h=>?_)<;>(simp [h, vl, strV]))
 |(refine AS_op1 rfl S_makeMap ?_; simp)
 |(apply hK;clear hK K)|refine AWh ‹_› ?_)
  refine aL [3, 7, 8] (fun i : Nat => [(9, .int .i64 i)]) (fun i => [.map (smap (seenL l i))]) (fun i => i ≤ l.length ∧ (l.take i).Nodup ∧ ∀ j, j < i → goodAt l j = true) (fun i => l.length - i) 0 ⟨Nat.zero_le _, by simp, fun j hj => by omega⟩ (by apply Weak.mk' <;> simp [vl, strV, seenL, smap]) (fun _ _ => rfl) ?_
  rintro i ⟨hi, hnd, hpre⟩
  by_cases hlt : i < l.length
  · have hb := hbad i hlt
    have hx16 := isNameB_size (s := l[i])
    have hnk : ((seenL l i).map (·.1)).Nodup := by rw [seen_keys]; exact hnd
    have hget := seen_get l i l[i]
    have hput := seen_put hlt
    have hga : goodAt l i = (isNameB l[i] && !memS l[i] (l.take i)) := by simp [goodAt, List.getD, hlt]
    have hnd' : memS l[i] (l.take i) = false → (l.take (i + 1)).Nodup := fun h => by
      rw [List.take_add_one, List.getElem?_eq_getElem hlt]
      refine List.nodup_append.2 ⟨hnd, by simp, fun a ha b hb' => ?_⟩
      simp at hb'; subst hb'
      intro e; subst e
      rw [memS_iff.2 ha] at h; cases h
    have hsx := hs l[i] (List.getElem_mem hlt)
    obtain ⟨x, hx⟩ : ∃ x, l[i] = x := ⟨_, rfl⟩
    rw [hx] at hx16 hget hput hga hnd' hsx
    have hname := c_IsName x (by omega)
    generalize isNameB x = nb at *
    generalize memS x (l.take i) = mb at *
    repeat' (first
 |refine aK fun K hK=>?_|refine Step.by1 ?_|refine sE (by decide) ?_|refine cz rfl ?_|refine Fork.by2 (fun h=>?_) fun h=>?_
 |((first|refine aR ?_|refine aC (f:=105) rfl rfl (hname) rfl rfl rfl ?_);simp [vl, strV, hlt, hx, hget, wI];try (simp (disch:=omega) only [wI];try simp [vl, strV, hlt, hx, hget, wI]))
 |(refine Split.by2 (fun h=>?_) (fun h=>?_)<;>(simp [h, vl, strV, hlt, hx, hget, wI];try (simp (disch:=omega) only [wI];try simp [vl, strV, hlt, hx, hget, wI])))
 |(refine AS_op1 rfl (S_lookup (l := seenL l i) Tryd.underlying138 Tryd.underlying9 zb4 rfl rfl rfl hnk) ?_; simp [hget])
 |(refine AS_op1 rfl (S_mapUpdate (l := seenL l i) Tryd.underlying138 Tryd.underlying9 rfl rfl rfl hnk rfl) ?_; simp)
 |(apply hK;clear hK K)|refine AWh ‹_› ?_)
    all_goals first
      | (exfalso; have := hx16 (by assumption); omega)
      | exact r1q (cE (by rw [hb (by rw [hga]; simp [*])]; rfl) rfl)
      | (refine ⟨i + 1, ⟨by omega, hnd' h, fun j hj => ?_⟩, by omega, ?_⟩
         · rcases Nat.lt_or_ge j i with h' | h'
           · exact hpre j h'
           · rw [show j = i by omega, hga]; simp [*]
         · apply Weak.mk' <;> simp [vl, strV, hput h])
  · have hr1 := hgood (fun j hj => hpre j (by omega))
    repeat' (first
 |refine aK fun K hK=>?_|refine Step.by1 ?_|refine sE (by decide) ?_|refine cz rfl ?_|refine Fork.by2 (fun h=>?_) fun h=>?_
 |(refine aR ?_;simp [vl, strV, hlt])
 |(refine Split.by2 (fun h=>?_) (fun h=>?_)<;>(simp [h, vl, strV, hlt]))
 |(apply hK;clear hK K)|refine AWh ‹_› ?_)
    exact r1q (cE (by simp [hr1]) rfl)
def allL (n : NetD) : List ByteArray := n.clocks ++ (namesL n ++ (n.chans ++ n.autos.map (·.name)))
def namesB (n : NetD) : Bool := !givenB (allL n) || anyL (fun a => !givenB (locNamesL a)) n.autos
def namesE (n : NetD) : Int := if namesB n = true then 112 else 0
def firstE : List Int → Int
  | [] => 0
  | x :: r => if x ≠ 0 then x else firstE r
theorem fC {x : Int} {r : List Int} : firstE (x :: r) = if x ≠ 0 then x else firstE r := rfl
def wholeE (n : NetD) : Int := firstE [someE n, sizesE n, namesE n, varE n.vars, locsE n.autos, edgesE n n.autos, clocksE n, formsE n, testsE n]
end Go.Proofs.YtgmlimipejcpgaaDoor
end
section
set_option linter.unusedVariables false
set_option linter.unusedSimpArgs false
namespace Go.AM
section
variable {P : Program} {ge : GEnv} {st : St} {Q : Exit → St → Prop} {G : Gh} {w : World}
variable {d : Option Tmp} {t : TypeId} {p : String} {af : Array Edge} {g : Option (Nat × Bool)}
theorem inv_nils {fr : Bool} {c : Value} (h : R G w fr .nils c) : c = .slice none 0 0 := by cases h; rfl
/-- The capacity of nil. -/
theorem S_capNil {T e : TypeId} {x : Operand} {ts : Array TypeId} (hts : ts = #[T]) (hu : P.underlying T = some (.slice e)) (hx : ev ge st.tm x = .nils) :
    OpS P ge st ⟨d, .call { callee := .builtin .cap, args := #[x], argTypes := ts }, t, p, af, g⟩ (.int .i64 0) st.h :=
  OpS_pure fun G a w hr => by
    have hvx := hr.ev x
    rw [hx] at hvx
    have hcx := inv_nils hvx
    exact ⟨.int .i64 0, by simp [execOp, resolve, invoke, builtin, hcx, hts, Builtin.cap_, run_underlying hu, goInt], .int⟩
/-- A slice of nil. -/
theorem S_sliceNil {T e : TypeId} {x y : Operand} {k : IntKind} (hu : P.underlying T = some (.slice e)) (h0 : 0 < szOf P e) (hx : ev ge st.tm x = .nils) (hy : ev ge st.tm y = .int k 0) :
    OpS P ge st ⟨d, .slice T x none (some y) none, t, p, af, g⟩ .nils st.h :=
  OpS_pure fun G a w hr => by
    have hvx := hr.ev x
    have hvy := hr.ev y
    rw [hx] at hvx
    rw [hy] at hvy
    have hcx := inv_nils hvx
    have hcy := hvy.inv_int
    exact ⟨.slice none 0 0, by simp [execOp, hcx, hcy, Instr.sliceAt, Instr.slice, run_underlying hu, Instr.sliceBounds, Instr.sliceBound, asIntOf, run_sizeOf rfl h0], .nils⟩
/-- append of so many zeros onto nil; what they are is not told. -/
theorem S_appendCount {T N e : TypeId} {x y : Operand} {ts : Array TypeId} {k kn : IntKind} {n : Nat} {zs : List V} (hts : ts = #[T, N]) (hu : P.underlying T = some (.slice e)) (hN : P.underlying N = some (.int kn)) (hz : zeroOf P e = some zs) (hsz : szOf P e = zs.length) (h0 : 0 < zs.length)
    (hx : ev ge st.tm x = .nils) (hy : ev ge st.tm y = .int k (n : Int)) (hn : 0 < n) (hb : n * bytesOf P e ≤ 140737488355328) (hb0 : 0 < bytesOf P e) :
    OpS P ge st ⟨d, .call { callee := .builtin .append, args := #[x, y], argTypes := ts }, t, p, af, g⟩ (.ref st.h.length 0 0 n) (st.h ++ [.row e 0 0 true []]) := by
  intro G a w hr
  have hvx := hr.ev x
  have hvy := hr.ev y
  rw [hx] at hvx
  rw [hy] at hvy
  have hcx := inv_nils hvx
  have hcy := hvy.inv_int
  obtain ⟨z, _, hz1, hz2, _, hz3⟩ := run_zeroValue hz
  obtain ⟨inf, hi, hisz, hby⟩ := info_of hsz h0
  rw [hi] at hz1
  simp only [Option.bind_some] at hz1
  have h63 : n ≤ maxLen := by
    have : n * 1 ≤ n * bytesOf P e := Nat.mul_le_mul_left _ hb0
    unfold maxLen; omega
  have hrun := Go.Lib.run_append_nil_zeros (P := P) w T N t e inf z k kn hu hN hi hz1 n hn (by omega) (by unfold maxLen at h63; omega) (by rw [hby]; omega)
  have hgrow : WGrow w (w.drew.alloc (.cells (Builtin.zeroCells z.cells n ++ Builtin.zeroCells z.cells (grownCap w n 0 e - n)) e)) := (WGrow.drew w).trans (.alloc _ _)
  have hge := grownCap_ge w n 0 e
  have hk : ∀ k', (G.push (some w.heap.size) (szOf P e) (grownCap w n 0 e)).at G.n (.row e 0 0 true []) = some k' → w.heap.size ≤ k' := fun k' h => by simp [Gh.at, Gh.push] at h; omega
  refine ⟨.slice (some ⟨w.heap.size, 0, none⟩) n (grownCap w n 0 e), G.push (some w.heap.size) (szOf P e) (grownCap w n 0 e), w.drew.alloc (.cells (Builtin.zeroCells z.cells n ++ Builtin.zeroCells z.cells (grownCap w n 0 e - n)) e), .inl ?_, hr.rh.push hgrow ⟨by simp [Gh.push], Nat.zero_le _, by simp [Gh.push, hsz, h0], .inr ⟨w.heap.size, _, by simp [Gh.push], heap_alloc_new w.drew _, ?_, ?_, by simp, ?_, fun i x h => by simp at h, fun i x j v h => by simp at h⟩⟩ hk, ?_, .push hr.rh hgrow hk⟩
  · rw [run_append_call, hcx, hcy, hts, hrun]; rfl
  · simp [Gh.push, hr.rh.fzlt]
  · simp only [Gh.push, Array.size_append, size_zeroCells, hz2, hsz, if_true]
    rw [← Nat.add_mul]; congr 1; omega
  · simpa [Gh.push] using grownCap_le_maxLen w n 0 e h63
  · rw [hr.rh.n]
    have := R.ref (G := G.push (some w.heap.size) (szOf P e) (grownCap w n 0 e)) (w := w.drew.alloc (.cells (Builtin.zeroCells z.cells n ++ Builtin.zeroCells z.cells (grownCap w n 0 e - n)) e)) (b := G.n) (g := 0) (off := 0) (len := n) (k := w.heap.size) (by simp [Gh.push]) (by simp [Gh.push]) (by simp [Gh.push]) (by simp [Gh.push]; omega)
    simpa [Gh.push] using this
/-- Nil, as a slice that shows nothing. -/
def V.denil : V → V
  | .nils => .vec [] 0
  | v => v
theorem PCall.denil {f : Nat} {args args' : List V} {r : V} (hc : PCall P ge f args' r) (ha : args.map V.denil = args') : PCall P ge f args r := by
  subst ha
  refine ⟨hc.1, fun G w cargs h hg => hc.2 G w cargs ⟨by rw [List.length_map]; exact h.1, fun i v hv => ?_⟩ hg⟩
  rw [List.getElem?_map] at hv
  obtain ⟨u, h1, rfl⟩ := Option.map_eq_some_iff.1 hv
  have h2 := h.2 i u h1
  generalize cargs.getD i undef = c at h2 ⊢
  cases u <;> first | exact h2 | (cases h2; exact .emp (Nat.zero_le _))
end
end Go.AM
end
section
set_option linter.unusedSimpArgs false
set_option linter.unusedVariables false
namespace Go.Proofs.YtgmlimipejcpgaaDoor
open Go Go.AM Fx
set_option maxRecDepth 8000 in
theorem c_growS (n : Nat) (hn : n ≤ 1073741824) : PC 127 [.nils, .int .i64 n] (.own 9 []) := by
  have z0 : ¬ (n : Int) < 0 := by omega
  have w1 : IntKind.i64.wrap (n : Int) = n := wI (by omega) (by omega)
  have wz : IntKind.i64.wrap 0 = 0 := by decide
  refine pB Tryd.func127 rfl (by decide) Tryd.ntmps127 (by simp) Tryd.results127 ?_
  by_cases h0 : n = 0
  · subst h0
    repeat' (first
 |refine AW_nilrow 4 9 rfl (by simp) ?_
 |refine aK fun K hK=>?_|refine Step.by1 ?_|refine sE (by decide) ?_|refine cz rfl ?_|refine Fork.by2 (fun h=>?_) fun h=>?_
 |(refine aR ?_;simp [z0, w1, wz])
 |(refine Split.by2 (fun h=>?_) (fun h=>?_)<;>(simp [h, z0, w1, wz]))
 |(refine AS_op1 rfl (S_capNil rfl Tryd.underlying22 rfl) ?_; simp [z0, w1, wz])
 |(apply hK;clear hK K)|refine AWh ‹_› ?_)
    exact r1q (.inr (.inl (conv1_own (b := 1) (xs := []) rfl rfl)))
  · have hp : (0 : Int) < n := by omega
    have hn0 : 0 < n := by omega
    have hb16 : n * bytesOf Tryd.prog 9 ≤ 140737488355328 := by simp; omega
    repeat' (first
 |refine aK fun K hK=>?_|refine Step.by1 ?_|refine sE (by decide) ?_|refine cz rfl ?_|refine Fork.by2 (fun h=>?_) fun h=>?_
 |(refine aR ?_;simp [z0, w1, wz, hp, hn0])
 |(refine Split.by2 (fun h=>?_) (fun h=>?_)<;>(simp [h, z0, w1, wz, hp, hn0]))
 |(refine AS_op rfl rfl (S_capNil rfl Tryd.underlying22 rfl) ?_; refine AS_op rfl rfl (S_sliceNil Tryd.underlying22 (by simp) rfl rfl) ?_; refine AS_op rfl rfl S_move ?_; refine AS_op1 rfl (S_appendCount (n := n) (zs := zeroD Tryd.prog 9) rfl Tryd.underlying22 Tryd.underlying3 (show zeroOf Tryd.prog 9 = some (zeroD Tryd.prog 9) from getD_some (by simp)) (by simp) (by simp) rfl rfl hn0 hb16 (by simp)) ?_; simp [z0, w1, wz, hp, hn0])
 |(refine AS_op1 rfl (S_capNil rfl Tryd.underlying22 rfl) ?_; simp [z0, w1, wz, hp, hn0])
 |(apply hK;clear hK K)|refine AWh ‹_› ?_)
    exact r1q (.inr (.inl (conv1_own (b := 0) (xs := []) rfl rfl)))
theorem catF_len {α β : Type} {f : α → List β} {x : α} {l : List α} {acc : Nat × List β} {r : List β} (h : catF f (x :: l) acc = r) : acc.2.length + (f x).length ≤ r.length := by
  rw [← h]; simp [catF]
theorem take_str (l : List ByteArray) : (l.map fun s => [V.str s]).take l.length = l.map fun s => [V.str s] := List.take_of_length_le (by simp)
def lenF (l : List (List ByteArray)) (c : Nat) : Nat := c + l.flatten.length
theorem lenF_nil {c : Nat} : lenF [] c = c := rfl
theorem lenF_cons {x : List ByteArray} {l : List (List ByteArray)} {c : Nat} : lenF (x :: l) c = lenF l (c + x.length) := by simp [lenF]; omega
theorem lenF_le {l : List (List ByteArray)} {c : Nat} : c ≤ lenF l c := by simp [lenF]
set_option maxRecDepth 8000 in
set_option maxHeartbeats 4000000 in
theorem c_concatS (ls : List (List ByteArray)) (hl : ls.length ≤ 1048576) (ht : ls.flatten.length ≤ 1073741824) : PC 106 [.vec (ls.map fun l => [vl (fun s => [V.str s]) l]) ls.length] (.own 9 (ls.flatten.map fun s => [V.str s])) := by
  have hG := c_growS ls.flatten.length ht
  have hfl0 : ls.flatMap (fun l => l) = ls.flatten := by rw [List.flatMap_id']
  obtain ⟨fl, hfl⟩ : ∃ fl, ls.flatten = fl := ⟨_, rfl⟩
  rw [hfl] at hG ht hfl0 ⊢
  obtain ⟨tot, htot⟩ : ∃ tot, fl.length = tot := ⟨_, rfl⟩
  rw [htot] at hG ht
  refine pB Tryd.func106 rfl (by decide) Tryd.ntmps106 (by simp) Tryd.results106 ?_
  repeat' (first
 |refine aK fun K hK=>?_|refine Step.by1 ?_|refine sE (by decide) ?_|refine cz rfl ?_|refine Fork.by2 (fun h=>?_) fun h=>?_
 |(refine aR ?_;simp [vl])
 |(refine Split.by2 (fun h=>?_) (fun h=>?_)<;>(simp [h, vl]))
 |(apply hK;clear hK K)|refine AWh ‹_› ?_)
  refine AW_range (r := tot) ls 11 [0, 9, 10] (fun c : Nat => [(3, .int .i64 (c : Int))]) (fun _ => []) (fun _ _ => True) lenF 0
    (by unfold lenF; rw [hfl, htot]; omega) trivial (by apply Weak.mk' <;> simp [vl]) (fun _ _ _ => rfl) ?_ ?_
  · intro i c x _ hlt hx _ hF
    rw [lenF_cons] at hF
    have hle : c + x.length ≤ tot := hF ▸ lenF_le
    have hlt' : (i : Int) < ls.length := by omega
    have hc0 : ¬ (c : Int) + x.length < 0 := by omega
    have w1 : IntKind.i64.wrap ((i : Int) + 1) = i + 1 := wI (by omega) (by omega)
    have w2 : IntKind.i64.wrap ((c : Int) + x.length) = c + x.length := wI (by omega) (by omega)
    repeat' (first
 |refine aK fun K hK=>?_|refine Step.by1 ?_|refine sE (by decide) ?_|refine cz rfl ?_|refine Fork.by2 (fun h=>?_) fun h=>?_
 |(refine aR ?_;simp [vl, strV, hlt, hlt', hx, w1, w2, hc0])
 |(refine Split.by2 (fun h=>?_) (fun h=>?_)<;>(simp [h, vl, strV, hlt, hlt', hx, w1, w2, hc0]))
 |(apply hK;clear hK K)|refine AWh ‹_› ?_)
    exact ⟨c + x.length, hF, by apply Weak.mk' <;> simp [vl]⟩
  · intro c _ hF
    rw [lenF_nil] at hF
    subst hF
    repeat' (first
 |refine aK fun K hK=>?_|refine Step.by1 ?_|refine sE (by decide) ?_|refine cz rfl ?_|refine Fork.by2 (fun h=>?_) fun h=>?_
 |((first|refine aR ?_|refine AS_callO (f:=127) rfl rfl (hG) rfl rfl ?_);simp [vl, strV])
 |(refine Split.by2 (fun h=>?_) (fun h=>?_)<;>(simp [h, vl, strV]))
 |(apply hK;clear hK K)|refine AWh ‹_› ?_)
    refine AW_range (r := fl) ls 27 [25, 26] (fun c : Nat × List ByteArray => [(6, .ref 0 c.1 0 c.2.length)]) (fun c => [.row 9 c.1 0 true (c.2.map fun s => [V.str s])]) (fun _ _ => True) (catF fun l : List ByteArray => l) (0, [])
      (by unfold catF; rw [hfl0]; rfl) trivial (by apply Weak.mk' <;> simp [vl]) (fun _ _ _ => rfl) ?_ ?_
    · rintro i ⟨g, out⟩ x _ hlt hx _ hF
      have hle := catF_len hF
      rw [catF_cons (g + 1)] at hF
      simp only at hF hle
      have hby : (out.length + x.length) * 16 ≤ 140737488355328 := by omega
      have hlt' : (i : Int) < ls.length := by omega
      have htk := take_str x
      have w1 : IntKind.i64.wrap ((i : Int) + 1) = i + 1 := wI (by omega) (by omega)
      repeat' (first
 |refine aK fun K hK=>?_|refine Step.by1 ?_|refine sE (by decide) ?_|refine cz rfl ?_|refine Fork.by2 (fun h=>?_) fun h=>?_
 |(refine aR ?_;simp [vl, strV, hlt, hlt', hx, w1, htk, hby])
 |(refine Split.by2 (fun h=>?_) (fun h=>?_)<;>(simp [h, vl, strV, hlt, hlt', hx, w1, htk, hby]))
 |(apply hK;clear hK K)|refine AWh ‹_› ?_)
      exact ⟨g + 1, out ++ x, hF, by apply Weak.mk' <;> simp [vl]⟩
    · rintro ⟨g, out⟩ _ hF
      rw [catF_nil] at hF
      simp only at hF
      subst hF
      repeat' (first
 |refine aK fun K hK=>?_|refine Step.by1 ?_|refine sE (by decide) ?_|refine cz rfl ?_|refine Fork.by2 (fun h=>?_) fun h=>?_
 |(refine aR ?_;simp [vl])
 |(refine Split.by2 (fun h=>?_) (fun h=>?_)<;>(simp [h, vl]))
 |(apply hK;clear hK K)|refine AWh ‹_› ?_)
      exact r1q (.inr (.inl (conv1_own rfl (by simp))))
set_option maxRecDepth 8000 in
set_option maxHeartbeats 4000000 in
theorem c_all (n : NetD) (hn : n.ok) : PC 78 [.agg n.cells] (vl strV (allL n)) := by
  obtain ⟨⟨h1, _⟩, ⟨h2, _⟩, ⟨h3, _⟩, h4, h5⟩ := hn
  have hN := c_Names n h2
  have hnl : (namesL n).length ≤ 1048576 := by simp [namesL, h2]
  have hC := c_concatS [n.clocks, namesL n, n.chans] (by simp) (by simp; omega)
  have hgoal : PC 78 [.agg n.cells] (.own 9 ((allL n).map fun s => [V.str s])) := by
    generalize hns : namesL n = ns at *
    have hfl : [n.clocks, ns, n.chans].flatten = n.clocks ++ (ns ++ n.chans) := by simp
    rw [hfl] at hC
    simp only [vl, NetD.cells] at hN
    simp only [vl, List.map_cons, List.map_nil, List.length_cons, List.length_nil, List.map_append] at hC
    refine pB Tryd.func78 rfl (by decide) Tryd.ntmps78 (by simp) Tryd.results78 ?_
    repeat' (first
 |refine aK fun K hK=>?_|refine Step.by1 ?_|refine sE (by decide) ?_|refine cz rfl ?_|refine Fork.by2 (fun h=>?_) fun h=>?_
 |((first|refine aR ?_|refine aX (id:=1) 6 mixed (by decide) ?_|refine aP1 (f:=107) rfl rfl (hN) rfl rfl rfl ?_);simp [vl, NetD.cells])
 |(refine Split.by2 (fun h=>?_) (fun h=>?_)<;>(simp [h, vl, NetD.cells]))
 |(refine AS_view 12 rfl rfl (by simp) ?_; simp; refine AS_callO (f := 106) rfl rfl hC rfl rfl ?_; simp [vl, NetD.cells])
 |(apply hK;clear hK K)|refine AWh ‹_› ?_)
    refine AW_range n.autos 17 [15, 16] (fun c : Nat × List ByteArray => [(3, .ref 2 c.1 0 c.2.length)]) (fun c => [.var n.cells, .dead, .row 9 c.1 0 true (c.2.map fun s => [V.str s])]) (fun i c => c.2.length ≤ 3145728 + i) (catF fun x : AutoD => [x.name]) (0, n.clocks ++ (ns ++ n.chans)) (r := allL n)
      (by simp [catF, allL, hns]; try exact (List.map_eq_flatMap ..).symm) (by simp; omega) (by apply Weak.mk' <;> simp [vl, NetD.cells]) (fun _ _ _ => rfl) ?_ ?_
    · rintro i ⟨g, out⟩ x _ hlt hx hJ hF
      simp only at hJ
      rw [catF_cons (g + 1)] at hF
      have hby : (out.length + 1) * 16 ≤ 140737488355328 := by omega
      have hlt' : (i : Int) < n.autos.length := by omega
      have w1 : IntKind.i64.wrap ((i : Int) + 1) = i + 1 := wI (by omega) (by omega)
      repeat' (first
 |refine aK fun K hK=>?_|refine Step.by1 ?_|refine sE (by decide) ?_|refine cz rfl ?_|refine Fork.by2 (fun h=>?_) fun h=>?_
 |(refine aR ?_;simp [vl, NetD.cells, AutoD.cells, hlt, hlt', hx, hby, w1])
 |(refine Split.by2 (fun h=>?_) (fun h=>?_)<;>(simp [h, vl, NetD.cells, AutoD.cells, hlt, hlt', hx, hby, w1]))
 |(apply hK;clear hK K)|refine AWh ‹_› ?_)
      exact ⟨g + 1, out ++ [x.name], hF, by simp; omega, by apply Weak.mk' <;> simp [vl, NetD.cells]⟩
    · rintro ⟨g, out⟩ hJ hF
      rw [catF_nil] at hF
      simp only at hF
      subst hF
      repeat' (first
 |refine aK fun K hK=>?_|refine Step.by1 ?_|refine sE (by decide) ?_|refine cz rfl ?_|refine Fork.by2 (fun h=>?_) fun h=>?_
 |(refine aR ?_;simp [vl, NetD.cells])
 |(refine Split.by2 (fun h=>?_) (fun h=>?_)<;>(simp [h, vl, NetD.cells]))
 |(apply hK;clear hK K)|refine AWh ‹_› ?_)
      exact r1q (.inr (.inl (conv1_own rfl (by simp))))
  have := hgoal.freeze
  have e : ((allL n).map fun s => [V.str s]).length = (allL n).length := by simp
  rw [e] at this
  exact this
end Go.Proofs.YtgmlimipejcpgaaDoor
end
