/-
  YtgmlimipejcpgaaDoorCb00: steps of the proof of a law of the program: what these texts prove holds under the hypotheses that their theorems name, and no others.
-/
import Derived.Test.YtgmlimipejcpgaaDoorCd17
section
set_option linter.unusedVariables false
set_option linter.unusedSimpArgs false
namespace Go.AM
section
variable {P : Program} {ge : GEnv} {st : St} {Q : Exit → St → Prop}
variable {d : Option Tmp} {t : TypeId} {p : String} {af : Array Edge} {g : Option (Nat × Bool)}
theorem conv_own {h : List B} {b g : Nat} {T : TypeId} {xs : List (List V)} {n : Nat} (hb : h[b]? = some (.row T g 0 true xs)) (hn : n = xs.length) : Conv h (.ref b g 0 n) (.own T xs) := by subst hn; exact .inr (.inl (.inr ⟨b, g, T, xs, rfl, hb, rfl⟩))
end
end Go.AM
end
section
set_option maxRecDepth 100000
namespace Go.Proofs.YtgmlimipejcpgaaDoor
open Go.AM
namespace Fx
@[simp] theorem sz23 : szOf Tryd.prog 23 = 1 := by kernel_rfl
@[simp] theorem el23 : Go.AM.elemOf Tryd.prog 23 = 68 := by kernel_rfl
@[simp] theorem sz24 : szOf Tryd.prog 24 = 1 := by kernel_rfl
@[simp] theorem el27 : Go.AM.elemOf Tryd.prog 27 = 29 := by kernel_rfl
@[simp] theorem sz29 : szOf Tryd.prog 29 = 1 := by kernel_rfl
@[simp] theorem zo29 : (zeroOf Tryd.prog 29).isSome = true := by kernel_rfl
@[simp] theorem zd29 : zeroD Tryd.prog 29 = [.nils] := by kernel_rfl
@[simp] theorem el29 : Go.AM.elemOf Tryd.prog 29 = 89 := by kernel_rfl
@[simp] theorem sz38 : szOf Tryd.prog 38 = 1 := by kernel_rfl
@[simp] theorem sz39 : szOf Tryd.prog 39 = 1 := by kernel_rfl
@[simp] theorem by41 : bytesOf Tryd.prog 41 = 64 := by kernel_rfl
@[simp] theorem sz43 : szOf Tryd.prog 43 = 1 := by kernel_rfl
@[simp] theorem by45 : bytesOf Tryd.prog 45 = 48 := by kernel_rfl
@[simp] theorem sz46 : szOf Tryd.prog 46 = 1 := by kernel_rfl
@[simp] theorem el46 : Go.AM.elemOf Tryd.prog 46 = 79 := by kernel_rfl
@[simp] theorem sz47 : szOf Tryd.prog 47 = 1 := by kernel_rfl
@[simp] theorem by49 : bytesOf Tryd.prog 49 = 104 := by kernel_rfl
@[simp] theorem ia64 : isAggT Tryd.prog 64 = false := by kernel_rfl
@[simp] theorem by68 : bytesOf Tryd.prog 68 = 40 := by kernel_rfl
@[simp] theorem by79 : bytesOf Tryd.prog 79 = 16 := by kernel_rfl
@[simp] theorem ss89 : isStructT Tryd.prog 89 = true := by kernel_rfl
@[simp] theorem fk89 : fldOk Tryd.prog 89 = true := by kernel_rfl
@[simp] theorem fi89_1 : fInfo Tryd.prog 89 1 = some (1, 1) := by kernel_rfl
end Fx
end Go.Proofs.YtgmlimipejcpgaaDoor
end
section
set_option linter.unusedVariables false
set_option linter.unusedSimpArgs false
namespace Go.AM
section
variable {P : Program} {ge : GEnv} {st : St} {Q : Exit → St → Prop} {G : Gh} {w : World}
theorem PCall.same {f : Nat} {args : List V} {r r' : V} (hc : PCall P ge f args r) (hp : r.plain = true) (h : ∀ G w c, R G w true r c → R G w true r' c) (hp' : match r' with | .own .. => False | .tup .. => False | _ => True) : PCall P ge f args r' :=
  ⟨hc.1, fun G w cargs ha hg => (hc.2 G w cargs ha hg).mono fun e w' ⟨c, G', h1, h2, h3⟩ => ⟨c, G', h1, h2, by
    have h4 := h _ _ _ (h3.plain hp)
    cases r' <;> first | exact h4 | exact hp'.elim⟩⟩
end
end Go.AM
end
section
set_option linter.unusedVariables false
set_option linter.unusedSimpArgs false
namespace Go.AM
section
variable {P : Program} {ge : GEnv}
/-- A prefix has turned; what stands behind it stays; what is new falls. -/
theorem Leaves.tail {a a' e x : List B} (hl : a'.length = a.length) (ha : ∀ y ∈ a', y.lt a'.length) : Leaves (a ++ e) (a' ++ (e ++ x)) (a' ++ e) := by
  refine ⟨by simp [hl], by simp, fun b y hy => .inr ⟨?_, ?_⟩⟩
  · have hlt := (List.getElem?_eq_some_iff.1 hy).1
    rw [← List.append_assoc, List.getElem?_append_left hlt]; exact hy
  · rcases Nat.lt_or_ge b a'.length with h | h
    · rw [List.getElem?_append_left h] at hy
      exact .inr (B.lt_mono (by simp) (ha y (List.mem_of_getElem? hy)))
    · rw [List.getElem?_append_right h] at hy
      refine .inl ?_
      rw [List.getElem?_append_right (by omega), ← hl]; exact hy
end
end Go.AM
end
section
set_option linter.unusedVariables false
set_option linter.unusedSimpArgs false
namespace Go.AM
section
variable {P : Program} {T : TypeId} {K : Bk}
theorem RdN_bool (ht : P.underlying T = some .bool) : RdN K P T (fun b : Bool => [V.bool b]) (fun _ => True) :=
  fun H enc w held fuel cs x hx hbk => by
    obtain ⟨b, rfl, _⟩ := DataW.trod_bool ht hx
    exact ⟨b, trivial, .one rfl .bool⟩
theorem RdN_string (ht : P.underlying T = some .string) : RdN K P T (fun s : ByteArray => [V.str s]) (fun s => s.size ≤ maxLen ∧ s.size ≤ K.N) :=
  fun H enc w held fuel cs x hx hbk => by
    obtain ⟨s, rfl, rfl, hs⟩ := DataW.trod_string ht hx
    exact ⟨s, ⟨hs, by have := K.str _ hbk; simpa using this⟩, .one rfl .str⟩
end
end Go.AM
end
section
set_option linter.unusedVariables false
namespace Go.Proofs.YtgmlimipejcpgaaDoor
open Go Go.AM
theorem wf64 {n : Int} (h : (Lit.int .i64 n).wf = true) : I64 n := by
  have : -9223372036854775808 ≤ n ∧ n ≤ 9223372036854775807 := by simpa [Lit.wf, IntKind.min, IntKind.max, IntKind.signed, IntKind.bits] using h
  exact this
theorem wfu8 {n : Int} (h : (Lit.int .u8 n).wf = true) : 0 ≤ n ∧ n ≤ 255 := by
  simpa [Lit.wf, IntKind.min, IntKind.max, IntKind.signed, IntKind.bits] using h
theorem zco9 : Tryd.prog.cellsOf 9 = 1 := by kernel_rfl
theorem zco68 : Tryd.prog.cellsOf 68 = 4 := by kernel_rfl
theorem rnVarD : RdN KB Tryd.prog 68 VarD.cells VarD.ok :=
  (RdN_struct Tryd.underlying68 zco68 (rC rfl zco9 (RdN_string Tryd.underlying9) (fun _ => rfl) (rC rfl zco3 (RdN_int Tryd.underlying3) (fun _ => rfl) (rC rfl zco3 (RdN_int Tryd.underlying3) (fun _ => rfl) (rC rfl zco3 (RdN_int Tryd.underlying3) (fun _ => rfl) (RdNs_nil rfl)))))).map
    (fun p => ⟨p.1, p.2.1, p.2.2.1, p.2.2.2.1⟩) (fun _ => rfl) (fun p h => ⟨(h.1).2, wf64 h.2.1, wf64 h.2.2.1, wf64 h.2.2.2.1⟩)
theorem zco63 : Tryd.prog.cellsOf 63 = 1 := by kernel_rfl
theorem zco73 : Tryd.prog.cellsOf 73 = 4 := by kernel_rfl
theorem rnGuardD : RdN KB Tryd.prog 73 GuardD.cells GuardD.ok :=
  (RdN_struct Tryd.underlying73 zco73 (rC rfl zco3 (RdN_int Tryd.underlying3) (fun _ => rfl) (rC rfl zco3 (RdN_int Tryd.underlying3) (fun _ => rfl) (rC rfl zco63 (RdN_int Tryd.underlying63) (fun _ => rfl) (rC rfl zco3 (RdN_int Tryd.underlying3) (fun _ => rfl) (RdNs_nil rfl)))))).map
    (fun p => ⟨p.1, p.2.1, p.2.2.1, p.2.2.2.1⟩) (fun _ => rfl) (fun p h => ⟨wf64 h.1, wf64 h.2.1, wfu8 h.2.2.1, wf64 h.2.2.2.1⟩)
theorem zco43 : Tryd.prog.cellsOf 43 = 1 := by kernel_rfl
theorem zco42 : Tryd.prog.cellsOf 42 = 1 := by kernel_rfl
theorem zco45 : Tryd.prog.cellsOf 45 = 3 := by kernel_rfl
theorem rnLocD : RdN KB Tryd.prog 45 LocD.cells LocD.ok :=
  (RdN_struct Tryd.underlying45 zco45 (rC rfl zco9 (RdN_string Tryd.underlying9) (fun _ => rfl) (rC rfl zco42 (RdN_int Tryd.underlying42) (fun _ => rfl) (rC rfl zco43 (RdN_slice Tryd.underlying43 (by rw [zco73]; decide) rnGuardD (fun _ => by rw [zco73]; rfl)) (fun _ => rfl) (RdNs_nil rfl))))).map
    (fun p => ⟨p.1, p.2.1, p.2.2.1⟩) (fun _ => rfl) (fun p h => ⟨(h.1).2, wfu8 h.2.1, ⟨(h.2.2.1).1, fun a ha => ((h.2.2.1).2 a ha)⟩⟩)
theorem zco77 : Tryd.prog.cellsOf 77 = 1 := by kernel_rfl
theorem zco79 : Tryd.prog.cellsOf 79 = 2 := by kernel_rfl
theorem rnNodeD : RdN KB Tryd.prog 79 NodeD.cells NodeD.ok :=
  (RdN_struct Tryd.underlying79 zco79 (rC rfl zco77 (RdN_int Tryd.underlying77) (fun _ => rfl) (rC rfl zco3 (RdN_int Tryd.underlying3) (fun _ => rfl) (RdNs_nil rfl)))).map
    (fun p => ⟨p.1, p.2.1⟩) (fun _ => rfl) (fun p h => ⟨wfu8 h.1, wf64 h.2.1⟩)
theorem zco46 : Tryd.prog.cellsOf 46 = 1 := by kernel_rfl
theorem zco82 : Tryd.prog.cellsOf 82 = 4 := by kernel_rfl
theorem rnSetD : RdN KB Tryd.prog 82 SetD.cells SetD.ok :=
  (RdN_struct Tryd.underlying82 zco82 (rC rfl zco3 (RdN_int Tryd.underlying3) (fun _ => rfl) (rC rfl zco3 (RdN_int Tryd.underlying3) (fun _ => rfl) (rC rfl zco3 (RdN_int Tryd.underlying3) (fun _ => rfl) (rC rfl zco46 (RdN_slice Tryd.underlying46 (by rw [zco79]; decide) rnNodeD (fun _ => by rw [zco79]; rfl)) (fun _ => rfl) (RdNs_nil rfl)))))).map
    (fun p => ⟨p.1, p.2.1, p.2.2.1, p.2.2.2.1⟩) (fun _ => rfl) (fun p h => ⟨wf64 h.1, wf64 h.2.1, wf64 h.2.2.1, ⟨(h.2.2.2.1).1, fun a ha => ((h.2.2.2.1).2 a ha)⟩⟩)
theorem zco47 : Tryd.prog.cellsOf 47 = 1 := by kernel_rfl
theorem zco4 : Tryd.prog.cellsOf 4 = 1 := by kernel_rfl
theorem zco49 : Tryd.prog.cellsOf 49 = 7 := by kernel_rfl
theorem rnEdgeD : RdN KB Tryd.prog 49 EdgeD.cells EdgeD.ok :=
  (RdN_struct Tryd.underlying49 zco49 (rC rfl zco3 (RdN_int Tryd.underlying3) (fun _ => rfl) (rC rfl zco3 (RdN_int Tryd.underlying3) (fun _ => rfl) (rC rfl zco43 (RdN_slice Tryd.underlying43 (by rw [zco73]; decide) rnGuardD (fun _ => by rw [zco73]; rfl)) (fun _ => rfl) (rC rfl zco46 (RdN_slice Tryd.underlying46 (by rw [zco79]; decide) rnNodeD (fun _ => by rw [zco79]; rfl)) (fun _ => rfl) (rC rfl zco3 (RdN_int Tryd.underlying3) (fun _ => rfl) (rC rfl zco4 (RdN_bool Tryd.underlying4) (fun _ => rfl) (rC rfl zco47 (RdN_slice Tryd.underlying47 (by rw [zco82]; decide) rnSetD (fun _ => by rw [zco82]; rfl)) (fun _ => rfl) (RdNs_nil rfl))))))))).map
    (fun p => ⟨p.1, p.2.1, p.2.2.1, p.2.2.2.1, p.2.2.2.2.1, p.2.2.2.2.2.1, p.2.2.2.2.2.2.1⟩) (fun _ => rfl) (fun p h => ⟨wf64 h.1, wf64 h.2.1, ⟨(h.2.2.1).1, fun a ha => ((h.2.2.1).2 a ha)⟩, ⟨(h.2.2.2.1).1, fun a ha => ((h.2.2.2.1).2 a ha)⟩, wf64 h.2.2.2.2.1, trivial, ⟨(h.2.2.2.2.2.2.1).1, fun a ha => ((h.2.2.2.2.2.2.1).2 a ha)⟩⟩)
theorem zco39 : Tryd.prog.cellsOf 39 = 1 := by kernel_rfl
theorem zco38 : Tryd.prog.cellsOf 38 = 1 := by kernel_rfl
theorem zco41 : Tryd.prog.cellsOf 41 = 3 := by kernel_rfl
theorem rnAutoD : RdN KB Tryd.prog 41 AutoD.cells AutoD.ok :=
  (RdN_struct Tryd.underlying41 zco41 (rC rfl zco9 (RdN_string Tryd.underlying9) (fun _ => rfl) (rC rfl zco38 (RdN_slice Tryd.underlying38 (by rw [zco45]; decide) rnLocD (fun _ => by rw [zco45]; rfl)) (fun _ => rfl) (rC rfl zco39 (RdN_slice Tryd.underlying39 (by rw [zco49]; decide) rnEdgeD (fun _ => by rw [zco49]; rfl)) (fun _ => rfl) (RdNs_nil rfl))))).map
    (fun p => ⟨p.1, p.2.1, p.2.2.1⟩) (fun _ => rfl) (fun p h => ⟨(h.1).2, ⟨(h.2.1).1, fun a ha => ((h.2.1).2 a ha)⟩, ⟨(h.2.2.1).1, fun a ha => ((h.2.2.1).2 a ha)⟩⟩)
theorem zco24 : Tryd.prog.cellsOf 24 = 1 := by kernel_rfl
theorem zco22 : Tryd.prog.cellsOf 22 = 1 := by kernel_rfl
theorem zco23 : Tryd.prog.cellsOf 23 = 1 := by kernel_rfl
theorem zco26 : Tryd.prog.cellsOf 26 = 4 := by kernel_rfl
theorem rnNetD : RdN KB Tryd.prog 26 NetD.cells NetD.ok :=
  (RdN_struct Tryd.underlying26 zco26 (rC rfl zco22 (RdN_slice Tryd.underlying22 (by rw [zco9]; decide) (RdN_string Tryd.underlying9) (fun _ => by rw [zco9]; rfl)) (fun _ => rfl) (rC rfl zco23 (RdN_slice Tryd.underlying23 (by rw [zco68]; decide) rnVarD (fun _ => by rw [zco68]; rfl)) (fun _ => rfl) (rC rfl zco22 (RdN_slice Tryd.underlying22 (by rw [zco9]; decide) (RdN_string Tryd.underlying9) (fun _ => by rw [zco9]; rfl)) (fun _ => rfl) (rC rfl zco24 (RdN_slice Tryd.underlying24 (by rw [zco41]; decide) rnAutoD (fun _ => by rw [zco41]; rfl)) (fun _ => rfl) (RdNs_nil rfl)))))).map
    (fun p => ⟨p.1, p.2.1, p.2.2.1, p.2.2.2.1⟩) (fun _ => rfl) (fun p h => ⟨⟨(h.1).1, fun a ha => (((h.1).2 a ha)).2⟩, ⟨(h.2.1).1, fun a ha => ((h.2.1).2 a ha)⟩, ⟨(h.2.2.1).1, fun a ha => (((h.2.2.1).2 a ha)).2⟩, ⟨(h.2.2.2.1).1, fun a ha => ((h.2.2.2.1).2 a ha)⟩⟩)
end Go.Proofs.YtgmlimipejcpgaaDoor
end
section
set_option linter.unusedVariables false
set_option linter.unusedSimpArgs false
namespace Go.AM
section
variable {P : Program} {ge : GEnv} {st st' : St} {Q : Exit → St → Prop} {ops : Array Oper}
end
end Go.AM
end
section
set_option linter.unusedSimpArgs false
set_option linter.unusedVariables false
namespace Go.Proofs.YtgmlimipejcpgaaDoor
open Go Go.AM Fx
def H5 (n : NetD) (fso : Nat) (o : List Int) : List B := [.var n.cells, .var [.fn (.func fso) [] []], .row 3 0 0 true (o.map fun k => [V.int .i64 k]), .var [.ref 2 0 0 o.length], .var [.fn (.func 62) [] [.ptr 1 0, .ptr 3 0]]]
theorem H5_len {n : NetD} {fso : Nat} {o : List Int} : (H5 n fso o).length = 5 := rfl
theorem cells_lt (n : NetD) (k : Nat) : V.lts k n.cells = true := by simp [NetD.cells, vl]
theorem H5_lt {n : NetD} {fso : Nat} {o : List Int} {k : Nat} (hk : 5 ≤ k) : ∀ y ∈ H5 n fso o, y.lt k := by
  intro y hy
  simp only [H5, List.mem_cons, List.not_mem_nil, or_false] at hy
  rcases hy with rfl | rfl | rfl | rfl | rfl
  · exact cells_lt n k
  · simp
  · simp
  · simp; omega
  · simp; omega
set_option maxRecDepth 20000 in
set_option maxHeartbeats 8000000 in
theorem c_raise (n : NetD) (fso : Nat) (so : Int → Bool) (hso : ∀ c, PC fso [.int .u8 c] (.bool (so c))) (l : List GuardD) (o : List Int) (e : List B) (hN : o.length ≤ 1048576) (hl : l.length ≤ 1048576) (hg : ∀ g ∈ l, okG o.length g) (hE : ∀ y ∈ e, y.lt (5 + e.length)) :
    GCall Tryd.prog GV 62 [vl GuardD.cells l, .ptr 1 0, .ptr 3 0] (H5 n fso o ++ e) (fun v h' => v = .int .i64 0 ∧ h' = H5 n fso (raiseL so l o) ++ e) := by
  refine gB1 Tryd.func62 rfl (by decide) Tryd.ntmps62 (by simp) Tryd.results62 ?_
  repeat' (first
 |refine aK fun K hK=>?_|refine Step.by1 ?_|refine sE (by decide) ?_|refine cz rfl ?_|refine Fork.by2 (fun h=>?_) fun h=>?_
 |(refine aR ?_;simp [vl])
 |(refine Split.by2 (fun h=>?_) (fun h=>?_)<;>(simp [h, vl]))
 |(apply hK;clear hK K)|refine AWh ‹_› ?_)
  refine AW_range (r := raiseL so l o) l 9 [1, 2, 7, 8] (fun c : List Int => []) (fun c => H5 n fso c ++ e) (fun i c => c.length = o.length) (raiseL so) o
    rfl rfl (Weak.tail (x := []) (by simp) (by simp [vl, H5_len]; omega) (H5_lt (by simp [H5_len])) (fun y hy => by have := hE y hy; simpa [H5_len, Nat.add_comm] using this)) (fun _ _ _ => by simp [H5_len]) ?_ ?_
  · intro i c x _ hlt hx hJ hF
    rw [raiseL_cons] at hF
    obtain ⟨g1, g2⟩ := hg x (hx ▸ List.getElem_mem hlt)
    have hlt' : (i : Int) < l.length := by omega
    have w1 : IntKind.i64.wrap ((i : Int) + 1) = i + 1 := wI (by omega) (by omega)
    have w2 : IntKind.i64.wrap (x.clock - 1) = x.clock - 1 := wI (by omega) (by omega)
    obtain ⟨p, hp⟩ := Int.eq_ofNat_of_zero_le (show 0 ≤ x.clock - 1 by omega)
    have hpl : p < c.length := by omega
    have hpl' : (p : Int) < c.length := by omega
    have hc := hso x.cmp
    have h1 : raise1 so c x = if so x.cmp = true then c.set p (if x.n > c[p] then x.n else c[p]) else c := by
      unfold raise1; rw [hp]; simp [hpl]
    rw [h1] at hF
    obtain ⟨y, hy⟩ : ∃ y, c[p] = y := ⟨_, rfl⟩
    rw [hy] at hF
    rw [hp] at w2
    cases hs : so x.cmp
    · rw [hs] at hc hF
      rw [if_neg (by simp)] at hF
      repeat' (first
 |refine aK fun K hK=>?_|refine Step.by1 ?_|refine sE (by decide) ?_|refine cz rfl ?_|refine Fork.by2 (fun h=>?_) fun h=>?_
 |(refine aR ?_;simp [vl, H5, GuardD.cells, hlt, hlt', hx, w1])
 |(refine Split.by2 (fun h=>?_) (fun h=>?_)<;>(simp [h, vl, H5, GuardD.cells, hlt, hlt', hx, w1]))
 |(refine aC (f := fso) rfl rfl hc rfl rfl rfl ?_; simp [vl, H5, GuardD.cells])
 |(apply hK;clear hK K)|refine AWh ‹_› ?_)
      refine ⟨c, hF, hJ, ?_⟩
      refine Weak.tail (a := H5 n fso c) (e := e) (x := [B.var x.cells]) (by simp [H5, GuardD.cells]) (by simp [vl, H5_len]; omega) (H5_lt (by simp [H5_len])) (fun y hy => by have := hE y hy; simpa [H5_len, Nat.add_comm] using this)
    · rw [hs] at hc hF
      rw [if_pos rfl] at hF
      repeat' (first
 |refine aK fun K hK=>?_|refine Step.by1 ?_|refine sE (by decide) ?_|refine cz rfl ?_|refine Fork.by2 (fun h=>?_) fun h=>?_
 |((first|refine aR ?_|refine aX (id:=5) 14 mixed (by decide) ?_);simp [vl, H5, GuardD.cells, hlt, hlt', hx, w1, hp, w2, hpl, hpl', hy])
 |(refine Split.by2 (fun h=>?_) (fun h=>?_)<;>(simp [h, vl, H5, GuardD.cells, hlt, hlt', hx, w1, hp, w2, hpl, hpl', hy]))
 |(refine aC (f := fso) rfl rfl hc rfl rfl rfl ?_; simp [vl, H5, GuardD.cells])
 |(apply hK;clear hK K)|refine AWh ‹_› ?_)
      refine ⟨_, hF, by simp [hJ], ?_⟩
      refine Weak.tail (a := H5 n fso _) (e := e) (x := [B.var x.cells]) (by simp [H5, GuardD.cells, hp]) (by simp [vl, H5_len]; omega) (H5_lt (by simp [H5_len])) (fun y hy => by have := hE y hy; simpa [H5_len, Nat.add_comm] using this)
  · intro c hJ hF
    rw [raiseL_nil] at hF
    subst hF
    repeat' (first
 |refine aK fun K hK=>?_|refine Step.by1 ?_|refine sE (by decide) ?_|refine cz rfl ?_|refine Fork.by2 (fun h=>?_) fun h=>?_
 |(refine aR ?_;simp [vl])
 |(refine Split.by2 (fun h=>?_) (fun h=>?_)<;>(simp [h, vl]))
 |(apply hK;clear hK K)|refine AWh ‹_› ?_)
    exact retg1 ⟨rfl, rfl⟩ rfl (by simpa using Go.AM.Leaves.tail (a := H5 n fso o) (a' := H5 n fso (raiseL so l o)) (e := e) (x := []) (by simp [H5_len]) (H5_lt (by simp [H5_len])))
def raiseLs (so : Int → Bool) (l : List LocD) (o : List Int) : List Int := raiseL so (l.flatMap (·.inv)) o
def raiseEs (so : Int → Bool) (l : List EdgeD) (o : List Int) : List Int := raiseL so (l.flatMap (·.guards)) o
def raiseAs (so : Int → Bool) (l : List AutoD) (o : List Int) : List Int := raiseL so (l.flatMap guardsA) o
theorem raiseLs_nil {so : Int → Bool} {o : List Int} : raiseLs so [] o = o := rfl
theorem raiseEs_nil {so : Int → Bool} {o : List Int} : raiseEs so [] o = o := rfl
theorem raiseAs_nil {so : Int → Bool} {o : List Int} : raiseAs so [] o = o := rfl
theorem raiseLs_cons {so : Int → Bool} {x : LocD} {l : List LocD} {o : List Int} : raiseLs so (x :: l) o = raiseLs so l (raiseL so x.inv o) := by simp only [raiseLs, List.flatMap_cons, raiseL_append]
theorem raiseEs_cons {so : Int → Bool} {x : EdgeD} {l : List EdgeD} {o : List Int} : raiseEs so (x :: l) o = raiseEs so l (raiseL so x.guards o) := by simp only [raiseEs, List.flatMap_cons, raiseL_append]
theorem raiseAs_cons {so : Int → Bool} {a : AutoD} {l : List AutoD} {o : List Int} : raiseAs so (a :: l) o = raiseAs so l (raiseEs so a.edges (raiseLs so a.locs o)) := by simp only [raiseAs, raiseEs, raiseLs, List.flatMap_cons, raiseL_append, guardsA]
set_option maxRecDepth 20000 in
set_option maxHeartbeats 8000000 in
theorem c_num2 (n : NetD) (fso : Nat) (so : Int → Bool) (hso : ∀ c, PC fso [.int .u8 c] (.bool (so c))) (x : LocD) (o : List Int) (e : List B) (hN : o.length ≤ 1048576) (hl : x.inv.length ≤ 1048576) (hg : ∀ g ∈ x.inv, okG o.length g) (hE : ∀ y ∈ e, y.lt (5 + e.length)) :
    GCall Tryd.prog GV 64 [.agg x.cells, .ptr 4 0] (H5 n fso o ++ e) (fun v h' => v = .int .i64 0 ∧ h' = H5 n fso (raiseL so x.inv o) ++ e) := by
  have hc := c_raise n fso so hso x.inv o (e ++ [.var x.cells]) hN hl hg (fun y hy => by
    rcases List.mem_append.1 hy with h | h
    · exact B.lt_mono (by simp) (hE y h)
    · simp at h; subst h; simp [LocD.cells, vl])
  refine gB1 Tryd.func64 rfl (by decide) Tryd.ntmps64 (by simp) Tryd.results64 ?_
  repeat' (first
 |refine aK fun K hK=>?_|refine Step.by1 ?_|refine sE (by decide) ?_|refine cz rfl ?_|refine Fork.by2 (fun h=>?_) fun h=>?_
 |(refine aR ?_;simp [vl, H5, LocD.cells])
 |(refine Split.by2 (fun h=>?_) (fun h=>?_)<;>(simp [h, vl, H5, LocD.cells]))
 |(refine aG (f := 62) rfl rfl (hc.imp (by simp [vl]) (by simp [H5, LocD.cells, vl])) rfl (fun v h' hq => ?_); obtain ⟨rfl, rfl⟩ := hq; simp [vl, H5, LocD.cells])
 |(apply hK;clear hK K)|refine AWh ‹_› ?_)
  exact retg1 (h' := H5 n fso (raiseL so x.inv o) ++ e) ⟨rfl, rfl⟩ rfl (by simpa [H5, LocD.cells, vl] using Go.AM.Leaves.tail (a := H5 n fso o) (a' := H5 n fso (raiseL so x.inv o)) (e := e) (x := [.var x.cells]) (by simp [H5_len]) (H5_lt (by simp [H5_len])))
set_option maxRecDepth 20000 in
set_option maxHeartbeats 8000000 in
theorem c_num3 (n : NetD) (fso : Nat) (so : Int → Bool) (hso : ∀ c, PC fso [.int .u8 c] (.bool (so c))) (x : EdgeD) (o : List Int) (e : List B) (hN : o.length ≤ 1048576) (hl : x.guards.length ≤ 1048576) (hg : ∀ g ∈ x.guards, okG o.length g) (hE : ∀ y ∈ e, y.lt (5 + e.length)) :
    GCall Tryd.prog GV 65 [.agg x.cells, .ptr 4 0] (H5 n fso o ++ e) (fun v h' => v = .int .i64 0 ∧ h' = H5 n fso (raiseL so x.guards o) ++ e) := by
  have hc := c_raise n fso so hso x.guards o (e ++ [.var x.cells]) hN hl hg (fun y hy => by
    rcases List.mem_append.1 hy with h | h
    · exact B.lt_mono (by simp) (hE y h)
    · simp at h; subst h; simp [EdgeD.cells, vl])
  refine gB1 Tryd.func65 rfl (by decide) Tryd.ntmps65 (by simp) Tryd.results65 ?_
  repeat' (first
 |refine aK fun K hK=>?_|refine Step.by1 ?_|refine sE (by decide) ?_|refine cz rfl ?_|refine Fork.by2 (fun h=>?_) fun h=>?_
 |(refine aR ?_;simp [vl, H5, EdgeD.cells])
 |(refine Split.by2 (fun h=>?_) (fun h=>?_)<;>(simp [h, vl, H5, EdgeD.cells]))
 |(refine aG (f := 62) rfl rfl (hc.imp (by simp [vl]) (by simp [H5, EdgeD.cells, vl])) rfl (fun v h' hq => ?_); obtain ⟨rfl, rfl⟩ := hq; simp [vl, H5, EdgeD.cells])
 |(apply hK;clear hK K)|refine AWh ‹_› ?_)
  exact retg1 (h' := H5 n fso (raiseL so x.guards o) ++ e) ⟨rfl, rfl⟩ rfl (by simpa [H5, EdgeD.cells, vl] using Go.AM.Leaves.tail (a := H5 n fso o) (a' := H5 n fso (raiseL so x.guards o)) (e := e) (x := [.var x.cells]) (by simp [H5_len]) (H5_lt (by simp [H5_len])))
set_option maxRecDepth 20000 in
set_option maxHeartbeats 8000000 in
theorem c_searchG (n : NetD) (hn : n.ok) (fso : Nat) (so : Int → Bool) (hso : ∀ c, PC fso [.int .u8 c] (.bool (so c))) (o : List Int) (hN : o.length ≤ 1048576) (hg : ∀ g ∈ guardsL n, okG o.length g) :
    GCall Tryd.prog GV 63 [.agg n.cells, .fn (.func 64) [] [.ptr 4 0], .fn (.func 65) [] [.ptr 4 0]] (H5 n fso o) (fun v h' => v = .tup [spotV 0 0 0, .int .i64 0] ∧ h' = H5 n fso (raiseL so (guardsL n) o)) := by
  obtain ⟨r, hr⟩ : ∃ r, raiseL so (guardsL n) o = r := ⟨_, rfl⟩
  have hr' : raiseAs so n.autos o = r := hr
  rw [hr]
  have hgl : ∀ a ∈ n.autos, ∀ x ∈ a.locs, ∀ g ∈ x.inv, okG o.length g := fun a ha x hx g h => hg g (by
    unfold guardsL guardsA
    simp only [List.mem_flatMap, List.mem_append]
    exact ⟨a, ha, .inl ⟨x, hx, h⟩⟩)
  have hge : ∀ a ∈ n.autos, ∀ x ∈ a.edges, ∀ g ∈ x.guards, okG o.length g := fun a ha x hx g h => hg g (by
    unfold guardsL guardsA
    simp only [List.mem_flatMap, List.mem_append]
    exact ⟨a, ha, .inr ⟨x, hx, h⟩⟩)
  clear hg hr
  obtain ⟨_, _, _, h4, h5⟩ := hn
  refine gB1 Tryd.func63 rfl (by decide) Tryd.ntmps63 (by simp) Tryd.results63 ?_
  repeat' (first
 |refine aK fun K hK=>?_|refine Step.by1 ?_|refine sE (by decide) ?_|refine cz rfl ?_|refine Fork.by2 (fun h=>?_) fun h=>?_
 |(refine aR ?_;simp [vl, NetD.cells, H5])
 |(refine Split.by2 (fun h=>?_) (fun h=>?_)<;>(simp [h, vl, NetD.cells, H5]))
 |(apply hK;clear hK K)|refine AWh ‹_› ?_)
  refine AW_range (r := r) n.autos 19 [1, 2, 6, 17, 18] (fun c : List Int => []) (fun c => H5 n fso c ++ [.var n.cells, .var [.int .i64 0, .int .i64 0, .int .i64 0]]) (fun i c => c.length = o.length) (raiseAs so) o
    hr' rfl (by apply Weak.mk' <;> simp [vl, NetD.cells, H5]) (fun _ _ _ => by simp [H5_len]) ?_ ?_
  · intro i c a _ hlt ha hJ hF
    rw [raiseAs_cons] at hF
    have hm : a ∈ n.autos := ha ▸ List.getElem_mem hlt
    have hoa := h5 a hm
    obtain ⟨_, ⟨hl1, hl2⟩, he1, he2⟩ := hoa
    have hlt' : (i : Int) < n.autos.length := by omega
    have w0 : IntKind.i64.wrap ((i : Int) + 1) = i + 1 := wI (by omega) (by omega)
    repeat' (first
 |refine aK fun K hK=>?_|refine Step.by1 ?_|refine sE (by decide) ?_|refine cz rfl ?_|refine Fork.by2 (fun h=>?_) fun h=>?_
 |(refine aR ?_;simp [vl, NetD.cells, AutoD.cells, H5, hlt, hlt', ha])
 |(refine Split.by2 (fun h=>?_) (fun h=>?_)<;>(simp [h, vl, NetD.cells, AutoD.cells, H5, hlt, hlt', ha]))
 |(apply hK;clear hK K)|refine AWh ‹_› ?_)
    obtain ⟨r1, hr1⟩ : ∃ r1, raiseLs so a.locs c = r1 := ⟨_, rfl⟩
    rw [hr1] at hF
    refine AW_range (r := r1) a.locs 27 [1, 2, 6, 8, 9, 17, 18, 19, 25, 26] (fun c : List Int => []) (fun c => H5 n fso c ++ [.var n.cells, .var [.int .i64 0, .int .i64 0, .int .i64 0], .var a.cells]) (fun i c => c.length = o.length) (raiseLs so) c
      hr1 hJ (by apply Weak.mk' <;> simp [vl, NetD.cells, AutoD.cells, H5]) (fun _ _ _ => by simp [H5_len]) ?_ ?_
    · intro k q x _ hkt hx hJ2 hG
      rw [raiseLs_cons] at hG
      have hmx : x ∈ a.locs := hx ▸ List.getElem_mem hkt
      have hox := hl2 x hmx
      have hc := c_num2 n fso so hso x q [.var n.cells, .var [.int .i64 0, .int .i64 0, .int .i64 0], .var a.cells, .var x.cells] (by omega) hox.2.2.1 (fun g h => by rw [hJ2]; exact hgl a hm x hmx g h) (by simp [NetD.cells, AutoD.cells, LocD.cells, vl])
      have hq1 : (raiseL so x.inv q).length = q.length := raiseL_len
      have hkt' : (k : Int) < a.locs.length := by omega
      have w1 : IntKind.i64.wrap ((k : Int) + 1) = k + 1 := wI (by omega) (by omega)
      generalize raiseL so x.inv q = q' at *
      repeat' (first
 |refine aK fun K hK=>?_|refine Step.by1 ?_|refine sE (by decide) ?_|refine cz rfl ?_|refine Fork.by2 (fun h=>?_) fun h=>?_
 |(refine aR ?_;simp [vl, NetD.cells, AutoD.cells, LocD.cells, H5, hkt, hkt', hx, w1])
 |(refine Split.by2 (fun h=>?_) (fun h=>?_)<;>(simp [h, vl, NetD.cells, AutoD.cells, LocD.cells, H5, hkt, hkt', hx, w1]))
 |(refine aG (f := 64) rfl rfl (hc.imp (by simp [vl, LocD.cells]) (by simp [H5, NetD.cells, AutoD.cells, LocD.cells, vl])) rfl (fun v h' hq => ?_); obtain ⟨rfl, rfl⟩ := hq; simp [vl, H5, NetD.cells, AutoD.cells, LocD.cells])
 |(apply hK;clear hK K)|refine AWh ‹_› ?_)
      exact ⟨q', hG, by omega, by apply Weak.mk' <;> simp [vl, NetD.cells, AutoD.cells, H5]⟩
    · intro q hJ2 hG
      rw [raiseLs_nil] at hG
      subst hG
      repeat' (first
 |refine aK fun K hK=>?_|refine Step.by1 ?_|refine sE (by decide) ?_|refine cz rfl ?_|refine Fork.by2 (fun h=>?_) fun h=>?_
 |(refine aR ?_;simp [vl, NetD.cells, AutoD.cells, H5])
 |(refine Split.by2 (fun h=>?_) (fun h=>?_)<;>(simp [h, vl, NetD.cells, AutoD.cells, H5]))
 |(apply hK;clear hK K)|refine AWh ‹_› ?_)
      obtain ⟨r2, hr2⟩ : ∃ r2, raiseEs so a.edges q = r2 := ⟨_, rfl⟩
      rw [hr2] at hF
      refine AW_range (r := r2) a.edges 45 [1, 2, 6, 8, 17, 18, 19, 43, 44] (fun c : List Int => []) (fun c => H5 n fso c ++ [.var n.cells, .var [.int .i64 0, .int .i64 0, .int .i64 0], .var a.cells]) (fun i c => c.length = o.length) (raiseEs so) q
        hr2 hJ2 (by apply Weak.mk' <;> simp [vl, NetD.cells, AutoD.cells, H5]) (fun _ _ _ => by simp [H5_len]) ?_ ?_
      · intro k q2 x _ hkt hx hJ3 hG
        rw [raiseEs_cons] at hG
        have hmx : x ∈ a.edges := hx ▸ List.getElem_mem hkt
        have hox := he2 x hmx
        have hc := c_num3 n fso so hso x q2 [.var n.cells, .var [.int .i64 0, .int .i64 0, .int .i64 0], .var a.cells, .var x.cells] (by omega) hox.2.2.1.1 (fun g h => by rw [hJ3]; exact hge a hm x hmx g h) (by simp [NetD.cells, AutoD.cells, EdgeD.cells, vl])
        have hq1 : (raiseL so x.guards q2).length = q2.length := raiseL_len
        have hkt' : (k : Int) < a.edges.length := by omega
        have w1 : IntKind.i64.wrap ((k : Int) + 1) = k + 1 := wI (by omega) (by omega)
        generalize raiseL so x.guards q2 = q' at *
        repeat' (first
 |refine aK fun K hK=>?_|refine Step.by1 ?_|refine sE (by decide) ?_|refine cz rfl ?_|refine Fork.by2 (fun h=>?_) fun h=>?_
 |(refine aR ?_;simp [vl, NetD.cells, AutoD.cells, EdgeD.cells, H5, hkt, hkt', hx, w1])
 |(refine Split.by2 (fun h=>?_) (fun h=>?_)<;>(simp [h, vl, NetD.cells, AutoD.cells, EdgeD.cells, H5, hkt, hkt', hx, w1]))
 |(refine aG (f := 65) rfl rfl (hc.imp (by simp [vl, EdgeD.cells]) (by simp [H5, NetD.cells, AutoD.cells, EdgeD.cells, vl])) rfl (fun v h' hq => ?_); obtain ⟨rfl, rfl⟩ := hq; simp [vl, H5, NetD.cells, AutoD.cells, EdgeD.cells])
 |(apply hK;clear hK K)|refine AWh ‹_› ?_)
        exact ⟨q', hG, by omega, by apply Weak.mk' <;> simp [vl, NetD.cells, AutoD.cells, H5]⟩
      · intro q2 hJ3 hG
        rw [raiseEs_nil] at hG
        subst hG
        repeat' (first
 |refine aK fun K hK=>?_|refine Step.by1 ?_|refine sE (by decide) ?_|refine cz rfl ?_|refine Fork.by2 (fun h=>?_) fun h=>?_
 |(refine aR ?_;simp [vl, NetD.cells, AutoD.cells, H5, w0])
 |(refine Split.by2 (fun h=>?_) (fun h=>?_)<;>(simp [h, vl, NetD.cells, AutoD.cells, H5, w0]))
 |(apply hK;clear hK K)|refine AWh ‹_› ?_)
        exact ⟨q2, hF, hJ3, by apply Weak.mk' <;> simp [vl, NetD.cells, H5]⟩
  · intro c hJ hF
    rw [raiseAs_nil] at hF
    subst hF
    repeat' (first
 |refine aK fun K hK=>?_|refine Step.by1 ?_|refine sE (by decide) ?_|refine cz rfl ?_|refine Fork.by2 (fun h=>?_) fun h=>?_
 |(refine aR ?_;simp [vl, NetD.cells, H5])
 |(refine Split.by2 (fun h=>?_) (fun h=>?_)<;>(simp [h, vl, NetD.cells, H5]))
 |(apply hK;clear hK K)|refine AWh ‹_› ?_)
    exact retg2c (h' := H5 n fso c) rfl (by simp) ⟨by simp [spotV], rfl⟩ (by simp) (by simpa [H5, NetD.cells, vl] using Go.AM.Leaves.tail (a := H5 n fso o) (a' := H5 n fso c) (e := []) (x := [.var n.cells, .var [.int .i64 0, .int .i64 0, .int .i64 0]]) (by simp [H5_len]) (H5_lt (by simp [H5_len])))
end Go.Proofs.YtgmlimipejcpgaaDoor
end
