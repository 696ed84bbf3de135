/-
  YtgmlimipejcpgaaGreatDoorPart07: steps of the proof of a law of the program: what these texts prove holds under the hypotheses that their theorems name, and no others.
-/
import Derived.Test.YtgmlimipejcpgaaGreatDoorPart06
import Derived.Test.YtgmlimipejcpgaaGreatDoorProg
import Derived.Test.YtgmlimipejcpgaaGreatDoorPart03
import Derived.KernelRfl
section
set_option linter.unusedVariables false
set_option linter.unusedSimpArgs false
namespace Go.Proofs.YtgmlimipejcpgaaGreatDoor
open Go Go.AM Fx
/-! Networks that are looked through. -/
def anyL {α : Type} (p : α → Bool) (l : List α) : Bool := l.any p
theorem anyL_nil {α : Type} {p : α → Bool} : anyL p [] = false := rfl
theorem anyL_cons {α : Type} {p : α → Bool} {x : α} {l : List α} : anyL p (x :: l) = (p x || anyL p l) := rfl

def noLocs (a : AutoD) : Bool := decide (a.locs.length = 0)
theorem c_some1 (a : AutoD) : PC 186 [.agg a.cells] (.bool (noLocs a)) := by
  refine PCall_body Tryz.func186 rfl (by decide) Tryz.ntmps186 (by simp) Tryz.results186 ?_
  repeat' (first
 |refine AW_seq_k fun K hK=>?_|refine Step.by1 ?_|refine SBlock_exit_ne (by decide) ?_|refine cz rfl ?_|refine Fork.by2 (fun h=>?_) fun h=>?_
 |(refine AW_region_AO ?_;simp [vl, AutoD.cells])
 |(refine Split.by2 (fun h=>?_) (fun h=>?_)<;>(simp [h, vl, AutoD.cells]))
 |(apply hK;clear hK K)|refine AWh (by assumption) ?_)
  exact retq1 (conv_eq (by simp [noLocs]) rfl)

theorem c_indexNoLocs (l : List AutoD) (hl : l.length ≤ 1099511627776) : ∃ k : Int, PC 215 [vl AutoD.cells l, .fn (.func 186) [] []] (.int .i64 k) ∧ (0 ≤ k ↔ anyL noLocs l = true) := by
  by_cases hk : anyL noLocs l = true
  · -- the first one
    obtain ⟨i0, h1, h2, h3⟩ : ∃ i0, ∃ h : i0 < l.length, noLocs l[i0] = true ∧ ∀ j (hj : j < i0), noLocs (l[j]'(by omega)) = false := by
      have hx : ∃ x ∈ l, noLocs x = true := by unfold anyL at hk; rw [List.any_eq_true] at hk; exact hk
      have hlt := List.findIdx_lt_length.2 hx
      exact ⟨l.findIdx noLocs, hlt, List.findIdx_getElem (w := hlt), fun j hj => by simpa using List.not_of_lt_findIdx hj⟩
    refine ⟨i0, ?_, ⟨fun _ => hk, fun _ => by omega⟩⟩
    refine PCall_body Tryz.func215 rfl (by decide) Tryz.ntmps215 (by simp) Tryz.results215 ?_
    repeat' (first
 |refine AW_seq_k fun K hK=>?_|refine Step.by1 ?_|refine SBlock_exit_ne (by decide) ?_|refine cz rfl ?_|refine Fork.by2 (fun h=>?_) fun h=>?_
 |(refine AW_region_AO ?_;simp [vl])
 |(refine Split.by2 (fun h=>?_) (fun h=>?_)<;>(simp [h, vl]))
 |(apply hK;clear hK K)|refine AWh (by assumption) ?_)
    refine AW_loopL [0, 1, 7] (fun i : Nat => [(8, .int .i64 i)]) (fun _ => []) (fun i => i ≤ i0) (fun i => l.length - i) 0 (Nat.zero_le _) (by apply Weak.mk' <;> simp [vl]) (fun _ _ => rfl) ?_
    intro i hi
    have hlt : i < l.length := by omega
    have hc := c_some1 l[i]
    have hv : noLocs l[i] = decide (i = i0) := by
      by_cases he : i = i0
      · subst he; simp [h2]
      · simp [he, h3 i (by omega)]
    obtain ⟨x, hx⟩ : ∃ x, l[i] = x := ⟨_, rfl⟩
    rw [hx] at hc hv
    rw [hv] at hc
    simp only [AutoD.cells, vl] at hc
    repeat' (first
 |refine AW_seq_k fun K hK=>?_|refine Step.by1 ?_|refine SBlock_exit_ne (by decide) ?_|refine cz rfl ?_|refine Fork.by2 (fun h=>?_) fun h=>?_
 |((first|refine AW_region_AO ?_|refine AS_call1 (f:=186) rfl rfl (hc) rfl rfl rfl ?_);simp [vl, AutoD.cells, hlt, hx, wrap_i64];try (simp (disch:=omega) only [wrap_i64];try simp [vl, AutoD.cells, hlt, hx, wrap_i64]))
 |(refine Split.by2 (fun h=>?_) (fun h=>?_)<;>(simp [h, vl, AutoD.cells, hlt, hx, wrap_i64];try (simp (disch:=omega) only [wrap_i64];try simp [vl, AutoD.cells, hlt, hx, wrap_i64])))
 |(apply hK;clear hK K)|refine AWh (by assumption) ?_)
    all_goals first
      | exact retq1 (conv_eq (by simp [*]) rfl)
      | (refine ⟨i + 1, by omega, by omega, ?_⟩; apply Weak.mk' <;> simp [vl])
      | trace_state
  · refine ⟨-1, ?_, ⟨fun h => by omega, fun h => absurd h hk⟩⟩
    have hall : ∀ i (h : i < l.length), noLocs l[i] = false := fun i h => by
      cases hh : noLocs l[i]
      · rfl
      · exact absurd (by unfold anyL; exact List.any_eq_true.2 ⟨_, List.getElem_mem h, hh⟩) hk
    refine PCall_body Tryz.func215 rfl (by decide) Tryz.ntmps215 (by simp) Tryz.results215 ?_
    repeat' (first
 |refine AW_seq_k fun K hK=>?_|refine Step.by1 ?_|refine SBlock_exit_ne (by decide) ?_|refine cz rfl ?_|refine Fork.by2 (fun h=>?_) fun h=>?_
 |(refine AW_region_AO ?_;simp [vl])
 |(refine Split.by2 (fun h=>?_) (fun h=>?_)<;>(simp [h, vl]))
 |(apply hK;clear hK K)|refine AWh (by assumption) ?_)
    refine AW_loopL [0, 1, 7] (fun i : Nat => [(8, .int .i64 i)]) (fun _ => []) (fun i => i ≤ l.length) (fun i => l.length - i) 0 (Nat.zero_le _) (by apply Weak.mk' <;> simp [vl]) (fun _ _ => rfl) ?_
    intro i hi
    by_cases hlt : i < l.length
    · have hc := c_some1 l[i]
      rw [hall i hlt] at hc
      obtain ⟨x, hx⟩ : ∃ x, l[i] = x := ⟨_, rfl⟩
      rw [hx] at hc
      simp only [AutoD.cells, vl] at hc
      repeat' (first
 |refine AW_seq_k fun K hK=>?_|refine Step.by1 ?_|refine SBlock_exit_ne (by decide) ?_|refine cz rfl ?_|refine Fork.by2 (fun h=>?_) fun h=>?_
 |((first|refine AW_region_AO ?_|refine AS_call1 (f:=186) rfl rfl (hc) rfl rfl rfl ?_);simp [vl, AutoD.cells, hlt, hx, wrap_i64];try (simp (disch:=omega) only [wrap_i64];try simp [vl, AutoD.cells, hlt, hx, wrap_i64]))
 |(refine Split.by2 (fun h=>?_) (fun h=>?_)<;>(simp [h, vl, AutoD.cells, hlt, hx, wrap_i64];try (simp (disch:=omega) only [wrap_i64];try simp [vl, AutoD.cells, hlt, hx, wrap_i64])))
 |(apply hK;clear hK K)|refine AWh (by assumption) ?_)
      refine ⟨i + 1, by omega, by omega, ?_⟩; apply Weak.mk' <;> simp [vl]
    · repeat' (first
 |refine AW_seq_k fun K hK=>?_|refine Step.by1 ?_|refine SBlock_exit_ne (by decide) ?_|refine cz rfl ?_|refine Fork.by2 (fun h=>?_) fun h=>?_
 |(refine AW_region_AO ?_;simp [vl, hlt])
 |(refine Split.by2 (fun h=>?_) (fun h=>?_)<;>(simp [h, vl, hlt]))
 |(apply hK;clear hK K)|refine AWh (by assumption) ?_)
      exact retq1 (conv_eq rfl rfl)

def someE (n : NetD) : Int := if n.autos.length = 0 ∨ anyL noLocs n.autos = true then 2 else 0
theorem c_someE (n : NetD) (hl : n.autos.length ≤ 1099511627776) : PC 128 [.agg n.cells] (.int .i64 (someE n)) := by
  obtain ⟨k, hk, hk'⟩ := c_indexNoLocs n.autos hl
  have hcf : PC 185 [vl AutoD.cells n.autos, .fn (.func 186) [] []] (.bool (anyL noLocs n.autos)) := by
    simp only [vl] at hk
    refine PCall_body Tryz.func185 rfl (by decide) Tryz.ntmps185 (by simp) Tryz.results185 ?_
    repeat' (first
 |refine AW_seq_k fun K hK=>?_|refine Step.by1 ?_|refine SBlock_exit_ne (by decide) ?_|refine cz rfl ?_|refine Fork.by2 (fun h=>?_) fun h=>?_
 |((first|refine AW_region_AO ?_|refine AS_call1 (f:=215) rfl rfl (hk) rfl rfl rfl ?_);simp [vl])
 |(refine Split.by2 (fun h=>?_) (fun h=>?_)<;>(simp [h, vl]))
 |(apply hK;clear hK K)|refine AWh (by assumption) ?_)
    exact retq1 (conv_eq (by simp; rw [Bool.eq_iff_iff]; simp [hk']) rfl)
  simp only [vl] at hcf
  refine PCall_body Tryz.func128 rfl (by decide) Tryz.ntmps128 (by simp) Tryz.results128 ?_
  repeat' (first
 |refine AW_seq_k fun K hK=>?_|refine Step.by1 ?_|refine SBlock_exit_ne (by decide) ?_|refine cz rfl ?_|refine Fork.by2 (fun h=>?_) fun h=>?_
 |((first|refine AW_region_AO ?_|refine AS_call1 (f:=185) rfl rfl (hcf) rfl rfl rfl ?_);simp [vl, NetD.cells])
 |(refine Split.by2 (fun h=>?_) (fun h=>?_)<;>(simp [h, vl, NetD.cells]))
 |(apply hK;clear hK K)|refine AWh (by assumption) ?_)
  all_goals first
    | exact retq1 (conv_eq (by simp [someE, *]) rfl)
    | trace_state

def kindB (x : LocD) : Bool := decide (2 < x.kind)
def locsE (l : List AutoD) : Int := if anyL (fun a => anyL kindB a.locs) l then 122 else 0
theorem locsE_cons {a : AutoD} {l : List AutoD} : locsE (a :: l) = if anyL kindB a.locs = true then 122 else locsE l := by
  by_cases h : anyL kindB a.locs = true <;> simp [locsE, anyL_cons, h]
theorem c_locs (n : NetD) (hl : n.autos.length ≤ 1099511627776) (hl2 : ∀ a ∈ n.autos, a.locs.length ≤ 1099511627776) : PC 132 [.agg n.cells] (.int .i64 (locsE n.autos)) := by
  refine PCall_body Tryz.func132 rfl (by decide) Tryz.ntmps132 (by simp) Tryz.results132 ?_
  repeat' (first
 |refine AW_seq_k fun K hK=>?_|refine Step.by1 ?_|refine SBlock_exit_ne (by decide) ?_|refine cz rfl ?_|refine Fork.by2 (fun h=>?_) fun h=>?_
 |(refine AW_region_AO ?_;simp [vl, NetD.cells])
 |(refine Split.by2 (fun h=>?_) (fun h=>?_)<;>(simp [h, vl, NetD.cells]))
 |(apply hK;clear hK K)|refine AWh (by assumption) ?_)
  refine AW_scan (n.autos) 10 [8, 9] (locsE) rfl (by apply Weak.mk' <;> simp [vl]) ?_ ?_
  · intro i a _ hlt ha hF
    have hll := hl2 a (ha ▸ List.getElem_mem hlt)
    rw [locsE_cons] at hF
    repeat' (first
 |refine AW_seq_k fun K hK=>?_|refine Step.by1 ?_|refine SBlock_exit_ne (by decide) ?_|refine cz rfl ?_|refine Fork.by2 (fun h=>?_) fun h=>?_
 |(refine AW_region_AO ?_;simp [vl, AutoD.cells, hlt, ha, wrap_i64];try (simp (disch:=omega) only [wrap_i64];try simp [vl, AutoD.cells, hlt, ha, wrap_i64]))
 |(refine Split.by2 (fun h=>?_) (fun h=>?_)<;>(simp [h, vl, AutoD.cells, hlt, ha, wrap_i64];try (simp (disch:=omega) only [wrap_i64];try simp [vl, AutoD.cells, hlt, ha, wrap_i64])))
 |(apply hK;clear hK K)|refine AWh (by assumption) ?_)
    refine AW_scan (a.locs) 17 [8, 9, 10, 15, 16] (anyL kindB) rfl (by apply Weak.mk' <;> simp [vl]) ?_ ?_
    · intro k x _ hkt hx hG
      rw [anyL_cons] at hG
      repeat' (first
 |refine AW_seq_k fun K hK=>?_|refine Step.by1 ?_|refine SBlock_exit_ne (by decide) ?_|refine cz rfl ?_|refine Fork.by2 (fun h=>?_) fun h=>?_
 |(refine AW_region_AO ?_;simp [vl, LocD.cells, hkt, hx, wrap_i64];try (simp (disch:=omega) only [wrap_i64];try simp [vl, LocD.cells, hkt, hx, wrap_i64]))
 |(refine Split.by2 (fun h=>?_) (fun h=>?_)<;>(simp [h, vl, LocD.cells, hkt, hx, wrap_i64];try (simp (disch:=omega) only [wrap_i64];try simp [vl, LocD.cells, hkt, hx, wrap_i64])))
 |(apply hK;clear hK K)|refine AWh (by assumption) ?_)
      all_goals first
        | exact retq1 (conv_eq (by rw [← hF, ← hG]; simp [kindB, *]) rfl)
        | (refine ⟨by rw [← hG]; simp [kindB, *], ?_⟩; apply Weak.mk' <;> simp [vl])
        | trace_state
    · intro hG
      repeat' (first
 |refine AW_seq_k fun K hK=>?_|refine Step.by1 ?_|refine SBlock_exit_ne (by decide) ?_|refine cz rfl ?_|refine Fork.by2 (fun h=>?_) fun h=>?_
 |(refine AW_region_AO ?_;simp [vl, wrap_i64];try (simp (disch:=omega) only [wrap_i64];try simp [vl, wrap_i64]))
 |(refine Split.by2 (fun h=>?_) (fun h=>?_)<;>(simp [h, vl, wrap_i64];try (simp (disch:=omega) only [wrap_i64];try simp [vl, wrap_i64])))
 |(apply hK;clear hK K)|refine AWh (by assumption) ?_)
      all_goals first
        | (refine ⟨by rw [← hF, ← hG]; simp [anyL_nil], ?_⟩; apply Weak.mk' <;> simp [vl])
        | trace_state
  · intro hF
    repeat' (first
 |refine AW_seq_k fun K hK=>?_|refine Step.by1 ?_|refine SBlock_exit_ne (by decide) ?_|refine cz rfl ?_|refine Fork.by2 (fun h=>?_) fun h=>?_
 |(refine AW_region_AO ?_;simp [vl])
 |(refine Split.by2 (fun h=>?_) (fun h=>?_)<;>(simp [h, vl]))
 |(apply hK;clear hK K)|refine AWh (by assumption) ?_)
    exact retq1 (conv_eq (by rw [← hF]; simp [locsE, anyL_nil]) rfl)
end Go.Proofs.YtgmlimipejcpgaaGreatDoor
end

section
/-! Facts on the function types of the seat YtgmlimipejcpgaaGreatDoor, by program (wip/tools/ffacts.py). -/
set_option maxRecDepth 100000
namespace Go.Proofs.YtgmlimipejcpgaaGreatDoor
open Go.AM
namespace Fx
@[simp] theorem zo1 : (zeroOf Tryz.prog 1).isSome = true := by kernel_rfl
@[simp] theorem zd1 : zeroD Tryz.prog 1 = [.nilf] := by kernel_rfl
@[simp] theorem by1 : bytesOf Tryz.prog 1 = 8 := by kernel_rfl
@[simp] theorem zo37 : (zeroOf Tryz.prog 37).isSome = true := by kernel_rfl
@[simp] theorem zd37 : zeroD Tryz.prog 37 = [.nilf] := by kernel_rfl
@[simp] theorem by37 : bytesOf Tryz.prog 37 = 8 := by kernel_rfl
@[simp] theorem zo118 : (zeroOf Tryz.prog 118).isSome = true := by kernel_rfl
@[simp] theorem zd118 : zeroD Tryz.prog 118 = [.nilf] := by kernel_rfl
@[simp] theorem by118 : bytesOf Tryz.prog 118 = 8 := by kernel_rfl
@[simp] theorem zo119 : (zeroOf Tryz.prog 119).isSome = true := by kernel_rfl
@[simp] theorem zd119 : zeroD Tryz.prog 119 = [.nilf] := by kernel_rfl
@[simp] theorem by119 : bytesOf Tryz.prog 119 = 8 := by kernel_rfl
@[simp] theorem zo120 : (zeroOf Tryz.prog 120).isSome = true := by kernel_rfl
@[simp] theorem zd120 : zeroD Tryz.prog 120 = [.nilf] := by kernel_rfl
@[simp] theorem by120 : bytesOf Tryz.prog 120 = 8 := by kernel_rfl
@[simp] theorem zo140 : (zeroOf Tryz.prog 140).isSome = true := by kernel_rfl
@[simp] theorem zd140 : zeroD Tryz.prog 140 = [.nilf] := by kernel_rfl
@[simp] theorem by140 : bytesOf Tryz.prog 140 = 8 := by kernel_rfl
@[simp] theorem zo146 : (zeroOf Tryz.prog 146).isSome = true := by kernel_rfl
@[simp] theorem zd146 : zeroD Tryz.prog 146 = [.nilf] := by kernel_rfl
@[simp] theorem by146 : bytesOf Tryz.prog 146 = 8 := by kernel_rfl
@[simp] theorem zo147 : (zeroOf Tryz.prog 147).isSome = true := by kernel_rfl
@[simp] theorem zd147 : zeroD Tryz.prog 147 = [.nilf] := by kernel_rfl
@[simp] theorem by147 : bytesOf Tryz.prog 147 = 8 := by kernel_rfl
@[simp] theorem zo151 : (zeroOf Tryz.prog 151).isSome = true := by kernel_rfl
@[simp] theorem zd151 : zeroD Tryz.prog 151 = [.nilf] := by kernel_rfl
@[simp] theorem by151 : bytesOf Tryz.prog 151 = 8 := by kernel_rfl
@[simp] theorem zo157 : (zeroOf Tryz.prog 157).isSome = true := by kernel_rfl
@[simp] theorem zd157 : zeroD Tryz.prog 157 = [.nilf] := by kernel_rfl
@[simp] theorem by157 : bytesOf Tryz.prog 157 = 8 := by kernel_rfl
@[simp] theorem zo158 : (zeroOf Tryz.prog 158).isSome = true := by kernel_rfl
@[simp] theorem zd158 : zeroD Tryz.prog 158 = [.nilf] := by kernel_rfl
@[simp] theorem by158 : bytesOf Tryz.prog 158 = 8 := by kernel_rfl
@[simp] theorem zo159 : (zeroOf Tryz.prog 159).isSome = true := by kernel_rfl
@[simp] theorem zd159 : zeroD Tryz.prog 159 = [.nilf] := by kernel_rfl
@[simp] theorem by159 : bytesOf Tryz.prog 159 = 8 := by kernel_rfl
@[simp] theorem zo172 : (zeroOf Tryz.prog 172).isSome = true := by kernel_rfl
@[simp] theorem zd172 : zeroD Tryz.prog 172 = [.nilf] := by kernel_rfl
@[simp] theorem by172 : bytesOf Tryz.prog 172 = 8 := by kernel_rfl
@[simp] theorem zo199 : (zeroOf Tryz.prog 199).isSome = true := by kernel_rfl
@[simp] theorem zd199 : zeroD Tryz.prog 199 = [.nilf] := by kernel_rfl
@[simp] theorem by199 : bytesOf Tryz.prog 199 = 8 := by kernel_rfl
end Fx
end Go.Proofs.YtgmlimipejcpgaaGreatDoor
end

section
set_option linter.unusedVariables false
set_option linter.unusedSimpArgs false
namespace Go.Proofs.YtgmlimipejcpgaaGreatDoor
open Go Go.AM Fx
/-! A network's places, gone through with two functions that only look. -/
def firstAt {α : Type} (f : α → Int) : List α → Nat → Option (Nat × Int)
  | [], _ => none
  | x :: r, i => if f x ≠ 0 then some (i, f x) else firstAt f r (i + 1)
theorem firstAt_nil {α : Type} {f : α → Int} {i : Nat} : firstAt f [] i = none := rfl
theorem firstAt_cons {α : Type} {f : α → Int} {x : α} {r : List α} {i : Nat} : firstAt f (x :: r) i = if f x ≠ 0 then some (i, f x) else firstAt f r (i + 1) := rfl
def spotV (a l e : Int) : V := .agg [.int .i64 a, .int .i64 l, .int .i64 e]
/-- An automaton's first wrong place. -/
def searchA (pl : LocD → Int) (pe : EdgeD → Int) (a : AutoD) : Option ((Int × Int) × Int) := match firstAt pl a.locs 0 with
  | some (k, e) => some (((k : Int), -1), e)
  | none => match firstAt pe a.edges 0 with
    | some (k, e) => some ((-1, (k : Int)), e)
    | none => none
def searchE (pl : LocD → Int) (pe : EdgeD → Int) : List AutoD → Nat → (Int × Int × Int) × Int
  | [], _ => ((0, 0, 0), 0)
  | a :: r, i => match searchA pl pe a with
    | some ((l, k), e) => ((i, l, k), e)
    | none => searchE pl pe r (i + 1)
def spotE (x : (Int × Int × Int) × Int) : V := .tup [spotV x.1.1 x.1.2.1 x.1.2.2, .int .i64 x.2]
theorem searchE_nil {pl : LocD → Int} {pe : EdgeD → Int} {i : Nat} : searchE pl pe [] i = ((0, 0, 0), 0) := rfl
theorem searchE_cons {pl : LocD → Int} {pe : EdgeD → Int} {a : AutoD} {r : List AutoD} {i : Nat} : searchE pl pe (a :: r) i = match searchA pl pe a with
    | some ((l, k), e) => ((i, l, k), e)
    | none => searchE pl pe r (i + 1) := rfl
theorem retq2cs {P : Program} {st : St} {t u : Nat} {T : TypeId} {cs : List V} {off : Nat} {r : V} (hp : place st.h (lk st.tm t) = some (cs, off)) (ho : loadOk P T cs off) (hc : Conv st.h (.tup [loadV P T cs off, lk st.tm u]) r) : RetQ P #[.cell t T, .tmp u] r .ret st := retq2ct hp ho hc
set_option maxRecDepth 20000 in
set_option maxHeartbeats 8000000 in
theorem c_search (n : NetD) (hn : n.ok) (fl fe : Nat) (pl : LocD → Int) (pe : EdgeD → Int) (hl : ∀ a ∈ n.autos, ∀ x ∈ a.locs, PC fl [.agg x.cells] (.int .i64 (pl x))) (he : ∀ a ∈ n.autos, ∀ x ∈ a.edges, PC fe [.agg x.cells] (.int .i64 (pe x))) :
    PC 59 [.agg n.cells, .fn (.func fl) [] [], .fn (.func fe) [] []] (spotE (searchE pl pe n.autos 0)) := by
  obtain ⟨_, _, _, h4, h5⟩ := hn
  obtain ⟨r, hr⟩ : ∃ r, searchE pl pe n.autos 0 = r := ⟨_, rfl⟩
  rw [hr]
  refine PCall_body Tryz.func59 rfl (by decide) Tryz.ntmps59 (by simp) Tryz.results59 ?_
  repeat' (first
 |refine AW_seq_k fun K hK=>?_|refine Step.by1 ?_|refine SBlock_exit_ne (by decide) ?_|refine cz rfl ?_|refine Fork.by2 (fun h=>?_) fun h=>?_
 |(refine AW_region_AO ?_;simp [vl, NetD.cells])
 |(refine Split.by2 (fun h=>?_) (fun h=>?_)<;>(simp [h, vl, NetD.cells]))
 |(apply hK;clear hK K)|refine AWh (by assumption) ?_)
  refine AW_range (r := r) n.autos 19 [1, 2, 6, 17, 18] (fun c : Nat => []) (fun _ => [.var n.cells, .var [.int .i64 0, .int .i64 0, .int .i64 0]]) (fun i c => c = i) (searchE pl pe) 0
    hr rfl (by apply Weak.mk' <;> simp [vl, NetD.cells]) (fun _ _ _ => rfl) ?_ ?_
  · intro i c a _ hlt ha hJ hF
    subst hJ
    rw [searchE_cons] at hF
    have hm : a ∈ n.autos := ha ▸ List.getElem_mem hlt
    have hoa := h5 a hm
    obtain ⟨_, ⟨hl1, hl2⟩, he1, he2⟩ := hoa
    have hlt' : (c : Int) < n.autos.length := by omega
    have w0 : IntKind.i64.wrap ((c : Int) + 1) = c + 1 := wrap_i64 (by omega) (by omega)
    have hsA : searchA pl pe a = match firstAt pl a.locs 0 with
      | some (k, e) => some (((k : Int), -1), e)
      | none => match firstAt pe a.edges 0 with
        | some (k, e) => some ((-1, (k : Int)), e)
        | none => none := rfl
    obtain ⟨ra, hra⟩ : ∃ ra, firstAt pl a.locs 0 = ra := ⟨_, rfl⟩
    obtain ⟨re, hre⟩ : ∃ re, firstAt pe a.edges 0 = re := ⟨_, rfl⟩
    rw [hra, hre] at hsA
    rw [hsA] at hF
    clear hsA
    repeat' (first
 |refine AW_seq_k fun K hK=>?_|refine Step.by1 ?_|refine SBlock_exit_ne (by decide) ?_|refine cz rfl ?_|refine Fork.by2 (fun h=>?_) fun h=>?_
 |(refine AW_region_AO ?_;simp [vl, NetD.cells, AutoD.cells, hlt, hlt', ha])
 |(refine Split.by2 (fun h=>?_) (fun h=>?_)<;>(simp [h, vl, NetD.cells, AutoD.cells, hlt, hlt', ha]))
 |(apply hK;clear hK K)|refine AWh (by assumption) ?_)
    refine AW_range (r := ra) a.locs 27 [1, 2, 6, 8, 9, 17, 18, 19, 25, 26] (fun c : Nat => []) (fun _ => [.var n.cells, .var [.int .i64 0, .int .i64 0, .int .i64 0], .var a.cells]) (fun i c => c = i) (firstAt pl) 0
      hra rfl (by apply Weak.mk' <;> simp [vl, NetD.cells, AutoD.cells]) (fun _ _ _ => rfl) ?_ ?_
    · intro k q x _ hkt hx hJ hG
      subst hJ
      rw [firstAt_cons] at hG
      have hc := hl a hm x (hx ▸ List.getElem_mem hkt)
      have hkt' : (q : Int) < a.locs.length := by omega
      have w1 : IntKind.i64.wrap ((q : Int) + 1) = q + 1 := wrap_i64 (by omega) (by omega)
      simp only [LocD.cells, vl] at hc
      by_cases hz : pl x = 0
      · rw [if_neg (by simp [hz])] at hG
        rw [hz] at hc
        repeat' (first
 |refine AW_seq_k fun K hK=>?_|refine Step.by1 ?_|refine SBlock_exit_ne (by decide) ?_|refine cz rfl ?_|refine Fork.by2 (fun h=>?_) fun h=>?_
 |(refine AW_region_AO ?_;simp [vl, NetD.cells, AutoD.cells, LocD.cells, hkt, hkt', hx, w1])
 |(refine Split.by2 (fun h=>?_) (fun h=>?_)<;>(simp [h, vl, NetD.cells, AutoD.cells, LocD.cells, hkt, hkt', hx, w1]))
 |(refine AS_call1 (f := fl) rfl rfl hc rfl rfl rfl ?_; simp)
 |(apply hK;clear hK K)|refine AWh (by assumption) ?_)
        exact ⟨q + 1, hG, rfl, by apply Weak.mk' <;> simp [vl, NetD.cells, AutoD.cells]⟩
      · rw [if_pos hz] at hG
        subst hG
        simp only at hF
        repeat' (first
 |refine AW_seq_k fun K hK=>?_|refine Step.by1 ?_|refine SBlock_exit_ne (by decide) ?_|refine cz rfl ?_|refine Fork.by2 (fun h=>?_) fun h=>?_
 |(refine AW_region_AO ?_;simp [vl, NetD.cells, AutoD.cells, LocD.cells, hkt, hkt', hx, w1, hz])
 |(refine Split.by2 (fun h=>?_) (fun h=>?_)<;>(simp [h, vl, NetD.cells, AutoD.cells, LocD.cells, hkt, hkt', hx, w1, hz]))
 |(refine AS_call1 (f := fl) rfl rfl hc rfl rfl rfl ?_; simp [hz])
 |(apply hK;clear hK K)|refine AWh (by assumption) ?_)
        exact retq2ct rfl (by simp) (conv_eq (by rw [← hF]; simp [spotE, spotV]) (by simp))
    · intro q hJ hG
      rw [firstAt_nil] at hG
      subst hG
      simp only at hF
      repeat' (first
 |refine AW_seq_k fun K hK=>?_|refine Step.by1 ?_|refine SBlock_exit_ne (by decide) ?_|refine cz rfl ?_|refine Fork.by2 (fun h=>?_) fun h=>?_
 |(refine AW_region_AO ?_;simp [vl, NetD.cells, AutoD.cells])
 |(refine Split.by2 (fun h=>?_) (fun h=>?_)<;>(simp [h, vl, NetD.cells, AutoD.cells]))
 |(apply hK;clear hK K)|refine AWh (by assumption) ?_)
      refine AW_range (r := re) a.edges 45 [1, 2, 6, 8, 17, 18, 19, 43, 44] (fun c : Nat => []) (fun _ => [.var n.cells, .var [.int .i64 0, .int .i64 0, .int .i64 0], .var a.cells]) (fun i c => c = i) (firstAt pe) 0
        hre rfl (by apply Weak.mk' <;> simp [vl, NetD.cells, AutoD.cells]) (fun _ _ _ => rfl) ?_ ?_
      · intro k q2 y _ hkt hy hJ2 hG
        subst hJ2
        rw [firstAt_cons] at hG
        have hc := he a hm y (hy ▸ List.getElem_mem hkt)
        have hkt' : (q2 : Int) < a.edges.length := by omega
        have w1 : IntKind.i64.wrap ((q2 : Int) + 1) = q2 + 1 := wrap_i64 (by omega) (by omega)
        simp only [EdgeD.cells, vl] at hc
        by_cases hz : pe y = 0
        · rw [if_neg (by simp [hz])] at hG
          rw [hz] at hc
          repeat' (first
 |refine AW_seq_k fun K hK=>?_|refine Step.by1 ?_|refine SBlock_exit_ne (by decide) ?_|refine cz rfl ?_|refine Fork.by2 (fun h=>?_) fun h=>?_
 |(refine AW_region_AO ?_;simp [vl, NetD.cells, AutoD.cells, EdgeD.cells, hkt, hkt', hy, w1])
 |(refine Split.by2 (fun h=>?_) (fun h=>?_)<;>(simp [h, vl, NetD.cells, AutoD.cells, EdgeD.cells, hkt, hkt', hy, w1]))
 |(refine AS_call1 (f := fe) rfl rfl hc rfl rfl rfl ?_; simp)
 |(apply hK;clear hK K)|refine AWh (by assumption) ?_)
          exact ⟨q2 + 1, hG, rfl, by apply Weak.mk' <;> simp [vl, NetD.cells, AutoD.cells]⟩
        · rw [if_pos hz] at hG
          subst hG
          simp only at hF
          repeat' (first
 |refine AW_seq_k fun K hK=>?_|refine Step.by1 ?_|refine SBlock_exit_ne (by decide) ?_|refine cz rfl ?_|refine Fork.by2 (fun h=>?_) fun h=>?_
 |(refine AW_region_AO ?_;simp [vl, NetD.cells, AutoD.cells, EdgeD.cells, hkt, hkt', hy, w1, hz])
 |(refine Split.by2 (fun h=>?_) (fun h=>?_)<;>(simp [h, vl, NetD.cells, AutoD.cells, EdgeD.cells, hkt, hkt', hy, w1, hz]))
 |(refine AS_call1 (f := fe) rfl rfl hc rfl rfl rfl ?_; simp [hz])
 |(apply hK;clear hK K)|refine AWh (by assumption) ?_)
          exact retq2ct rfl (by simp) (conv_eq (by rw [← hF]; simp [spotE, spotV]) (by simp))
      · intro q2 hJ2 hG
        rw [firstAt_nil] at hG
        subst hG
        simp only at hF
        repeat' (first
 |refine AW_seq_k fun K hK=>?_|refine Step.by1 ?_|refine SBlock_exit_ne (by decide) ?_|refine cz rfl ?_|refine Fork.by2 (fun h=>?_) fun h=>?_
 |(refine AW_region_AO ?_;simp [vl, NetD.cells, AutoD.cells, w0])
 |(refine Split.by2 (fun h=>?_) (fun h=>?_)<;>(simp [h, vl, NetD.cells, AutoD.cells, w0]))
 |(apply hK;clear hK K)|refine AWh (by assumption) ?_)
        exact ⟨c + 1, hF, rfl, by apply Weak.mk' <;> simp [vl, NetD.cells]⟩
  · intro c hJ hF
    rw [searchE_nil] at hF
    repeat' (first
 |refine AW_seq_k fun K hK=>?_|refine Step.by1 ?_|refine SBlock_exit_ne (by decide) ?_|refine cz rfl ?_|refine Fork.by2 (fun h=>?_) fun h=>?_
 |(refine AW_region_AO ?_;simp [vl, NetD.cells])
 |(refine Split.by2 (fun h=>?_) (fun h=>?_)<;>(simp [h, vl, NetD.cells]))
 |(apply hK;clear hK K)|refine AWh (by assumption) ?_)
    exact retq2ct rfl (by simp) (conv_eq (by rw [← hF]; simp [spotE, spotV]) (by simp))
end Go.Proofs.YtgmlimipejcpgaaGreatDoor
end

section
set_option linter.unusedVariables false
set_option linter.unusedSimpArgs false
namespace Go.Proofs.YtgmlimipejcpgaaGreatDoor
open Go Go.AM Fx
/-! How much there is. -/
def sizeSet (s : SetD) : Bool := decide (64 < s.expr.length)
def sizeLoc (x : LocD) : Bool := decide (16 < x.inv.length)
def sizeEdge (e : EdgeD) : Bool := decide (16 < e.guards.length ∨ 16 < e.sets.length ∨ 64 < e.test.length) || anyL sizeSet e.sets
def sizeAuto (a : AutoD) : Bool := decide (64 < a.locs.length ∨ 256 < a.edges.length) || (anyL sizeLoc a.locs || anyL sizeEdge a.edges)
def sizeNet (n : NetD) : Bool := decide (8 < n.clocks.length ∨ 16 < n.vars.length ∨ 16 < n.chans.length ∨ 8 < n.autos.length) || anyL sizeAuto n.autos
def sizesE (n : NetD) : Int := if sizeNet n = true then 6 else 0

set_option maxRecDepth 8000 in
set_option maxHeartbeats 8000000 in
theorem c_sizes (n : NetD) (hn : n.ok) : PC 129 [.agg n.cells] (.int .i64 (sizesE n)) := by
  obtain ⟨⟨h1, _⟩, ⟨h2, _⟩, ⟨h3, _⟩, h4, h5⟩ := hn
  refine PCall_body Tryz.func129 rfl (by decide) Tryz.ntmps129 (by simp) Tryz.results129 ?_
  by_cases h0 : 8 < n.clocks.length ∨ 16 < n.vars.length ∨ 16 < n.chans.length ∨ 8 < n.autos.length
  · have hs : sizesE n = 6 := by simp [sizesE, sizeNet, h0]
    repeat' (first
 |refine AW_seq_k fun K hK=>?_|refine Step.by1 ?_|refine SBlock_exit_ne (by decide) ?_|refine cz rfl ?_|refine Fork.by2 (fun h=>?_) fun h=>?_
 |(refine AW_region_AO ?_;simp [vl, NetD.cells])
 |(refine Split.by2 (fun h=>?_) (fun h=>?_)<;>(simp [h, vl, NetD.cells]))
 |(apply hK;clear hK K)|refine AWh (by assumption) ?_)
    all_goals first
      | exact retq1 (conv_eq (by simp [hs]) rfl)
      | (exfalso; omega)
      | trace_state
  · have hs : sizesE n = if anyL sizeAuto n.autos = true then 6 else 0 := by simp [sizesE, sizeNet, h0]
    have k1 : ¬ (8 : Int) < n.clocks.length := by omega
    have k2 : ¬ (16 : Int) < n.vars.length := by omega
    have k3 : ¬ (16 : Int) < n.chans.length := by omega
    have k4 : ¬ (8 : Int) < n.autos.length := by omega
    rw [hs]
    obtain ⟨E, hE⟩ : ∃ E : List AutoD → Int, E = fun l => if anyL sizeAuto l = true then 6 else 0 := ⟨_, rfl⟩
    have hEc : ∀ a l, E (a :: l) = if sizeAuto a = true then 6 else E l := fun a l => by subst hE; by_cases h : sizeAuto a = true <;> simp [anyL_cons, h]
    have hEn : (if anyL sizeAuto n.autos = true then (6 : Int) else 0) = E n.autos := by subst hE; rfl
    have hE0 : E [] = 0 := by subst hE; rfl
    rw [hEn]
    repeat' (first
 |refine AW_seq_k fun K hK=>?_|refine Step.by1 ?_|refine SBlock_exit_ne (by decide) ?_|refine cz rfl ?_|refine Fork.by2 (fun h=>?_) fun h=>?_
 |(refine AW_region_AO ?_;simp [vl, NetD.cells, k1, k2, k3, k4])
 |(refine Split.by2 (fun h=>?_) (fun h=>?_)<;>(simp [h, vl, NetD.cells, k1, k2, k3, k4]))
 |(apply hK;clear hK K)|refine AWh (by assumption) ?_)
    refine AW_scan (n.autos) 36 [34, 35] (E) rfl (by apply Weak.mk' <;> simp [vl]) ?_ ?_
    · intro i a _ hlt ha hF
      have hoa := h5 a (ha ▸ List.getElem_mem hlt)
      obtain ⟨_, ⟨hl1, hl2⟩, he1, he2⟩ := hoa
      rw [hEc] at hF
      by_cases hA : 64 < a.locs.length ∨ 256 < a.edges.length
      · have hA' : sizeAuto a = true := by simp [sizeAuto, hA]
        rw [if_pos hA'] at hF
        repeat' (first
 |refine AW_seq_k fun K hK=>?_|refine Step.by1 ?_|refine SBlock_exit_ne (by decide) ?_|refine cz rfl ?_|refine Fork.by2 (fun h=>?_) fun h=>?_
 |(refine AW_region_AO ?_;simp [vl, AutoD.cells, hlt, ha, wrap_i64];try (simp (disch:=omega) only [wrap_i64];try simp [vl, AutoD.cells, hlt, ha, wrap_i64]))
 |(refine Split.by2 (fun h=>?_) (fun h=>?_)<;>(simp [h, vl, AutoD.cells, hlt, ha, wrap_i64];try (simp (disch:=omega) only [wrap_i64];try simp [vl, AutoD.cells, hlt, ha, wrap_i64])))
 |(apply hK;clear hK K)|refine AWh (by assumption) ?_)
        all_goals first
          | exact retq1 (conv_eq (by simp [← hF]) rfl)
          | (exfalso; omega)
          | trace_state
      · have hA' : sizeAuto a = (anyL sizeLoc a.locs || anyL sizeEdge a.edges) := by simp [sizeAuto, hA]
        have j1 : ¬ (64 : Int) < a.locs.length := by omega
        have j2 : ¬ (256 : Int) < a.edges.length := by omega
        rw [hA'] at hF
        repeat' (first
 |refine AW_seq_k fun K hK=>?_|refine Step.by1 ?_|refine SBlock_exit_ne (by decide) ?_|refine cz rfl ?_|refine Fork.by2 (fun h=>?_) fun h=>?_
 |(refine AW_region_AO ?_;simp [vl, AutoD.cells, hlt, ha, j1, j2, wrap_i64];try (simp (disch:=omega) only [wrap_i64];try simp [vl, AutoD.cells, hlt, ha, j1, j2, wrap_i64]))
 |(refine Split.by2 (fun h=>?_) (fun h=>?_)<;>(simp [h, vl, AutoD.cells, hlt, ha, j1, j2, wrap_i64];try (simp (disch:=omega) only [wrap_i64];try simp [vl, AutoD.cells, hlt, ha, j1, j2, wrap_i64])))
 |(apply hK;clear hK K)|refine AWh (by assumption) ?_)
        refine AW_scan (a.locs) 53 [4, 34, 35, 36, 51, 52] (anyL sizeLoc) rfl (by apply Weak.mk' <;> simp [vl]) ?_ ?_
        · intro k x _ hkt hx hG
          rw [anyL_cons] at hG
          repeat' (first
 |refine AW_seq_k fun K hK=>?_|refine Step.by1 ?_|refine SBlock_exit_ne (by decide) ?_|refine cz rfl ?_|refine Fork.by2 (fun h=>?_) fun h=>?_
 |(refine AW_region_AO ?_;simp [vl, LocD.cells, hkt, hx, wrap_i64];try (simp (disch:=omega) only [wrap_i64];try simp [vl, LocD.cells, hkt, hx, wrap_i64]))
 |(refine Split.by2 (fun h=>?_) (fun h=>?_)<;>(simp [h, vl, LocD.cells, hkt, hx, wrap_i64];try (simp (disch:=omega) only [wrap_i64];try simp [vl, LocD.cells, hkt, hx, wrap_i64])))
 |(apply hK;clear hK K)|refine AWh (by assumption) ?_)
          all_goals first
            | exact retq1 (conv_eq (by rw [← hF, ← hG]; simp [sizeLoc]; omega) rfl)
            | (refine ⟨by rw [← hG]; simp [sizeLoc]; omega, ?_⟩; apply Weak.mk' <;> simp [vl])
            | trace_state
        · intro hG
          rw [← hG, anyL_nil, Bool.false_or] at hF
          repeat' (first
 |refine AW_seq_k fun K hK=>?_|refine Step.by1 ?_|refine SBlock_exit_ne (by decide) ?_|refine cz rfl ?_|refine Fork.by2 (fun h=>?_) fun h=>?_
 |(refine AW_region_AO ?_;simp [vl, wrap_i64];try (simp (disch:=omega) only [wrap_i64];try simp [vl, wrap_i64]))
 |(refine Split.by2 (fun h=>?_) (fun h=>?_)<;>(simp [h, vl, wrap_i64];try (simp (disch:=omega) only [wrap_i64];try simp [vl, wrap_i64])))
 |(apply hK;clear hK K)|refine AWh (by assumption) ?_)
          refine AW_scan (a.edges) 65 [34, 35, 36, 63, 64] (anyL sizeEdge) rfl (by apply Weak.mk' <;> simp [vl]) ?_ ?_
          · intro m y _ hmt hy hM
            have hoy := he2 y (hy ▸ List.getElem_mem hmt)
            have ok7 := hoy.2.2.2.2.2.2.1
            rw [anyL_cons] at hM
            by_cases hY : 16 < y.guards.length ∨ 16 < y.sets.length ∨ 64 < y.test.length
            · have hY' : sizeEdge y = true := by simp [sizeEdge, hY]
              rw [hY', Bool.true_or] at hM
              rw [← hM] at hF
              repeat' (first
 |refine AW_seq_k fun K hK=>?_|refine Step.by1 ?_|refine SBlock_exit_ne (by decide) ?_|refine cz rfl ?_|refine Fork.by2 (fun h=>?_) fun h=>?_
 |(refine AW_region_AO ?_;simp [vl, EdgeD.cells, hmt, hy, wrap_i64];try (simp (disch:=omega) only [wrap_i64];try simp [vl, EdgeD.cells, hmt, hy, wrap_i64]))
 |(refine Split.by2 (fun h=>?_) (fun h=>?_)<;>(simp [h, vl, EdgeD.cells, hmt, hy, wrap_i64];try (simp (disch:=omega) only [wrap_i64];try simp [vl, EdgeD.cells, hmt, hy, wrap_i64])))
 |(apply hK;clear hK K)|refine AWh (by assumption) ?_)
              all_goals first
                | exact retq1 (conv_eq (by simp [← hF]) rfl)
                | (exfalso; omega)
                | trace_state
            · have hY' : sizeEdge y = anyL sizeSet y.sets := by simp [sizeEdge, hY]
              have i1 : ¬ (16 : Int) < y.guards.length := by omega
              have i2 : ¬ (16 : Int) < y.sets.length := by omega
              have i3 : ¬ (64 : Int) < y.test.length := by omega
              rw [hY'] at hM
              repeat' (first
 |refine AW_seq_k fun K hK=>?_|refine Step.by1 ?_|refine SBlock_exit_ne (by decide) ?_|refine cz rfl ?_|refine Fork.by2 (fun h=>?_) fun h=>?_
 |(refine AW_region_AO ?_;simp [vl, EdgeD.cells, hmt, hy, i1, i2, i3, wrap_i64];try (simp (disch:=omega) only [wrap_i64];try simp [vl, EdgeD.cells, hmt, hy, i1, i2, i3, wrap_i64]))
 |(refine Split.by2 (fun h=>?_) (fun h=>?_)<;>(simp [h, vl, EdgeD.cells, hmt, hy, i1, i2, i3, wrap_i64];try (simp (disch:=omega) only [wrap_i64];try simp [vl, EdgeD.cells, hmt, hy, i1, i2, i3, wrap_i64])))
 |(apply hK;clear hK K)|refine AWh (by assumption) ?_)
              refine AW_scan (y.sets) 88 [34, 35, 36, 63, 64, 65, 86, 87] (anyL sizeSet) rfl (by apply Weak.mk' <;> simp [vl]) ?_ ?_
              · intro q z _ hqt hz hQ
                rw [anyL_cons] at hQ
                repeat' (first
 |refine AW_seq_k fun K hK=>?_|refine Step.by1 ?_|refine SBlock_exit_ne (by decide) ?_|refine cz rfl ?_|refine Fork.by2 (fun h=>?_) fun h=>?_
 |(refine AW_region_AO ?_;simp [vl, SetD.cells, hqt, hz, wrap_i64];try (simp (disch:=omega) only [wrap_i64];try simp [vl, SetD.cells, hqt, hz, wrap_i64]))
 |(refine Split.by2 (fun h=>?_) (fun h=>?_)<;>(simp [h, vl, SetD.cells, hqt, hz, wrap_i64];try (simp (disch:=omega) only [wrap_i64];try simp [vl, SetD.cells, hqt, hz, wrap_i64])))
 |(apply hK;clear hK K)|refine AWh (by assumption) ?_)
                all_goals first
                  | exact retq1 (conv_eq (by rw [← hF, ← hM, ← hQ]; simp [sizeSet]; omega) rfl)
                  | (refine ⟨by rw [← hQ]; simp [sizeSet]; omega, ?_⟩; apply Weak.mk' <;> simp [vl])
                  | trace_state
              · intro hQ
                rw [← hQ, anyL_nil, Bool.false_or] at hM
                repeat' (first
 |refine AW_seq_k fun K hK=>?_|refine Step.by1 ?_|refine SBlock_exit_ne (by decide) ?_|refine cz rfl ?_|refine Fork.by2 (fun h=>?_) fun h=>?_
 |(refine AW_region_AO ?_;simp [vl, wrap_i64];try (simp (disch:=omega) only [wrap_i64];try simp [vl, wrap_i64]))
 |(refine Split.by2 (fun h=>?_) (fun h=>?_)<;>(simp [h, vl, wrap_i64];try (simp (disch:=omega) only [wrap_i64];try simp [vl, wrap_i64])))
 |(apply hK;clear hK K)|refine AWh (by assumption) ?_)
                all_goals first
                  | (refine ⟨hM, ?_⟩; apply Weak.mk' <;> simp [vl])
                  | trace_state
          · intro hM
            rw [← hM, anyL_nil] at hF
            repeat' (first
 |refine AW_seq_k fun K hK=>?_|refine Step.by1 ?_|refine SBlock_exit_ne (by decide) ?_|refine cz rfl ?_|refine Fork.by2 (fun h=>?_) fun h=>?_
 |(refine AW_region_AO ?_;simp [vl, wrap_i64];try (simp (disch:=omega) only [wrap_i64];try simp [vl, wrap_i64]))
 |(refine Split.by2 (fun h=>?_) (fun h=>?_)<;>(simp [h, vl, wrap_i64];try (simp (disch:=omega) only [wrap_i64];try simp [vl, wrap_i64])))
 |(apply hK;clear hK K)|refine AWh (by assumption) ?_)
            all_goals first
              | (refine ⟨by simpa using hF, ?_⟩; apply Weak.mk' <;> simp [vl])
              | trace_state
    · intro hF
      repeat' (first
 |refine AW_seq_k fun K hK=>?_|refine Step.by1 ?_|refine SBlock_exit_ne (by decide) ?_|refine cz rfl ?_|refine Fork.by2 (fun h=>?_) fun h=>?_
 |(refine AW_region_AO ?_;simp [vl])
 |(refine Split.by2 (fun h=>?_) (fun h=>?_)<;>(simp [h, vl]))
 |(apply hK;clear hK K)|refine AWh (by assumption) ?_)
      exact retq1 (conv_eq (by rw [← hF, hE0]; simp) rfl)
end Go.Proofs.YtgmlimipejcpgaaGreatDoor
end

section
set_option linter.unusedVariables false
set_option linter.unusedSimpArgs false
namespace Go.Proofs.YtgmlimipejcpgaaGreatDoor
open Go Go.AM Fx
/-! Guards and sets of a network, in order. -/
def catF {α β : Type} (f : α → List β) (l : List α) (acc : Nat × List β) : List β := acc.2 ++ l.flatMap f
theorem catF_nil {α β : Type} {f : α → List β} {acc : Nat × List β} : catF f [] acc = acc.2 := by simp [catF]
theorem catF_cons {α β : Type} {f : α → List β} {x : α} {l : List α} {acc : Nat × List β} (g : Nat) : catF f (x :: l) acc = catF f l (g, acc.2 ++ f x) := by simp [catF]
def guardsA (a : AutoD) : List GuardD := a.locs.flatMap (·.inv) ++ a.edges.flatMap (·.guards)
def guardsL (n : NetD) : List GuardD := n.autos.flatMap guardsA
def setsA (a : AutoD) : List SetD := a.edges.flatMap (·.sets)
def setsL (n : NetD) : List SetD := n.autos.flatMap setsA

/-- What a network that is not too great holds. -/
structure Small (n : NetD) : Prop where
  clocks : n.clocks.length ≤ 8
  vars : n.vars.length ≤ 16
  chans : n.chans.length ≤ 16
  autos : n.autos.length ≤ 8
  locs : ∀ a ∈ n.autos, a.locs.length ≤ 64
  edges : ∀ a ∈ n.autos, a.edges.length ≤ 256
  inv : ∀ a ∈ n.autos, ∀ x ∈ a.locs, x.inv.length ≤ 16
  guards : ∀ a ∈ n.autos, ∀ x ∈ a.edges, x.guards.length ≤ 16
  sets : ∀ a ∈ n.autos, ∀ x ∈ a.edges, x.sets.length ≤ 16
  test : ∀ a ∈ n.autos, ∀ x ∈ a.edges, x.test.length ≤ 64
  expr : ∀ a ∈ n.autos, ∀ x ∈ a.edges, ∀ s ∈ x.sets, s.expr.length ≤ 64
theorem anyL_false {α : Type} {p : α → Bool} {l : List α} (h : anyL p l = false) : ∀ x ∈ l, p x = false := by
  unfold anyL at h; rw [List.any_eq_false] at h; intro x hx; simpa using h x hx
theorem small_of {n : NetD} (h : sizeNet n = false) : Small n := by
  unfold sizeNet at h
  rw [Bool.or_eq_false_iff] at h
  obtain ⟨h1, h2⟩ := h
  simp only [decide_eq_false_iff_not] at h1
  have ha := fun a (m : a ∈ n.autos) => anyL_false h2 a m
  have hb : ∀ a ∈ n.autos, ¬ (64 < a.locs.length ∨ 256 < a.edges.length) ∧ anyL sizeLoc a.locs = false ∧ anyL sizeEdge a.edges = false := fun a m => by
    have := ha a m
    unfold sizeAuto at this
    rw [Bool.or_eq_false_iff, Bool.or_eq_false_iff] at this
    exact ⟨by simpa using this.1, this.2.1, this.2.2⟩
  have hc : ∀ a ∈ n.autos, ∀ x ∈ a.edges, ¬ (16 < x.guards.length ∨ 16 < x.sets.length ∨ 64 < x.test.length) ∧ anyL sizeSet x.sets = false := fun a m x mx => by
    have := anyL_false (hb a m).2.2 x mx
    unfold sizeEdge at this
    rw [Bool.or_eq_false_iff] at this
    exact ⟨by simpa using this.1, this.2⟩
  refine ⟨by omega, by omega, by omega, by omega, fun a m => ?_, fun a m => ?_, fun a m x mx => ?_, fun a m x mx => ?_, fun a m x mx => ?_, fun a m x mx => ?_, fun a m x mx s ms => ?_⟩
  · have := (hb a m).1; omega
  · have := (hb a m).1; omega
  · have := anyL_false (hb a m).2.1 x mx; simp [sizeLoc] at this; omega
  · have := (hc a m x mx).1; omega
  · have := (hc a m x mx).1; omega
  · have := (hc a m x mx).1; omega
  · have := anyL_false (hc a m x mx).2 s ms; simp [sizeSet] at this; omega

theorem conv1_own {h : List B} {b g : Nat} {T : TypeId} {xs : List (List V)} {n : Nat} (hb : h[b]? = some (.row T g 0 true xs)) (hn : n = xs.length) : Conv1 h (.ref b g 0 n) (.own T xs) := by subst hn; exact .inr ⟨b, g, T, xs, rfl, hb, rfl⟩
set_option maxRecDepth 8000 in
set_option maxHeartbeats 8000000 in
theorem c_guards (n : NetD) (hz : Small n) : PC 191 [.agg n.cells] (vl GuardD.cells (guardsL n)) := by
  have hgoal : PC 191 [.agg n.cells] (.own 127 ((guardsL n).map GuardD.cells)) := by
    refine PCall_body Tryz.func191 rfl (by decide) Tryz.ntmps191 (by simp) Tryz.results191 ?_
    repeat' (first
 |refine AW_nilrow 3 127 rfl (by simp) ?_
 |refine AW_seq_k fun K hK=>?_|refine Step.by1 ?_|refine SBlock_exit_ne (by decide) ?_|refine cz rfl ?_|refine Fork.by2 (fun h=>?_) fun h=>?_
 |(refine AW_region_AO ?_;simp [vl, NetD.cells])
 |(refine Split.by2 (fun h=>?_) (fun h=>?_)<;>(simp [h, vl, NetD.cells]))
 |(apply hK;clear hK K)|refine AWh (by assumption) ?_)
    refine AW_range n.autos 13 [11, 12] (fun c : Nat × List GuardD => [(3, .ref 1 c.1 0 c.2.length)]) (fun c => [.var n.cells, .row 127 c.1 0 true (c.2.map GuardD.cells)]) (fun i c => c.2.length ≤ i * 5120) (catF guardsA) (0, []) (r := guardsL n)
      (by simp [catF, guardsL]) (by simp) (by apply Weak.mk' <;> simp [vl, NetD.cells]) (fun _ _ _ => rfl) ?_ ?_
    · rintro i ⟨g, out⟩ a _ hlt ha hJ hF
      have hm : a ∈ n.autos := ha ▸ List.getElem_mem hlt
      have b1 := hz.autos
      have b2 := hz.locs a hm
      have b3 := hz.edges a hm
      simp only at hJ hF
      repeat' (first
 |refine AW_seq_k fun K hK=>?_|refine Step.by1 ?_|refine SBlock_exit_ne (by decide) ?_|refine cz rfl ?_|refine Fork.by2 (fun h=>?_) fun h=>?_
 |(refine AW_region_AO ?_;simp [vl, AutoD.cells, NetD.cells, hlt, ha, wrap_i64];try (simp (disch:=omega) only [wrap_i64];try simp [vl, AutoD.cells, NetD.cells, hlt, ha, wrap_i64]))
 |(refine Split.by2 (fun h=>?_) (fun h=>?_)<;>(simp [h, vl, AutoD.cells, NetD.cells, hlt, ha, wrap_i64];try (simp (disch:=omega) only [wrap_i64];try simp [vl, AutoD.cells, NetD.cells, hlt, ha, wrap_i64])))
 |(apply hK;clear hK K)|refine AWh (by assumption) ?_)
      obtain ⟨r1, hr1⟩ : ∃ r1, catF LocD.inv a.locs (g, out) = r1 := ⟨_, rfl⟩
      refine AW_range a.locs 20 [5, 11, 12, 13, 18, 19] (fun c : Nat × List GuardD => [(3, .ref 1 c.1 0 c.2.length)]) (fun c => [.var n.cells, .row 127 c.1 0 true (c.2.map GuardD.cells), .var a.cells]) (fun k c => c.2.length ≤ out.length + k * 16) (catF LocD.inv) (g, out) hr1
        (by simp) (by apply Weak.mk' <;> simp [vl, NetD.cells, AutoD.cells]) (fun _ _ _ => rfl) ?_ ?_
      · rintro k ⟨g1, o1⟩ x _ hkt hx hK hG
        have b4 := hz.inv a hm x (hx ▸ List.getElem_mem hkt)
        simp only at hK
        rw [catF_cons (g1 + 1)] at hG
        have htk : (x.inv.map GuardD.cells).take x.inv.length = x.inv.map GuardD.cells := List.take_of_length_le (by simp)
        have hby : (o1.length + x.inv.length) * 32 ≤ 140737488355328 := by omega
        have hlg : ∀ z : GuardD, z.cells.length = 4 := fun _ => rfl
        repeat' (first
 |refine AW_seq_k fun K hK=>?_|refine Step.by1 ?_|refine SBlock_exit_ne (by decide) ?_|refine cz rfl ?_|refine Fork.by2 (fun h=>?_) fun h=>?_
 |(refine AW_region_AO ?_;simp [vl, AutoD.cells, LocD.cells, NetD.cells, hkt, hx, htk, hby, wrap_i64];try (simp (disch:=omega) only [wrap_i64];try simp [vl, AutoD.cells, LocD.cells, NetD.cells, hkt, hx, htk, hby, wrap_i64]))
 |(refine Split.by2 (fun h=>?_) (fun h=>?_)<;>(simp [h, vl, AutoD.cells, LocD.cells, NetD.cells, hkt, hx, htk, hby, wrap_i64];try (simp (disch:=omega) only [wrap_i64];try simp [vl, AutoD.cells, LocD.cells, NetD.cells, hkt, hx, htk, hby, wrap_i64])))
 |(apply hK;clear hK K)|refine AWh (by assumption) ?_)
        exact ⟨g1 + 1, o1 ++ x.inv, hG, by simp; omega, by apply Weak.mk' <;> simp [vl, NetD.cells, AutoD.cells]⟩
      · rintro ⟨g1, o1⟩ hK hG
        rw [catF_nil] at hG
        simp only at hK hG
        subst hG
        simp only [catF] at hr1
        repeat' (first
 |refine AW_seq_k fun K hK=>?_|refine Step.by1 ?_|refine SBlock_exit_ne (by decide) ?_|refine cz rfl ?_|refine Fork.by2 (fun h=>?_) fun h=>?_
 |(refine AW_region_AO ?_;simp [vl, AutoD.cells, NetD.cells, wrap_i64];try (simp (disch:=omega) only [wrap_i64];try simp [vl, AutoD.cells, NetD.cells, wrap_i64]))
 |(refine Split.by2 (fun h=>?_) (fun h=>?_)<;>(simp [h, vl, AutoD.cells, NetD.cells, wrap_i64];try (simp (disch:=omega) only [wrap_i64];try simp [vl, AutoD.cells, NetD.cells, wrap_i64])))
 |(apply hK;clear hK K)|refine AWh (by assumption) ?_)
        obtain ⟨r2, hr2⟩ : ∃ r2, catF EdgeD.guards a.edges (g1, o1) = r2 := ⟨_, rfl⟩
        refine AW_range a.edges 32 [11, 12, 13, 30, 31] (fun c : Nat × List GuardD => [(3, .ref 1 c.1 0 c.2.length)]) (fun c => [.var n.cells, .row 127 c.1 0 true (c.2.map GuardD.cells), .var a.cells]) (fun k c => c.2.length ≤ o1.length + k * 16) (catF EdgeD.guards) (g1, o1) hr2
          (by simp) (by apply Weak.mk' <;> simp [vl, NetD.cells, AutoD.cells]) (fun _ _ _ => rfl) ?_ ?_
        · rintro k ⟨g2, o2⟩ x _ hkt hx hK2 hG
          have b4 := hz.guards a hm x (hx ▸ List.getElem_mem hkt)
          simp only at hK2
          rw [catF_cons (g2 + 1)] at hG
          have htk : (x.guards.map GuardD.cells).take x.guards.length = x.guards.map GuardD.cells := List.take_of_length_le (by simp)
          have hby : (o2.length + x.guards.length) * 32 ≤ 140737488355328 := by omega
          repeat' (first
 |refine AW_seq_k fun K hK=>?_|refine Step.by1 ?_|refine SBlock_exit_ne (by decide) ?_|refine cz rfl ?_|refine Fork.by2 (fun h=>?_) fun h=>?_
 |(refine AW_region_AO ?_;simp [vl, AutoD.cells, EdgeD.cells, NetD.cells, hkt, hx, htk, hby, wrap_i64];try (simp (disch:=omega) only [wrap_i64];try simp [vl, AutoD.cells, EdgeD.cells, NetD.cells, hkt, hx, htk, hby, wrap_i64]))
 |(refine Split.by2 (fun h=>?_) (fun h=>?_)<;>(simp [h, vl, AutoD.cells, EdgeD.cells, NetD.cells, hkt, hx, htk, hby, wrap_i64];try (simp (disch:=omega) only [wrap_i64];try simp [vl, AutoD.cells, EdgeD.cells, NetD.cells, hkt, hx, htk, hby, wrap_i64])))
 |(apply hK;clear hK K)|refine AWh (by assumption) ?_)
          exact ⟨g2 + 1, o2 ++ x.guards, hG, by simp; omega, by apply Weak.mk' <;> simp [vl, NetD.cells, AutoD.cells]⟩
        · rintro ⟨g2, o2⟩ hK2 hG
          rw [catF_nil] at hG
          simp only at hK2 hG
          subst hG
          simp only [catF] at hr2
          rw [catF_cons g2] at hF
          have ho : out ++ guardsA a = o2 := by rw [← hr2, ← hr1]; simp [guardsA]
          simp only at hF
          rw [ho] at hF
          repeat' (first
 |refine AW_seq_k fun K hK=>?_|refine Step.by1 ?_|refine SBlock_exit_ne (by decide) ?_|refine cz rfl ?_|refine Fork.by2 (fun h=>?_) fun h=>?_
 |(refine AW_region_AO ?_;simp [vl, AutoD.cells, NetD.cells, wrap_i64];try (simp (disch:=omega) only [wrap_i64];try simp [vl, AutoD.cells, NetD.cells, wrap_i64]))
 |(refine Split.by2 (fun h=>?_) (fun h=>?_)<;>(simp [h, vl, AutoD.cells, NetD.cells, wrap_i64];try (simp (disch:=omega) only [wrap_i64];try simp [vl, AutoD.cells, NetD.cells, wrap_i64])))
 |(apply hK;clear hK K)|refine AWh (by assumption) ?_)
          exact ⟨g2, o2, hF, by omega, by apply Weak.mk' <;> simp [vl, NetD.cells]⟩
    · rintro ⟨g, out⟩ hJ hF
      rw [catF_nil] at hF
      simp only at hF
      subst hF
      repeat' (first
 |refine AW_seq_k fun K hK=>?_|refine Step.by1 ?_|refine SBlock_exit_ne (by decide) ?_|refine cz rfl ?_|refine Fork.by2 (fun h=>?_) fun h=>?_
 |(refine AW_region_AO ?_;simp [vl, NetD.cells])
 |(refine Split.by2 (fun h=>?_) (fun h=>?_)<;>(simp [h, vl, NetD.cells]))
 |(apply hK;clear hK K)|refine AWh (by assumption) ?_)
      exact retq1 (.inr (.inl (conv1_own rfl (by simp))))
  have := hgoal.freeze
  simpa [vl] using this
end Go.Proofs.YtgmlimipejcpgaaGreatDoor
end

section
set_option linter.unusedVariables false
set_option linter.unusedSimpArgs false
namespace Go.Proofs.YtgmlimipejcpgaaGreatDoor
open Go Go.AM Fx
set_option maxRecDepth 8000 in
set_option maxHeartbeats 8000000 in
theorem c_sets (n : NetD) (hz : Small n) : PC 192 [.agg n.cells] (vl SetD.cells (setsL n)) := by
  have hgoal : PC 192 [.agg n.cells] (.own 116 ((setsL n).map SetD.cells)) := by
    refine PCall_body Tryz.func192 rfl (by decide) Tryz.ntmps192 (by simp) Tryz.results192 ?_
    repeat' (first
 |refine AW_nilrow 3 116 rfl (by simp) ?_
 |refine AW_seq_k fun K hK=>?_|refine Step.by1 ?_|refine SBlock_exit_ne (by decide) ?_|refine cz rfl ?_|refine Fork.by2 (fun h=>?_) fun h=>?_
 |(refine AW_region_AO ?_;simp [vl, NetD.cells])
 |(refine Split.by2 (fun h=>?_) (fun h=>?_)<;>(simp [h, vl, NetD.cells]))
 |(apply hK;clear hK K)|refine AWh (by assumption) ?_)
    refine AW_range n.autos 11 [9, 10] (fun c : Nat × List SetD => [(3, .ref 1 c.1 0 c.2.length)]) (fun c => [.var n.cells, .row 116 c.1 0 true (c.2.map SetD.cells)]) (fun i c => c.2.length ≤ i * 4096) (catF setsA) (0, []) (r := setsL n)
      (by simp [catF, setsL]) (by simp) (by apply Weak.mk' <;> simp [vl, NetD.cells]) (fun _ _ _ => rfl) ?_ ?_
    · rintro i ⟨g, out⟩ a _ hlt ha hJ hF
      have hm : a ∈ n.autos := ha ▸ List.getElem_mem hlt
      have b1 := hz.autos
      have b3 := hz.edges a hm
      simp only at hJ hF
      repeat' (first
 |refine AW_seq_k fun K hK=>?_|refine Step.by1 ?_|refine SBlock_exit_ne (by decide) ?_|refine cz rfl ?_|refine Fork.by2 (fun h=>?_) fun h=>?_
 |(refine AW_region_AO ?_;simp [vl, AutoD.cells, NetD.cells, hlt, ha, wrap_i64];try (simp (disch:=omega) only [wrap_i64];try simp [vl, AutoD.cells, NetD.cells, hlt, ha, wrap_i64]))
 |(refine Split.by2 (fun h=>?_) (fun h=>?_)<;>(simp [h, vl, AutoD.cells, NetD.cells, hlt, ha, wrap_i64];try (simp (disch:=omega) only [wrap_i64];try simp [vl, AutoD.cells, NetD.cells, hlt, ha, wrap_i64])))
 |(apply hK;clear hK K)|refine AWh (by assumption) ?_)
      obtain ⟨r2, hr2⟩ : ∃ r2, catF EdgeD.sets a.edges (g, out) = r2 := ⟨_, rfl⟩
      refine AW_range a.edges 18 [9, 10, 11, 16, 17] (fun c : Nat × List SetD => [(3, .ref 1 c.1 0 c.2.length)]) (fun c => [.var n.cells, .row 116 c.1 0 true (c.2.map SetD.cells), .var a.cells]) (fun k c => c.2.length ≤ out.length + k * 16) (catF EdgeD.sets) (g, out) hr2
        (by simp) (by apply Weak.mk' <;> simp [vl, NetD.cells, AutoD.cells]) (fun _ _ _ => rfl) ?_ ?_
      · rintro k ⟨g2, o2⟩ x _ hkt hx hK2 hG
        have b4 := hz.sets a hm x (hx ▸ List.getElem_mem hkt)
        simp only at hK2
        rw [catF_cons (g2 + 1)] at hG
        have htk : (x.sets.map SetD.cells).take x.sets.length = x.sets.map SetD.cells := List.take_of_length_le (by simp)
        have hby : (o2.length + x.sets.length) * 48 ≤ 140737488355328 := by omega
        repeat' (first
 |refine AW_seq_k fun K hK=>?_|refine Step.by1 ?_|refine SBlock_exit_ne (by decide) ?_|refine cz rfl ?_|refine Fork.by2 (fun h=>?_) fun h=>?_
 |(refine AW_region_AO ?_;simp [vl, AutoD.cells, EdgeD.cells, NetD.cells, hkt, hx, htk, hby, wrap_i64];try (simp (disch:=omega) only [wrap_i64];try simp [vl, AutoD.cells, EdgeD.cells, NetD.cells, hkt, hx, htk, hby, wrap_i64]))
 |(refine Split.by2 (fun h=>?_) (fun h=>?_)<;>(simp [h, vl, AutoD.cells, EdgeD.cells, NetD.cells, hkt, hx, htk, hby, wrap_i64];try (simp (disch:=omega) only [wrap_i64];try simp [vl, AutoD.cells, EdgeD.cells, NetD.cells, hkt, hx, htk, hby, wrap_i64])))
 |(apply hK;clear hK K)|refine AWh (by assumption) ?_)
        exact ⟨g2 + 1, o2 ++ x.sets, hG, by simp; omega, by apply Weak.mk' <;> simp [vl, NetD.cells, AutoD.cells]⟩
      · rintro ⟨g2, o2⟩ hK2 hG
        rw [catF_nil] at hG
        simp only at hK2 hG
        subst hG
        simp only [catF] at hr2
        rw [catF_cons g2] at hF
        have ho : out ++ setsA a = o2 := by rw [← hr2]; simp [setsA]
        simp only at hF
        rw [ho] at hF
        repeat' (first
 |refine AW_seq_k fun K hK=>?_|refine Step.by1 ?_|refine SBlock_exit_ne (by decide) ?_|refine cz rfl ?_|refine Fork.by2 (fun h=>?_) fun h=>?_
 |(refine AW_region_AO ?_;simp [vl, AutoD.cells, NetD.cells, wrap_i64];try (simp (disch:=omega) only [wrap_i64];try simp [vl, AutoD.cells, NetD.cells, wrap_i64]))
 |(refine Split.by2 (fun h=>?_) (fun h=>?_)<;>(simp [h, vl, AutoD.cells, NetD.cells, wrap_i64];try (simp (disch:=omega) only [wrap_i64];try simp [vl, AutoD.cells, NetD.cells, wrap_i64])))
 |(apply hK;clear hK K)|refine AWh (by assumption) ?_)
        exact ⟨g2, o2, hF, by omega, by apply Weak.mk' <;> simp [vl, NetD.cells]⟩
    · rintro ⟨g, out⟩ hJ hF
      rw [catF_nil] at hF
      simp only at hF
      subst hF
      repeat' (first
 |refine AW_seq_k fun K hK=>?_|refine Step.by1 ?_|refine SBlock_exit_ne (by decide) ?_|refine cz rfl ?_|refine Fork.by2 (fun h=>?_) fun h=>?_
 |(refine AW_region_AO ?_;simp [vl, NetD.cells])
 |(refine Split.by2 (fun h=>?_) (fun h=>?_)<;>(simp [h, vl, NetD.cells]))
 |(apply hK;clear hK K)|refine AWh (by assumption) ?_)
      exact retq1 (.inr (.inl (conv1_own rfl (by simp))))
  have := hgoal.freeze
  simpa [vl] using this

def locNamesL (a : AutoD) : List ByteArray := a.locs.map (·.name)
set_option maxHeartbeats 8000000 in
theorem c_locNames (a : AutoD) (ha : a.locs.length ≤ 1048576) : PC 189 [.agg a.cells] (vl (fun s => [V.str s]) (locNamesL a)) := by
  have hgoal : PC 189 [.agg a.cells] (.own 9 ((locNamesL a).map fun s => [V.str s])) := by
    refine PCall_body Tryz.func189 rfl (by decide) Tryz.ntmps189 (by simp) Tryz.results189 ?_
    repeat' (first
 |refine AW_nilrow 3 9 rfl (by simp) ?_
 |refine AW_seq_k fun K hK=>?_|refine Step.by1 ?_|refine SBlock_exit_ne (by decide) ?_|refine cz rfl ?_|refine Fork.by2 (fun h=>?_) fun h=>?_
 |(refine AW_region_AO ?_;simp [vl, AutoD.cells])
 |(refine Split.by2 (fun h=>?_) (fun h=>?_)<;>(simp [h, vl, AutoD.cells]))
 |(apply hK;clear hK K)|refine AWh (by assumption) ?_)
    refine AW_range a.locs 9 [7, 8] (fun c : Nat × List ByteArray => [(3, .ref 1 c.1 0 c.2.length)]) (fun c => [.var a.cells, .row 9 c.1 0 true (c.2.map fun s => [V.str s])]) (fun i c => c.2.length = i) (catF fun x : LocD => [x.name]) (0, []) (r := locNamesL a)
      (by simp [catF, locNamesL, List.flatMap_singleton']; try exact (List.map_eq_flatMap ..).symm) (by simp) (by apply Weak.mk' <;> simp [vl, AutoD.cells]) (fun _ _ _ => rfl) ?_ ?_
    · rintro i ⟨g, out⟩ x _ hlt hx hJ hF
      simp only at hJ
      rw [catF_cons (g + 1)] at hF
      have hby : (out.length + 1) * 16 ≤ 140737488355328 := by omega
      repeat' (first
 |refine AW_seq_k fun K hK=>?_|refine Step.by1 ?_|refine SBlock_exit_ne (by decide) ?_|refine cz rfl ?_|refine Fork.by2 (fun h=>?_) fun h=>?_
 |(refine AW_region_AO ?_;simp [vl, AutoD.cells, LocD.cells, hlt, hx, hby, wrap_i64];try (simp (disch:=omega) only [wrap_i64];try simp [vl, AutoD.cells, LocD.cells, hlt, hx, hby, wrap_i64]))
 |(refine Split.by2 (fun h=>?_) (fun h=>?_)<;>(simp [h, vl, AutoD.cells, LocD.cells, hlt, hx, hby, wrap_i64];try (simp (disch:=omega) only [wrap_i64];try simp [vl, AutoD.cells, LocD.cells, hlt, hx, hby, wrap_i64])))
 |(apply hK;clear hK K)|refine AWh (by assumption) ?_)
      exact ⟨g + 1, out ++ [x.name], hF, by simp; omega, by apply Weak.mk' <;> simp [vl, AutoD.cells]⟩
    · rintro ⟨g, out⟩ hJ hF
      rw [catF_nil] at hF
      simp only at hF
      subst hF
      repeat' (first
 |refine AW_seq_k fun K hK=>?_|refine Step.by1 ?_|refine SBlock_exit_ne (by decide) ?_|refine cz rfl ?_|refine Fork.by2 (fun h=>?_) fun h=>?_
 |(refine AW_region_AO ?_;simp [vl, AutoD.cells])
 |(refine Split.by2 (fun h=>?_) (fun h=>?_)<;>(simp [h, vl, AutoD.cells]))
 |(apply hK;clear hK K)|refine AWh (by assumption) ?_)
      exact retq1 (.inr (.inl (conv1_own rfl (by simp))))
  have := hgoal.freeze
  simpa [vl] using this

def namesL (n : NetD) : List ByteArray := n.vars.map (·.name)
set_option maxHeartbeats 8000000 in
theorem c_Names (n : NetD) (ha : n.vars.length ≤ 1048576) : PC 218 [.agg n.cells] (vl (fun s => [V.str s]) (namesL n)) := by
  have hgoal : PC 218 [.agg n.cells] (.own 9 ((namesL n).map fun s => [V.str s])) := by
    refine PCall_body Tryz.func218 rfl (by decide) Tryz.ntmps218 (by simp) Tryz.results218 ?_
    repeat' (first
 |refine AW_nilrow 3 9 rfl (by simp) ?_
 |refine AW_seq_k fun K hK=>?_|refine Step.by1 ?_|refine SBlock_exit_ne (by decide) ?_|refine cz rfl ?_|refine Fork.by2 (fun h=>?_) fun h=>?_
 |(refine AW_region_AO ?_;simp [vl, NetD.cells])
 |(refine Split.by2 (fun h=>?_) (fun h=>?_)<;>(simp [h, vl, NetD.cells]))
 |(apply hK;clear hK K)|refine AWh (by assumption) ?_)
    refine AW_range n.vars 9 [7, 8] (fun c : Nat × List ByteArray => [(3, .ref 1 c.1 0 c.2.length)]) (fun c => [.var n.cells, .row 9 c.1 0 true (c.2.map fun s => [V.str s])]) (fun i c => c.2.length = i) (catF fun x : VarD => [x.name]) (0, []) (r := namesL n)
      (by simp [catF, namesL, List.flatMap_singleton']; try exact (List.map_eq_flatMap ..).symm) (by simp) (by apply Weak.mk' <;> simp [vl, NetD.cells]) (fun _ _ _ => rfl) ?_ ?_
    · rintro i ⟨g, out⟩ x _ hlt hx hJ hF
      simp only at hJ
      rw [catF_cons (g + 1)] at hF
      have hby : (out.length + 1) * 16 ≤ 140737488355328 := by omega
      repeat' (first
 |refine AW_seq_k fun K hK=>?_|refine Step.by1 ?_|refine SBlock_exit_ne (by decide) ?_|refine cz rfl ?_|refine Fork.by2 (fun h=>?_) fun h=>?_
 |(refine AW_region_AO ?_;simp [vl, NetD.cells, VarD.cells, hlt, hx, hby, wrap_i64];try (simp (disch:=omega) only [wrap_i64];try simp [vl, NetD.cells, VarD.cells, hlt, hx, hby, wrap_i64]))
 |(refine Split.by2 (fun h=>?_) (fun h=>?_)<;>(simp [h, vl, NetD.cells, VarD.cells, hlt, hx, hby, wrap_i64];try (simp (disch:=omega) only [wrap_i64];try simp [vl, NetD.cells, VarD.cells, hlt, hx, hby, wrap_i64])))
 |(apply hK;clear hK K)|refine AWh (by assumption) ?_)
      exact ⟨g + 1, out ++ [x.name], hF, by simp; omega, by apply Weak.mk' <;> simp [vl, NetD.cells]⟩
    · rintro ⟨g, out⟩ hJ hF
      rw [catF_nil] at hF
      simp only at hF
      subst hF
      repeat' (first
 |refine AW_seq_k fun K hK=>?_|refine Step.by1 ?_|refine SBlock_exit_ne (by decide) ?_|refine cz rfl ?_|refine Fork.by2 (fun h=>?_) fun h=>?_
 |(refine AW_region_AO ?_;simp [vl, NetD.cells])
 |(refine Split.by2 (fun h=>?_) (fun h=>?_)<;>(simp [h, vl, NetD.cells]))
 |(apply hK;clear hK K)|refine AWh (by assumption) ?_)
      exact retq1 (.inr (.inl (conv1_own rfl (by simp))))
  have := hgoal.freeze
  simpa [vl] using this
end Go.Proofs.YtgmlimipejcpgaaGreatDoor
end

section
set_option linter.unusedVariables false
set_option linter.unusedSimpArgs false
namespace Go.Proofs.YtgmlimipejcpgaaGreatDoor
open Go Go.AM Fx
theorem flat_len {α β : Type} {f : α → List β} {c : Nat} : ∀ {l : List α}, (∀ x ∈ l, (f x).length ≤ c) → (l.flatMap f).length ≤ l.length * c
  | [], _ => by simp
  | x :: r, h => by
    have h1 := h x (.head _)
    have h2 := flat_len (f := f) (c := c) (l := r) fun y hy => h y (.tail _ hy)
    simp only [List.flatMap_cons, List.length_append, List.length_cons, Nat.add_mul, Nat.one_mul]; omega
theorem guardsA_len {n : NetD} (hz : Small n) {a : AutoD} (ha : a ∈ n.autos) : (guardsA a).length ≤ 5120 := by
  have h1 := flat_len (f := fun x : LocD => x.inv) (c := 16) (hz.inv a ha)
  have h2 := flat_len (f := fun x : EdgeD => x.guards) (c := 16) (hz.guards a ha)
  have h3 := hz.locs a ha
  have h4 := hz.edges a ha
  unfold guardsA; rw [List.length_append]; omega
theorem guardsL_len {n : NetD} (hz : Small n) : (guardsL n).length ≤ 40960 := by
  have h1 := flat_len (f := guardsA) (c := 5120) (fun a ha => guardsA_len hz ha)
  have := hz.autos
  unfold guardsL; omega
theorem setsL_len {n : NetD} (hz : Small n) : (setsL n).length ≤ 32768 := by
  have h1 := flat_len (l := n.autos) (f := setsA) (c := 4096) (fun a ha => by
    have h2 := flat_len (f := fun x : EdgeD => x.sets) (c := 16) (hz.sets a ha)
    have h4 := hz.edges a ha
    unfold setsA; omega)
  have := hz.autos
  unfold setsL; omega

def clkS (n : NetD) (s : SetD) : Bool := decide (s.clock ≠ 0) && !isClk n s.clock
def clocksE (n : NetD) : Int := if clkE n (guardsL n) ≠ 0 then clkE n (guardsL n) else if anyL (clkS n) (setsL n) = true then 12 else 0
set_option maxRecDepth 8000 in
set_option maxHeartbeats 8000000 in
theorem c_clocks (n : NetD) (hz : Small n) : PC 134 [.agg n.cells] (.int .i64 (clocksE n)) := by
  have hg := c_guards n hz
  have hs := c_sets n hz
  have hk := c_clkE n (guardsL n) (by have := guardsL_len hz; omega)
  have hsl := setsL_len hz
  by_cases h0 : clkE n (guardsL n) = 0
  · have hr : clocksE n = if anyL (clkS n) (setsL n) = true then 12 else 0 := by simp [clocksE, h0]
    rw [hr]
    rw [h0] at hk
    obtain ⟨E, hE⟩ : ∃ E : List SetD → Int, E = fun l => if anyL (clkS n) l = true then 12 else 0 := ⟨_, rfl⟩
    have hEc : ∀ a l, E (a :: l) = if clkS n a = true then 12 else E l := fun a l => by subst hE; by_cases h : clkS n a = true <;> simp [anyL_cons, h]
    have hEn : (if anyL (clkS n) (setsL n) = true then (12 : Int) else 0) = E (setsL n) := by subst hE; rfl
    have hE0 : E [] = 0 := by subst hE; rfl
    rw [hEn]
    generalize setsL n = ss at *
    generalize guardsL n = gs at *
    simp only [NetD.cells, vl] at hg hs hk
    refine PCall_body Tryz.func134 rfl (by decide) Tryz.ntmps134 (by simp) Tryz.results134 ?_
    repeat' (first
 |refine AW_seq_k fun K hK=>?_|refine Step.by1 ?_|refine SBlock_exit_ne (by decide) ?_|refine cz rfl ?_|refine Fork.by2 (fun h=>?_) fun h=>?_
 |((first|refine AW_region_AO ?_|refine AW_region_APx (id:=1) 5 mixed (by decide) ?_|refine AS_call1 (f:=191) rfl rfl (hg) rfl rfl rfl ?_|refine AP_call1 (f:=191) rfl rfl (hg) rfl rfl rfl ?_|refine AP_call1 (f:=148) rfl rfl (hk) rfl rfl rfl ?_|refine AS_call1 (f:=148) rfl rfl (hk) rfl rfl rfl ?_|refine AS_call1 (f:=192) rfl rfl (hs) rfl rfl rfl ?_);simp [vl, NetD.cells])
 |(refine Split.by2 (fun h=>?_) (fun h=>?_)<;>(simp [h, vl, NetD.cells]))
 |(apply hK;clear hK K)|refine AWh (by assumption) ?_)
    refine AW_scan (ss) 16 [1, 14, 15] (E) rfl (by apply Weak.mk' <;> simp [vl]) ?_ ?_
    · intro i x _ hlt hx hF
      rw [hEc] at hF
      have hc1 := c_isClock n x.clock
      simp only [NetD.cells, vl] at hc1
      generalize hk1 : isClk n x.clock = k1 at hc1
      repeat' (first
 |refine AW_seq_k fun K hK=>?_|refine Step.by1 ?_|refine SBlock_exit_ne (by decide) ?_|refine cz rfl ?_|refine Fork.by2 (fun h=>?_) fun h=>?_
 |((first|refine AW_region_AO ?_|refine AS_call1 (f:=193) rfl rfl (hc1) rfl rfl rfl ?_);simp [vl, SetD.cells, NetD.cells, hlt, hx, wrap_i64];try (simp (disch:=omega) only [wrap_i64];try simp [vl, SetD.cells, NetD.cells, hlt, hx, wrap_i64]))
 |(refine Split.by2 (fun h=>?_) (fun h=>?_)<;>(simp [h, vl, SetD.cells, NetD.cells, hlt, hx, wrap_i64];try (simp (disch:=omega) only [wrap_i64];try simp [vl, SetD.cells, NetD.cells, hlt, hx, wrap_i64])))
 |(apply hK;clear hK K)|refine AWh (by assumption) ?_)
      all_goals first
        | exact retq1 (conv_eq (by rw [← hF]; simp [clkS, *]) rfl)
        | (refine ⟨by rw [← hF]; simp [clkS, *], ?_⟩; apply Weak.mk' <;> simp [vl, NetD.cells])
        | trace_state
    · intro hF
      repeat' (first
 |refine AW_seq_k fun K hK=>?_|refine Step.by1 ?_|refine SBlock_exit_ne (by decide) ?_|refine cz rfl ?_|refine Fork.by2 (fun h=>?_) fun h=>?_
 |(refine AW_region_AO ?_;simp [vl, NetD.cells])
 |(refine Split.by2 (fun h=>?_) (fun h=>?_)<;>(simp [h, vl, NetD.cells]))
 |(apply hK;clear hK K)|refine AWh (by assumption) ?_)
      exact retq1 (conv_eq (by rw [← hF, hE0]; simp) rfl)
  · have hr : clocksE n = clkE n (guardsL n) := by simp [clocksE, h0]
    rw [hr]
    generalize clkE n (guardsL n) = k at *
    generalize guardsL n = gs at *
    simp only [NetD.cells, vl] at hg hk
    refine PCall_body Tryz.func134 rfl (by decide) Tryz.ntmps134 (by simp) Tryz.results134 ?_
    repeat' (first
 |refine AW_seq_k fun K hK=>?_|refine Step.by1 ?_|refine SBlock_exit_ne (by decide) ?_|refine cz rfl ?_|refine Fork.by2 (fun h=>?_) fun h=>?_
 |((first|refine AW_region_AO ?_|refine AW_region_APx (id:=1) 5 mixed (by decide) ?_|refine AS_call1 (f:=191) rfl rfl (hg) rfl rfl rfl ?_|refine AP_call1 (f:=191) rfl rfl (hg) rfl rfl rfl ?_|refine AP_call1 (f:=148) rfl rfl (hk) rfl rfl rfl ?_|refine AS_call1 (f:=148) rfl rfl (hk) rfl rfl rfl ?_);simp [vl, NetD.cells, h0])
 |(refine Split.by2 (fun h=>?_) (fun h=>?_)<;>(simp [h, vl, NetD.cells, h0]))
 |(apply hK;clear hK K)|refine AWh (by assumption) ?_)
    exact retq1 (conv_eq rfl rfl)

def formS (s : SetD) : Bool := decide (s.clock = 0 ∧ s.n ≠ 0 ∨ s.clock ≠ 0 ∧ (s.var ≠ 0 ∨ 0 < s.expr.length))
def formsE (n : NetD) : Int := if cmpE (guardsL n) ≠ 0 then cmpE (guardsL n) else if anyL formS (setsL n) = true then 7 else 0
set_option maxRecDepth 8000 in
set_option maxHeartbeats 8000000 in
theorem c_forms (n : NetD) (hz : Small n) : PC 135 [.agg n.cells] (.int .i64 (formsE n)) := by
  have hg := c_guards n hz
  have hs := c_sets n hz
  have hk := c_cmpE (guardsL n) (by have := guardsL_len hz; omega)
  have hsl := setsL_len hz
  by_cases h0 : cmpE (guardsL n) = 0
  · have hr : formsE n = if anyL formS (setsL n) = true then 7 else 0 := by simp [formsE, h0]
    rw [hr]
    rw [h0] at hk
    obtain ⟨E, hE⟩ : ∃ E : List SetD → Int, E = fun l => if anyL formS l = true then 7 else 0 := ⟨_, rfl⟩
    have hEc : ∀ a l, E (a :: l) = if formS a = true then 7 else E l := fun a l => by subst hE; by_cases h : formS a = true <;> simp [anyL_cons, h]
    have hEn : (if anyL formS (setsL n) = true then (7 : Int) else 0) = E (setsL n) := by subst hE; rfl
    have hE0 : E [] = 0 := by subst hE; rfl
    rw [hEn]
    generalize setsL n = ss at *
    generalize guardsL n = gs at *
    simp only [NetD.cells, vl] at hg hs hk
    refine PCall_body Tryz.func135 rfl (by decide) Tryz.ntmps135 (by simp) Tryz.results135 ?_
    repeat' (first
 |refine AW_seq_k fun K hK=>?_|refine Step.by1 ?_|refine SBlock_exit_ne (by decide) ?_|refine cz rfl ?_|refine Fork.by2 (fun h=>?_) fun h=>?_
 |((first|refine AW_region_AO ?_|refine AS_call1 (f:=191) rfl rfl (hg) rfl rfl rfl ?_|refine AS_call1 (f:=150) rfl rfl (hk) rfl rfl rfl ?_|refine AS_call1 (f:=192) rfl rfl (hs) rfl rfl rfl ?_);simp [vl, NetD.cells])
 |(refine Split.by2 (fun h=>?_) (fun h=>?_)<;>(simp [h, vl, NetD.cells]))
 |(apply hK;clear hK K)|refine AWh (by assumption) ?_)
    refine AW_scan (ss) 15 [13, 14] (E) rfl (by apply Weak.mk' <;> simp [vl]) ?_ ?_
    · intro i x _ hlt hx hF
      rw [hEc] at hF
      repeat' (first
 |refine AW_seq_k fun K hK=>?_|refine Step.by1 ?_|refine SBlock_exit_ne (by decide) ?_|refine cz rfl ?_|refine Fork.by2 (fun h=>?_) fun h=>?_
 |(refine AW_region_AO ?_;simp [vl, SetD.cells, NetD.cells, hlt, hx, wrap_i64];try (simp (disch:=omega) only [wrap_i64];try simp [vl, SetD.cells, NetD.cells, hlt, hx, wrap_i64]))
 |(refine Split.by2 (fun h=>?_) (fun h=>?_)<;>(simp [h, vl, SetD.cells, NetD.cells, hlt, hx, wrap_i64];try (simp (disch:=omega) only [wrap_i64];try simp [vl, SetD.cells, NetD.cells, hlt, hx, wrap_i64])))
 |(apply hK;clear hK K)|refine AWh (by assumption) ?_)
      all_goals first
        | exact retq1 (conv_eq (by rw [← hF]; simp [formS, *]) rfl)
        | exact retq1 (conv_eq (by rw [← hF]; simp [formS, *]; omega) rfl)
        | (refine ⟨by rw [← hF]; simp [formS, *]; done, ?_⟩; apply Weak.mk' <;> simp [vl, NetD.cells])
        | (refine ⟨by rw [← hF]; simp [formS, *]; omega, ?_⟩; apply Weak.mk' <;> simp [vl, NetD.cells])
        | trace_state
    · intro hF
      repeat' (first
 |refine AW_seq_k fun K hK=>?_|refine Step.by1 ?_|refine SBlock_exit_ne (by decide) ?_|refine cz rfl ?_|refine Fork.by2 (fun h=>?_) fun h=>?_
 |(refine AW_region_AO ?_;simp [vl, NetD.cells])
 |(refine Split.by2 (fun h=>?_) (fun h=>?_)<;>(simp [h, vl, NetD.cells]))
 |(apply hK;clear hK K)|refine AWh (by assumption) ?_)
      exact retq1 (conv_eq (by rw [← hF, hE0]; simp) rfl)
  · have hr : formsE n = cmpE (guardsL n) := by simp [formsE, h0]
    rw [hr]
    generalize cmpE (guardsL n) = k at *
    generalize guardsL n = gs at *
    simp only [NetD.cells, vl] at hg hk
    refine PCall_body Tryz.func135 rfl (by decide) Tryz.ntmps135 (by simp) Tryz.results135 ?_
    repeat' (first
 |refine AW_seq_k fun K hK=>?_|refine Step.by1 ?_|refine SBlock_exit_ne (by decide) ?_|refine cz rfl ?_|refine Fork.by2 (fun h=>?_) fun h=>?_
 |((first|refine AW_region_AO ?_|refine AS_call1 (f:=191) rfl rfl (hg) rfl rfl rfl ?_|refine AS_call1 (f:=150) rfl rfl (hk) rfl rfl rfl ?_);simp [vl, NetD.cells, h0])
 |(refine Split.by2 (fun h=>?_) (fun h=>?_)<;>(simp [h, vl, NetD.cells, h0]))
 |(apply hK;clear hK K)|refine AWh (by assumption) ?_)
    exact retq1 (conv_eq rfl rfl)
end Go.Proofs.YtgmlimipejcpgaaGreatDoor
end

section
set_option linter.unusedVariables false
set_option linter.unusedSimpArgs false
namespace Go.Proofs.YtgmlimipejcpgaaGreatDoor
open Go Go.AM Fx
/-! Edges' ends and channels. -/
def isLoc (a : AutoD) (c : Int) : Bool := decide (0 ≤ c ∧ c < a.locs.length)
theorem c_edgesIs (a : AutoD) (c : Int) (hp : List B) (b : Nat) (hb : hp[b]? = some (.var a.cells)) : GCall Tryz.prog GV 190 [.int .i64 c, .ptr b 0] hp (fun v h' => v = .bool (isLoc a c) ∧ h' = hp) := by
  simp only [AutoD.cells, vl] at hb
  refine GCall_body Tryz.func190 rfl (by decide) Tryz.ntmps190 (by simp) Tryz.results190 ?_
  repeat' (first
 |refine AW_seq_k fun K hK=>?_|refine Step.by1 ?_|refine SBlock_exit_ne (by decide) ?_|refine cz rfl ?_|refine Fork.by2 (fun h=>?_) fun h=>?_
 |(refine AW_region_AO ?_;simp [hb])
 |(refine Split.by2 (fun h=>?_) (fun h=>?_)<;>(simp [h, hb]))
 |(apply hK;clear hK K)|refine AWh (by assumption) ?_)
  all_goals first
    | exact retg1 (h' := hp) ⟨by simp [isLoc, *], rfl⟩ rfl Leaves.refl
    | trace_state
def edgeB (n : NetD) (a : AutoD) (e : EdgeD) : Bool := !isLoc a e.frm || (!isLoc a e.to || (decide (e.chan < 0 ∨ n.chans.length < e.chan) || (e.send && decide (e.chan = 0))))
def edgesE (n : NetD) (l : List AutoD) : Int := if anyL (fun a => anyL (edgeB n a) a.edges) l then 123 else 0
theorem edgesE_cons {n : NetD} {a : AutoD} {l : List AutoD} : edgesE n (a :: l) = if anyL (edgeB n a) a.edges = true then 123 else edgesE n l := by
  by_cases h : anyL (edgeB n a) a.edges = true <;> simp [edgesE, anyL_cons, h]
set_option maxRecDepth 8000 in
set_option maxHeartbeats 8000000 in
theorem c_edges (n : NetD) (hn : n.ok) : PC 133 [.agg n.cells] (.int .i64 (edgesE n n.autos)) := by
  obtain ⟨⟨h1, _⟩, ⟨h2, _⟩, ⟨h3, _⟩, h4, h5⟩ := hn
  refine PCall_body Tryz.func133 rfl (by decide) Tryz.ntmps133 (by simp) Tryz.results133 ?_
  repeat' (first
 |refine AW_seq_k fun K hK=>?_|refine Step.by1 ?_|refine SBlock_exit_ne (by decide) ?_|refine cz rfl ?_|refine Fork.by2 (fun h=>?_) fun h=>?_
 |(refine AW_region_AO ?_;simp [vl, NetD.cells])
 |(refine Split.by2 (fun h=>?_) (fun h=>?_)<;>(simp [h, vl, NetD.cells]))
 |(apply hK;clear hK K)|refine AWh (by assumption) ?_)
  refine AW_scan (n.autos) 11 [1, 9, 10] (edgesE n) rfl (by apply Weak.mk' <;> simp [vl]) ?_ ?_
  · intro i a _ hlt ha hF
    have hoa := h5 a (ha ▸ List.getElem_mem hlt)
    obtain ⟨_, ⟨hl1, hl2⟩, he1, he2⟩ := hoa
    rw [edgesE_cons] at hF
    repeat' (first
 |refine AW_seq_k fun K hK=>?_|refine Step.by1 ?_|refine SBlock_exit_ne (by decide) ?_|refine cz rfl ?_|refine Fork.by2 (fun h=>?_) fun h=>?_
 |(refine AW_region_AO ?_;simp [vl, AutoD.cells, hlt, ha, wrap_i64];try (simp (disch:=omega) only [wrap_i64];try simp [vl, AutoD.cells, hlt, ha, wrap_i64]))
 |(refine Split.by2 (fun h=>?_) (fun h=>?_)<;>(simp [h, vl, AutoD.cells, hlt, ha, wrap_i64];try (simp (disch:=omega) only [wrap_i64];try simp [vl, AutoD.cells, hlt, ha, wrap_i64])))
 |(apply hK;clear hK K)|refine AWh (by assumption) ?_)
    refine AW_scan (a.edges) 19 [1, 5, 9, 10, 11, 17, 18] (anyL (edgeB n a)) rfl (by apply Weak.mk' <;> simp [vl]) ?_ ?_
    · intro m y _ hmt hy hM
      rw [anyL_cons] at hM
      have hg1 := c_edgesIs a y.frm
      have hg2 := c_edgesIs a y.to
      simp only [AutoD.cells, vl] at hg1 hg2
      generalize hk1 : isLoc a y.frm = k1 at hg1
      generalize hk2 : isLoc a y.to = k2 at hg2
      repeat' (first
 |refine AW_seq_k fun K hK=>?_|refine Step.by1 ?_|refine SBlock_exit_ne (by decide) ?_|refine cz rfl ?_|refine Fork.by2 (fun h=>?_) fun h=>?_
 |(refine AW_region_AO ?_;simp [vl, EdgeD.cells, hmt, hy, wrap_i64];try (simp (disch:=omega) only [wrap_i64];try simp [vl, EdgeD.cells, hmt, hy, wrap_i64]))
 |(refine Split.by2 (fun h=>?_) (fun h=>?_)<;>(simp [h, vl, EdgeD.cells, hmt, hy, wrap_i64];try (simp (disch:=omega) only [wrap_i64];try simp [vl, EdgeD.cells, hmt, hy, wrap_i64])))
 |(refine AS_callG (f := 190) rfl rfl (hg1 _ 1 rfl) rfl (fun v h' hq => ?_); obtain ⟨rfl, rfl⟩ := hq; simp [vl])
 |(refine AS_callG (f := 190) rfl rfl (hg2 _ 1 rfl) rfl (fun v h' hq => ?_); obtain ⟨rfl, rfl⟩ := hq; simp [vl])
 |(apply hK;clear hK K)|refine AWh (by assumption) ?_)
      all_goals first
        | exact retq1 (conv_eq (by rw [← hF, ← hM]; simp [edgeB, *]) rfl)
        | (refine ⟨by rw [← hM]; simp [edgeB, *]; done, ?_⟩; apply Weak.mk' <;> simp [vl, AutoD.cells])
        | (refine ⟨by rw [← hM]; simp [edgeB, *]; omega, ?_⟩; apply Weak.mk' <;> simp [vl, AutoD.cells])
        | trace_state
    · intro hM
      rw [← hM, anyL_nil] at hF
      repeat' (first
 |refine AW_seq_k fun K hK=>?_|refine Step.by1 ?_|refine SBlock_exit_ne (by decide) ?_|refine cz rfl ?_|refine Fork.by2 (fun h=>?_) fun h=>?_
 |(refine AW_region_AO ?_;simp [vl, wrap_i64];try (simp (disch:=omega) only [wrap_i64];try simp [vl, wrap_i64]))
 |(refine Split.by2 (fun h=>?_) (fun h=>?_)<;>(simp [h, vl, wrap_i64];try (simp (disch:=omega) only [wrap_i64];try simp [vl, wrap_i64])))
 |(apply hK;clear hK K)|refine AWh (by assumption) ?_)
      all_goals first
        | (refine ⟨by simpa using hF, ?_⟩; apply Weak.mk' <;> simp [vl])
        | trace_state
  · intro hF
    repeat' (first
 |refine AW_seq_k fun K hK=>?_|refine Step.by1 ?_|refine SBlock_exit_ne (by decide) ?_|refine cz rfl ?_|refine Fork.by2 (fun h=>?_) fun h=>?_
 |(refine AW_region_AO ?_;simp [vl])
 |(refine Split.by2 (fun h=>?_) (fun h=>?_)<;>(simp [h, vl]))
 |(apply hK;clear hK K)|refine AWh (by assumption) ?_)
    exact retq1 (conv_eq (by rw [← hF]; simp [edgesE, anyL_nil]) rfl)
end Go.Proofs.YtgmlimipejcpgaaGreatDoor
end

section
set_option linter.unusedVariables false
set_option linter.unusedSimpArgs false
namespace Go.Proofs.YtgmlimipejcpgaaGreatDoor
open Go Go.AM Fx

/-! What is common to lists held against one another, and to copies with marked room. -/
theorem take_same {α : Type} {a b : List α} {i : Nat} (h : a.take i = b.take i) (h1 : i < a.length) (h2 : i < b.length) (hx : a[i] = b[i]) : a.take (i + 1) = b.take (i + 1) := by
  rw [List.take_add_one, List.take_add_one, h, List.getElem?_eq_getElem h1, List.getElem?_eq_getElem h2, hx]
theorem take_end {α : Type} {a b : List α} (h : a.take a.length = b.take a.length) (hl : a.length = b.length) : a = b := by
  rw [List.take_length, hl, List.take_length] at h; exact h
/-- A row that is filled from its beginning on. -/
def fillR (f : Nat → List V) (z : List V) (n i : Nat) : List (List V) := (List.range i).map f ++ List.replicate (n - i) z
theorem fillR_set {f : Nat → List V} {z : List V} {n i : Nat} (h : i < n) : (fillR f z n i).set i (f i) = fillR f z n (i + 1) := by
  unfold fillR
  obtain ⟨m, hm⟩ : ∃ m, n - i = m + 1 := ⟨n - i - 1, by omega⟩
  rw [hm, show n - (i + 1) = m by omega, List.range_succ, List.map_append, List.set_append_right _ _ (by simp)]
  simp [List.replicate_succ]
theorem fillR_len {f : Nat → List V} {z : List V} {n i : Nat} (h : i ≤ n) : (fillR f z n i).length = n := by simp [fillR]; omega
theorem fillR_get {f : Nat → List V} {z : List V} {n i : Nat} (h : i < n) : (fillR f z n i)[i]? = some z := by
  unfold fillR
  rw [List.getElem?_append_right (by simp), List.length_map, List.length_range, Nat.sub_self, List.getElem?_replicate, if_pos (by omega)]
/-- What a copy with marked room holds. -/
def handF {α : Type} (c : α → List V) (mark : Nat → List V) (l : List α) (k : Nat) : List V := match l[k]? with
  | some x => c x
  | none => mark (k - l.length)
theorem handF_in {α : Type} {c : α → List V} {mark : Nat → List V} {l : List α} {k : Nat} (h : k < l.length) : handF c mark l k = c l[k] := by simp [handF, h]
theorem handF_out {α : Type} {c : α → List V} {mark : Nat → List V} {l : List α} {j : Nat} : handF c mark l (l.length + j) = mark j := by simp [handF]
theorem range_hand {α : Type} {c : α → List V} {mark : Nat → List V} {l : List α} (m : Nat) : (List.range (l.length + m)).map (handF c mark l) = l.map c ++ (List.range m).map mark := by
  apply List.ext_getElem?
  intro i
  rcases Nat.lt_or_ge i l.length with h | h
  · rw [List.getElem?_append_left (by simpa using h)]
    rw [List.getElem?_map, List.getElem?_range (by omega), List.getElem?_map, List.getElem?_eq_getElem h]; simp [handF, h]
  · rw [List.getElem?_append_right (by simpa using h)]
    rcases Nat.lt_or_ge i (l.length + m) with h2 | h2
    · obtain ⟨j, rfl⟩ : ∃ j, i = l.length + j := ⟨i - l.length, by omega⟩
      rw [List.getElem?_map, List.getElem?_range h2, List.getElem?_map, List.length_map, Nat.add_sub_cancel_left, List.getElem?_range (by omega)]; simp [handF_out]
    · rw [List.getElem?_eq_none (by simp; omega), List.getElem?_eq_none (by simp; omega)]
theorem trims_map (cs : List V) (h : ∀ v ∈ cs, v.trim = v) : V.trims cs = cs := by
  rw [trims_eq]
  conv => rhs; rw [← List.map_id cs]
  exact List.map_congr_left fun v hv => h v hv
/-- What is seen of a list whose room is marked. -/
theorem trim_pad {α : Type} {c c' : α → List V} {l : List α} (pad : List (List V)) (h : ∀ x ∈ l, V.trims (c x) = c' x) : (V.vec (l.map c ++ pad) l.length).trim = vl c' l := by
  rw [V.trim, trimR_eq, List.take_append_of_le_length (by simp), List.take_of_length_le (by simp), List.map_map]
  unfold vl
  congr 1
  exact List.map_congr_left fun x hx => h x hx
theorem trim_vl {α : Type} {c : α → List V} {l : List α} (h : ∀ x ∈ l, V.trims (c x) = c x) : (vl c l).trim = vl c l := by
  have := trim_pad (c := c) (c' := c) (l := l) [] h
  rw [List.append_nil] at this; exact this
def handV {α : Type} (c : α → List V) (mark : Nat → List V) (l : List α) : V := .vec (l.map c ++ (List.range 9).map mark) l.length

end Go.Proofs.YtgmlimipejcpgaaGreatDoor
end

section
set_option linter.unusedVariables false
set_option linter.unusedSimpArgs false
namespace Go.Proofs.YtgmlimipejcpgaaGreatDoor
open Go Go.AM Fx
/-! Operators of expressions. -/
def kindT : Nat → Int × Bool × Bool × ByteArray × Int
  | 0 => (0, false, false, ⟨#[]⟩, 0)
  | 1 => (0, false, false, ⟨#[]⟩, 9)
  | 2 => (0, false, false, ⟨#[]⟩, 9)
  | 3 => (1, false, false, ⟨#[45]⟩, 6)
  | 4 => (2, false, false, ⟨#[43]⟩, 4)
  | 5 => (2, false, false, ⟨#[45]⟩, 4)
  | 6 => (2, false, false, ⟨#[42]⟩, 5)
  | 7 => (0, true, false, ⟨#[116, 114, 117, 101]⟩, 9)
  | 8 => (2, true, false, ⟨#[60]⟩, 3)
  | 9 => (2, true, false, ⟨#[60, 61]⟩, 3)
  | 10 => (2, true, false, ⟨#[61, 61]⟩, 3)
  | 11 => (2, true, false, ⟨#[33, 61]⟩, 3)
  | 12 => (1, true, true, ⟨#[33]⟩, 9)
  | 13 => (2, true, true, ⟨#[38, 38]⟩, 2)
  | 14 => (2, true, true, ⟨#[124, 124]⟩, 1)
  | _ => (0, false, false, ⟨#[]⟩, 0)
def known (o : Int) : Bool := decide (1 ≤ o ∧ o ≤ 14)
def kindO (o : Int) : Int × Bool × Bool × ByteArray × Int := if known o = true then kindT o.toNat else (0, false, false, ⟨#[]⟩, 0)
def kparts (o : Int) : Int := (kindO o).1
def ktruth (o : Int) : Bool := (kindO o).2.1
def ktakes (o : Int) : Bool := (kindO o).2.2.1
def ksign (o : Int) : ByteArray := (kindO o).2.2.2.1
def kbinds (o : Int) : Int := (kindO o).2.2.2.2
def kcells (o : Int) : List V := [.int .i64 (kparts o), .bool (ktruth o), .bool (ktakes o), .str (ksign o), .int .i64 (kbinds o)]
theorem kinds_at : ∀ j : Nat, 1 ≤ j → j ≤ 14 → (kindsV.drop (j * 5)).take 5 = kcells j := by
  intro j h1 h2
  match j, h1, h2 with
  | 1, _, _ => rfl
  | 2, _, _ => rfl
  | 3, _, _ => rfl
  | 4, _, _ => rfl
  | 5, _, _ => rfl
  | 6, _, _ => rfl
  | 7, _, _ => rfl
  | 8, _, _ => rfl
  | 9, _, _ => rfl
  | 10, _, _ => rfl
  | 11, _, _ => rfl
  | 12, _, _ => rfl
  | 13, _, _ => rfl
  | 14, _, _ => rfl
  | j + 15, _, h => omega
set_option maxRecDepth 8000 in
theorem c_of (o : Int) (ho : 0 ≤ o ∧ o ≤ 255) : PC 220 [.int .u8 o] (.tup [.agg (kcells o), .bool (known o)]) := by
  by_cases hk : 1 ≤ o ∧ o ≤ 14
  · obtain ⟨j, rfl⟩ := Int.eq_ofNat_of_zero_le ho.1
    have hat := kinds_at j (by omega) (by omega)
    have k1 : ¬ (j : Int) < 1 := by omega
    have k2 : ¬ (14 : Int) < j := by omega
    have k3 : (j : Int) < 15 := by omega
    have k4 : j * 5 + 5 ≤ 75 := by omega
    have hlen : kindsV.length = 75 := rfl
    have hkn : known (j : Int) = true := by simp [known]; omega
    have hkl : (kcells (j : Int)).length = 5 := rfl
    have k5 : min 5 (75 - j * 5) = 5 := by omega
    rw [hkn]
    refine PCall_body Tryz.func220 rfl (by decide) Tryz.ntmps220 (by simp) Tryz.results220 ?_
    repeat' (first
 |refine AW_seq_k fun K hK=>?_|refine Step.by1 ?_|refine SBlock_exit_ne (by decide) ?_|refine cz rfl ?_|refine Fork.by2 (fun h=>?_) fun h=>?_
 |(refine AW_region_AO ?_;simp [k1, k2, k3, k4, hlen, k5, hat, hkl])
 |(refine Split.by2 (fun h=>?_) (fun h=>?_)<;>(simp [h, k1, k2, k3, k4, hlen, k5, hat, hkl]))
 |(apply hK;clear hK K)|refine AWh (by assumption) ?_)
    exact retq2ct rfl (by simp [kcells]) (conv_eq (by simp [kcells]) (by simp [kcells]))
  · have hkn : known o = false := by simpa [known] using hk
    have hkc : kcells o = [.int .i64 0, .bool false, .bool false, .str ⟨#[]⟩, .int .i64 0] := by simp [kcells, kparts, ktruth, ktakes, ksign, kbinds, kindO, hkn]
    rw [hkc, hkn]
    refine PCall_body Tryz.func220 rfl (by decide) Tryz.ntmps220 (by simp) Tryz.results220 ?_
    by_cases h1 : o < 1
    · repeat' (first
 |refine AW_seq_k fun K hK=>?_|refine Step.by1 ?_|refine SBlock_exit_ne (by decide) ?_|refine cz rfl ?_|refine Fork.by2 (fun h=>?_) fun h=>?_
 |(refine AW_region_AO ?_;simp [h1])
 |(refine Split.by2 (fun h=>?_) (fun h=>?_)<;>(simp [h, h1]))
 |(apply hK;clear hK K)|refine AWh (by assumption) ?_)
      exact retq2ct rfl (by simp) (conv_eq (by simp) (by simp))
    · have h2 : 14 < o := by omega
      repeat' (first
 |refine AW_seq_k fun K hK=>?_|refine Step.by1 ?_|refine SBlock_exit_ne (by decide) ?_|refine cz rfl ?_|refine Fork.by2 (fun h=>?_) fun h=>?_
 |(refine AW_region_AO ?_;simp [h1, h2])
 |(refine Split.by2 (fun h=>?_) (fun h=>?_)<;>(simp [h, h1, h2]))
 |(apply hK;clear hK K)|refine AWh (by assumption) ?_)
      exact retq2ct rfl (by simp) (conv_eq (by simp) (by simp))
end Go.Proofs.YtgmlimipejcpgaaGreatDoor
end

section
set_option linter.unusedVariables false
set_option linter.unusedSimpArgs false
namespace Go.Proofs.YtgmlimipejcpgaaGreatDoor
open Go Go.AM Fx
/-! Where trees end. -/
theorem kparts_le (o : Int) : 0 ≤ kparts o ∧ kparts o ≤ 2 := by
  unfold kparts kindO
  split
  · unfold kindT; split <;> decide
  · decide
/-- The place behind so many trees, from a place on; 0: there are not so many. -/
def endL : List NodeD → Int → Int → Int
  | [], _, _ => 0
  | x :: r, need, at_ => if need + kparts x.op - 1 = 0 then at_ + 1 else endL r (need + kparts x.op - 1) (at_ + 1)
def endAt (l : List NodeD) (at_ : Nat) : Int := endL (l.drop at_) 1 at_

set_option maxRecDepth 8000 in
set_option maxHeartbeats 4000000 in
theorem c_End (l : List NodeD) (hl : l.length ≤ 1048576 ∧ ∀ x ∈ l, x.ok) (at0 : Nat) (ha : at0 ≤ 1099511627776) : PC 219 [vl NodeD.cells l, .int .i64 at0] (.int .i64 (endAt l at0)) := by
  obtain ⟨hl1, hl2⟩ := hl
  obtain ⟨r, hr⟩ : ∃ r, endAt l at0 = r := ⟨_, rfl⟩
  rw [hr]
  have hneg : ¬ (at0 : Int) < 0 := by omega
  refine PCall_body Tryz.func219 rfl (by decide) Tryz.ntmps219 (by simp) Tryz.results219 ?_
  repeat' (first
 |refine AW_seq_k fun K hK=>?_|refine Step.by1 ?_|refine SBlock_exit_ne (by decide) ?_|refine cz rfl ?_|refine Fork.by2 (fun h=>?_) fun h=>?_
 |(refine AW_region_AO ?_;simp [vl, hneg])
 |(refine Split.by2 (fun h=>?_) (fun h=>?_)<;>(simp [h, vl, hneg]))
 |(apply hK;clear hK K)|refine AWh (by assumption) ?_)
  refine AW_loopL [0] (fun s : Nat × Int => [(1, .int .i64 (s.1 : Int)), (5, .int .i64 s.2)]) (fun _ => []) (fun s => 0 ≤ s.2 ∧ s.2 ≤ s.1 * 2 + 1 ∧ s.1 ≤ at0 + l.length ∧ (if s.2 = 0 then (s.1 : Int) = r else endL (l.drop s.1) s.2 s.1 = r)) (fun s => at0 + l.length + 1 - s.1) (at0, 1) ⟨(by decide : (0 : Int) ≤ 1), (by simp only; omega), (by simp only; omega), (by simpa [endAt] using hr)⟩ (by apply Weak.mk' <;> simp [vl]) (fun _ _ => rfl) ?_
  rintro ⟨p, need⟩ ⟨i1, i2, i3, i4⟩
  simp only at i1 i2 i3 i4
  by_cases hn0 : need = 0
  · subst hn0
    rw [if_pos rfl] at i4
    repeat' (first
 |refine AW_seq_k fun K hK=>?_|refine Step.by1 ?_|refine SBlock_exit_ne (by decide) ?_|refine cz rfl ?_|refine Fork.by2 (fun h=>?_) fun h=>?_
 |(refine AW_region_AO ?_;simp [vl])
 |(refine Split.by2 (fun h=>?_) (fun h=>?_)<;>(simp [h, vl]))
 |(apply hK;clear hK K)|refine AWh (by assumption) ?_)
    exact retq1 (conv_eq (by simp [i4]) rfl)
  · rw [if_neg hn0] at i4
    have hnp : 0 < need := by omega
    by_cases hlt : p < l.length
    · have hlt' : (p : Int) < l.length := by omega
      have hlt2 : ¬ (l.length : Int) ≤ p := by omega
      have hlt3 : ¬ l.length ≤ p := by omega
      obtain ⟨x, hx⟩ : ∃ x, l[p] = x := ⟨_, rfl⟩
      have hxo := hl2 x (hx ▸ List.getElem_mem hlt)
      have hc := c_of x.op hxo.1
      have hk := kparts_le x.op
      rw [List.drop_eq_getElem_cons hlt, hx] at i4
      unfold endL at i4
      simp only [kcells] at hc
      generalize kparts x.op = kp at *
      repeat' (first
 |refine AW_seq_k fun K hK=>?_|refine Step.by1 ?_|refine SBlock_exit_ne (by decide) ?_|refine cz rfl ?_|refine Fork.by2 (fun h=>?_) fun h=>?_
 |((first|refine AW_region_AO ?_|refine AS_call1 (f:=220) rfl rfl (hc) rfl rfl rfl ?_);simp [vl, NodeD.cells, hlt, hlt', hlt2, hlt3, hnp, hx, wrap_i64];try (simp (disch:=omega) only [wrap_i64];try simp [vl, NodeD.cells, hlt, hlt', hlt2, hlt3, hnp, hx, wrap_i64]))
 |(refine Split.by2 (fun h=>?_) (fun h=>?_)<;>(simp [h, vl, NodeD.cells, hlt, hlt', hlt2, hlt3, hnp, hx, wrap_i64];try (simp (disch:=omega) only [wrap_i64];try simp [vl, NodeD.cells, hlt, hlt', hlt2, hlt3, hnp, hx, wrap_i64])))
 |(apply hK;clear hK K)|refine AWh (by assumption) ?_)
      refine ⟨p + 1, need + kp - 1, ⟨by omega, by omega, by omega, ?_⟩, by omega, ?_⟩
      · by_cases hc0 : need + kp - 1 = 0
        · rw [if_pos hc0] at i4 ⊢; push_cast; exact i4
        · rw [if_neg hc0] at i4 ⊢; push_cast; exact i4
      · apply Weak.mk' <;> simp [vl]
    · have hge : (l.length : Int) ≤ p := by omega
      have hge3 : l.length ≤ p := by omega
      rw [List.drop_eq_nil_of_le (by omega)] at i4
      unfold endL at i4
      repeat' (first
 |refine AW_seq_k fun K hK=>?_|refine Step.by1 ?_|refine SBlock_exit_ne (by decide) ?_|refine cz rfl ?_|refine Fork.by2 (fun h=>?_) fun h=>?_
 |(refine AW_region_AO ?_;simp [vl, hge, hge3, hnp])
 |(refine Split.by2 (fun h=>?_) (fun h=>?_)<;>(simp [h, vl, hge, hge3, hnp]))
 |(apply hK;clear hK K)|refine AWh (by assumption) ?_)
      exact retq1 (conv_eq (by simp [i4]) rfl)

theorem c_IsTruth (l : List NodeD) (hl : ∀ x ∈ l, x.ok) : PC 195 [vl NodeD.cells l] (.bool (match l with | [] => false | x :: _ => ktruth x.op)) := by
  cases l with
  | nil =>
    refine PCall_body Tryz.func195 rfl (by decide) Tryz.ntmps195 (by simp) Tryz.results195 ?_
    repeat' (first
 |refine AW_seq_k fun K hK=>?_|refine Step.by1 ?_|refine SBlock_exit_ne (by decide) ?_|refine cz rfl ?_|refine Fork.by2 (fun h=>?_) fun h=>?_
 |(refine AW_region_AO ?_;simp [vl])
 |(refine Split.by2 (fun h=>?_) (fun h=>?_)<;>(simp [h, vl]))
 |(apply hK;clear hK K)|refine AWh (by assumption) ?_)
    exact retq1 (conv_eq rfl rfl)
  | cons x r =>
    have hc := c_of x.op (hl x (.head _)).1
    simp only [kcells] at hc
    have h1 : ¬ (r.length : Int) + 1 = 0 := by omega
    have h2 : (0 : Int) < (r.length : Int) + 1 := by omega
    refine PCall_body Tryz.func195 rfl (by decide) Tryz.ntmps195 (by simp) Tryz.results195 ?_
    repeat' (first
 |refine AW_seq_k fun K hK=>?_|refine Step.by1 ?_|refine SBlock_exit_ne (by decide) ?_|refine cz rfl ?_|refine Fork.by2 (fun h=>?_) fun h=>?_
 |((first|refine AW_region_AO ?_|refine AS_call1 (f:=220) rfl rfl (hc) rfl rfl rfl ?_);simp [vl, NodeD.cells, h1, h2])
 |(refine Split.by2 (fun h=>?_) (fun h=>?_)<;>(simp [h, vl, NodeD.cells, h1, h2]))
 |(apply hK;clear hK K)|refine AWh (by assumption) ?_)
    exact retq1 (conv_eq rfl rfl)
end Go.Proofs.YtgmlimipejcpgaaGreatDoor
end

section
set_option linter.unusedVariables false
set_option linter.unusedSimpArgs false
namespace Go.Proofs.YtgmlimipejcpgaaGreatDoor
open Go Go.AM Fx
/-! The same, by the references. -/
theorem known_cases {o : Int} (h : 1 ≤ o ∧ o ≤ 14) : o = 1 ∨ o = 2 ∨ o = 3 ∨ o = 4 ∨ o = 5 ∨ o = 6 ∨ o = 7 ∨ o = 8 ∨ o = 9 ∨ o = 10 ∨ o = 11 ∨ o = 12 ∨ o = 13 ∨ o = 14 := by omega
theorem kparts_no {o : Int} (h : ¬ (1 ≤ o ∧ o ≤ 14)) : kparts o = 0 := by
  have : known o = false := by simpa [known] using h
  simp [kparts, kindO, this]
theorem ktruth_eq (o : Int) : ktruth o = decide (7 ≤ o ∧ o ≤ 14) := by
  by_cases h : 1 ≤ o ∧ o ≤ 14
  · rcases known_cases h with rfl | rfl | rfl | rfl | rfl | rfl | rfl | rfl | rfl | rfl | rfl | rfl | rfl | rfl <;> decide
  · have hk : known o = false := by simpa [known] using h
    have : ¬ (7 ≤ o ∧ o ≤ 14) := by omega
    simp [ktruth, kindO, hk, this]
def knum (o : Int) : Bool := decide (o = 3 ∨ o = 4 ∨ o = 5 ∨ o = 6 ∨ (8 ≤ o ∧ o ≤ 11))
theorem ktakes_knum {o : Int} (h : 0 < kparts o) : ktakes o = !knum o := by
  by_cases hk : 1 ≤ o ∧ o ≤ 14
  · rcases known_cases hk with rfl | rfl | rfl | rfl | rfl | rfl | rfl | rfl | rfl | rfl | rfl | rfl | rfl | rfl <;> first | (exfalso; revert h; decide) | decide
  · rw [kparts_no hk] at h; omega

set_option maxHeartbeats 4000000 in
theorem r_parts (o : Int) : PC 224 [.int .u8 o] (.int .i64 (kparts o)) := by
  by_cases h : 1 ≤ o ∧ o ≤ 14
  · rcases known_cases h with rfl | rfl | rfl | rfl | rfl | rfl | rfl | rfl | rfl | rfl | rfl | rfl | rfl | rfl
    all_goals
      refine PCall_body Tryz.func224 rfl (by decide) Tryz.ntmps224 (by simp) Tryz.results224 ?_
      repeat' (first
 |refine AW_seq_k fun K hK=>?_|refine Step.by1 ?_|refine SBlock_exit_ne (by decide) ?_|refine cz rfl ?_|refine Fork.by2 (fun h=>?_) fun h=>?_
 |(refine AW_region_AO ?_;simp)
 |(refine Split.by2 (fun h=>?_) (fun h=>?_)<;>(simp [h]))
 |(apply hK;clear hK K)|refine AWh (by assumption) ?_)
      exact retq1 (conv_eq (by simp; decide) rfl)
  · rw [kparts_no h]
    have e3 : ¬ o = 3 := by omega
    have e4 : ¬ o = 4 := by omega
    have e5 : ¬ o = 5 := by omega
    have e6 : ¬ o = 6 := by omega
    have e8 : ¬ o = 8 := by omega
    have e9 : ¬ o = 9 := by omega
    have e10 : ¬ o = 10 := by omega
    have e11 : ¬ o = 11 := by omega
    have e12 : ¬ o = 12 := by omega
    have e13 : ¬ o = 13 := by omega
    have e14 : ¬ o = 14 := by omega
    refine PCall_body Tryz.func224 rfl (by decide) Tryz.ntmps224 (by simp) Tryz.results224 ?_
    repeat' (first
 |refine AW_seq_k fun K hK=>?_|refine Step.by1 ?_|refine SBlock_exit_ne (by decide) ?_|refine cz rfl ?_|refine Fork.by2 (fun h=>?_) fun h=>?_
 |(refine AW_region_AO ?_;simp [e3, e4, e5, e6, e8, e9, e10, e11, e12, e13, e14])
 |(refine Split.by2 (fun h=>?_) (fun h=>?_)<;>(simp [h, e3, e4, e5, e6, e8, e9, e10, e11, e12, e13, e14]))
 |(apply hK;clear hK K)|refine AWh (by assumption) ?_)
    exact retq1 (conv_eq rfl rfl)
theorem r_truth (o : Int) : PC 225 [.int .u8 o] (.bool (ktruth o)) := by
  have he := ktruth_eq o
  generalize ktruth o = k at *
  refine PCall_body Tryz.func225 rfl (by decide) Tryz.ntmps225 (by simp) Tryz.results225 ?_
  repeat' (first
 |refine AW_seq_k fun K hK=>?_|refine Step.by1 ?_|refine SBlock_exit_ne (by decide) ?_|refine cz rfl ?_|refine Fork.by2 (fun h=>?_) fun h=>?_
 |(refine AW_region_AO ?_;simp)
 |(refine Split.by2 (fun h=>?_) (fun h=>?_)<;>(simp [h]))
 |(apply hK;clear hK K)|refine AWh (by assumption) ?_)
  all_goals exact retq1 (conv_eq (by simp [he, *]) rfl)
theorem r_numbers (o : Int) : PC 226 [.int .u8 o] (.bool (knum o)) := by
  refine PCall_body Tryz.func226 rfl (by decide) Tryz.ntmps226 (by simp) Tryz.results226 ?_
  repeat' (first
 |refine AW_seq_k fun K hK=>?_|refine Step.by1 ?_|refine SBlock_exit_ne (by decide) ?_|refine cz rfl ?_|refine Fork.by2 (fun h=>?_) fun h=>?_
 |(refine AW_region_AO ?_;simp)
 |(refine Split.by2 (fun h=>?_) (fun h=>?_)<;>(simp [h]))
 |(apply hK;clear hK K)|refine AWh (by assumption) ?_)
  all_goals first
    | exact retq1 (conv_eq (by simp [knum, *]; done) rfl)
    | exact retq1 (conv_eq (by simp [knum, *]; omega) rfl)
    | trace_state

set_option maxRecDepth 8000 in
set_option maxHeartbeats 4000000 in
theorem r_End (l : List NodeD) (hl : l.length ≤ 1048576) (at0 : Nat) (ha : at0 ≤ 1099511627776) : PC 223 [vl NodeD.cells l, .int .i64 at0] (.int .i64 (endAt l at0)) := by
  obtain ⟨r, hr⟩ : ∃ r, endAt l at0 = r := ⟨_, rfl⟩
  rw [hr]
  have hneg : ¬ (at0 : Int) < 0 := by omega
  by_cases h0 : l.length ≤ at0
  · have h0' : (l.length : Int) ≤ at0 := by omega
    have hr0 : r = 0 := by rw [← hr, endAt, List.drop_eq_nil_of_le h0]; rfl
    refine PCall_body Tryz.func223 rfl (by decide) Tryz.ntmps223 (by simp) Tryz.results223 ?_
    repeat' (first
 |refine AW_seq_k fun K hK=>?_|refine Step.by1 ?_|refine SBlock_exit_ne (by decide) ?_|refine cz rfl ?_|refine Fork.by2 (fun h=>?_) fun h=>?_
 |(refine AW_region_AO ?_;simp [vl, hneg, h0, h0'])
 |(refine Split.by2 (fun h=>?_) (fun h=>?_)<;>(simp [h, vl, hneg, h0, h0']))
 |(apply hK;clear hK K)|refine AWh (by assumption) ?_)
    exact retq1 (conv_eq (by simp [hr0]) rfl)
  · have h0' : ¬ (l.length : Int) ≤ at0 := by omega
    refine PCall_body Tryz.func223 rfl (by decide) Tryz.ntmps223 (by simp) Tryz.results223 ?_
    repeat' (first
 |refine AW_seq_k fun K hK=>?_|refine Step.by1 ?_|refine SBlock_exit_ne (by decide) ?_|refine cz rfl ?_|refine Fork.by2 (fun h=>?_) fun h=>?_
 |(refine AW_region_AO ?_;simp [vl, hneg, h0, h0'])
 |(refine Split.by2 (fun h=>?_) (fun h=>?_)<;>(simp [h, vl, hneg, h0, h0']))
 |(apply hK;clear hK K)|refine AWh (by assumption) ?_)
    refine AW_loopL [0] (fun s : Nat × Int => [(6, .int .i64 (s.1 : Int)), (5, .int .i64 s.2)]) (fun _ => []) (fun s => 0 < s.2 ∧ s.2 ≤ s.1 * 2 + 1 ∧ s.1 ≤ l.length ∧ endL (l.drop s.1) s.2 s.1 = r) (fun s => l.length - s.1) (at0, 1) ⟨(by decide : (0 : Int) < 1), (by simp only; omega), (by simp only; omega), (by simpa [endAt] using hr)⟩ (by apply Weak.mk' <;> simp [vl]) (fun _ _ => rfl) ?_
    rintro ⟨p, need⟩ ⟨i1, i2, i3, i4⟩
    simp only at i1 i2 i3 i4
    by_cases hlt : p < l.length
    · have hlt' : (p : Int) < l.length := by omega
      obtain ⟨x, hx⟩ : ∃ x, l[p] = x := ⟨_, rfl⟩
      have hc := r_parts x.op
      have hk := kparts_le x.op
      rw [List.drop_eq_getElem_cons hlt, hx] at i4
      unfold endL at i4
      generalize kparts x.op = kp at *
      have w1 : IntKind.i64.wrap (kp - 1) = kp - 1 := wrap_i64 (by omega) (by omega)
      have w2 : IntKind.i64.wrap (need + (kp - 1)) = need + kp - 1 := by rw [wrap_i64 (by omega) (by omega)]; omega
      by_cases hc0 : need + kp - 1 = 0
      · rw [if_pos hc0] at i4
        repeat' (first
 |refine AW_seq_k fun K hK=>?_|refine Step.by1 ?_|refine SBlock_exit_ne (by decide) ?_|refine cz rfl ?_|refine Fork.by2 (fun h=>?_) fun h=>?_
 |((first|refine AW_region_AO ?_|refine AS_call1 (f:=224) rfl rfl (hc) rfl rfl rfl ?_);simp [vl, NodeD.cells, hlt, hlt', hx, w1, w2, hc0, wrap_i64];try (simp (disch:=omega) only [wrap_i64];try simp [vl, NodeD.cells, hlt, hlt', hx, w1, w2, hc0, wrap_i64]))
 |(refine Split.by2 (fun h=>?_) (fun h=>?_)<;>(simp [h, vl, NodeD.cells, hlt, hlt', hx, w1, w2, hc0, wrap_i64];try (simp (disch:=omega) only [wrap_i64];try simp [vl, NodeD.cells, hlt, hlt', hx, w1, w2, hc0, wrap_i64])))
 |(apply hK;clear hK K)|refine AWh (by assumption) ?_)
        exact retq1 (conv_eq (by simp [i4]) rfl)
      · rw [if_neg hc0] at i4
        repeat' (first
 |refine AW_seq_k fun K hK=>?_|refine Step.by1 ?_|refine SBlock_exit_ne (by decide) ?_|refine cz rfl ?_|refine Fork.by2 (fun h=>?_) fun h=>?_
 |((first|refine AW_region_AO ?_|refine AS_call1 (f:=224) rfl rfl (hc) rfl rfl rfl ?_);simp [vl, NodeD.cells, hlt, hlt', hx, w1, w2, hc0, wrap_i64];try (simp (disch:=omega) only [wrap_i64];try simp [vl, NodeD.cells, hlt, hlt', hx, w1, w2, hc0, wrap_i64]))
 |(refine Split.by2 (fun h=>?_) (fun h=>?_)<;>(simp [h, vl, NodeD.cells, hlt, hlt', hx, w1, w2, hc0, wrap_i64];try (simp (disch:=omega) only [wrap_i64];try simp [vl, NodeD.cells, hlt, hlt', hx, w1, w2, hc0, wrap_i64])))
 |(apply hK;clear hK K)|refine AWh (by assumption) ?_)
        refine ⟨p + 1, need + kp - 1, ⟨by omega, by omega, by omega, by push_cast; exact i4⟩, by omega, ?_⟩
        apply Weak.mk' <;> simp [vl]
    · have hlt' : ¬ (p : Int) < l.length := by omega
      rw [List.drop_eq_nil_of_le (by omega)] at i4
      unfold endL at i4
      repeat' (first
 |refine AW_seq_k fun K hK=>?_|refine Step.by1 ?_|refine SBlock_exit_ne (by decide) ?_|refine cz rfl ?_|refine Fork.by2 (fun h=>?_) fun h=>?_
 |(refine AW_region_AO ?_;simp [vl, hlt, hlt'])
 |(refine Split.by2 (fun h=>?_) (fun h=>?_)<;>(simp [h, vl, hlt, hlt']))
 |(apply hK;clear hK K)|refine AWh (by assumption) ?_)
      exact retq1 (conv_eq (by simp [i4]) rfl)

theorem r_IsTruth (l : List NodeD) : PC 203 [vl NodeD.cells l] (.bool (match l with | [] => false | x :: _ => ktruth x.op)) := by
  cases l with
  | nil =>
    refine PCall_body Tryz.func203 rfl (by decide) Tryz.ntmps203 (by simp) Tryz.results203 ?_
    repeat' (first
 |refine AW_seq_k fun K hK=>?_|refine Step.by1 ?_|refine SBlock_exit_ne (by decide) ?_|refine cz rfl ?_|refine Fork.by2 (fun h=>?_) fun h=>?_
 |(refine AW_region_AO ?_;simp [vl])
 |(refine Split.by2 (fun h=>?_) (fun h=>?_)<;>(simp [h, vl]))
 |(apply hK;clear hK K)|refine AWh (by assumption) ?_)
    exact retq1 (conv_eq rfl rfl)
  | cons x r =>
    have hc := r_truth x.op
    have h2 : (0 : Int) < (r.length : Int) + 1 := by omega
    refine PCall_body Tryz.func203 rfl (by decide) Tryz.ntmps203 (by simp) Tryz.results203 ?_
    repeat' (first
 |refine AW_seq_k fun K hK=>?_|refine Step.by1 ?_|refine SBlock_exit_ne (by decide) ?_|refine cz rfl ?_|refine Fork.by2 (fun h=>?_) fun h=>?_
 |((first|refine AW_region_AO ?_|refine AS_call1 (f:=225) rfl rfl (hc) rfl rfl rfl ?_);simp [vl, NodeD.cells, h2])
 |(refine Split.by2 (fun h=>?_) (fun h=>?_)<;>(simp [h, vl, NodeD.cells, h2]))
 |(apply hK;clear hK K)|refine AWh (by assumption) ?_)
    exact retq1 (conv_eq rfl rfl)
end Go.Proofs.YtgmlimipejcpgaaGreatDoor
end
