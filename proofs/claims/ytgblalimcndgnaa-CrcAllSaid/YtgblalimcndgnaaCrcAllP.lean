import Derived.Test.YtgblalimcndgnaaRows
import Derived.Test.YtgblalimcndgnaaAMD
import Derived.Test.YtgblalimcndgnaaCrc
import Derived.WalkKit
import Derived.ProofKit
import Derived.OpenShut
import Derived.ShutString
import Derived.ChangeOld
import Derived.Below
set_option linter.unusedVariables false
set_option linter.unusedSimpArgs false
namespace Go.Proofs.Ytgblalimcndgnaa.CrcAllDone
open Go.ChangeShapes Go.WideShapes Go.ChangeAt Go.RowKit Go.AM
open Go.ChangeMaps (open_string shut_string)

def fid (f : String) : Option FuncId := match f with
  | "haberdash/haberdashlaw05.CrcAll" => some 3
  | "haberdash/haberdashlaw05.awake" => some 14
  | "haberdash/crc.Sum" => some 15
  | "haberdash/haberdashref04.Sum" => some 16
  | "haberdash/crc.More" => some 17
  | "haberdash/haberdashref04.More" => some 18
  | _ => none
def prog (f : String) : Option IFn := match f with
  | "haberdash/haberdashlaw05.CrcAll" => some f_haberdash_haberdashlaw05_CrcAll
  | "haberdash/haberdashlaw05.awake" => some f_haberdash_haberdashlaw05_awake
  | "haberdash/crc.Sum" => some f_haberdash_crc_Sum
  | "haberdash/haberdashref04.Sum" => some f_haberdash_haberdashref04_Sum
  | "haberdash/crc.More" => some f_haberdash_crc_More
  | "haberdash/haberdashref04.More" => some f_haberdash_haberdashref04_More
  | _ => none
theorem hprog : ∀ f F, prog f = some F → ∃ id fn, fid f = some id ∧ Try.prog.funcs[id]? = some fn ∧ chkFn Try.prog fid fn F = true := by
  intro f F h
  unfold prog at h
  split at h <;> cases h
  · exact ⟨3, _, rfl, Try.func3, by kernel_rfl⟩
  · exact ⟨14, _, rfl, Try.func14, by kernel_rfl⟩
  · exact ⟨15, _, rfl, Try.func15, by kernel_rfl⟩
  · exact ⟨16, _, rfl, Try.func16, by kernel_rfl⟩
  · exact ⟨17, _, rfl, Try.func17, by kernel_rfl⟩
  · exact ⟨18, _, rfl, Try.func18, by kernel_rfl⟩
theorem hcrc : CrcProg prog := ⟨rfl, rfl, rfl, rfl, rfl⟩

theorem own : ownKnob Try.prog.godebug = none := by kernel_rfl
theorem laidOut : laidOutB Try.prog = true := by kernel_rfl

theorem walk (s : Int) (a : Option Addr) (len cap : Nat) (zs : List Int) (w : World) (hs : (Lit.int .u32 s).wf = true) (h : AM.IsRow .u8 w a len cap zs) :
    Calls Try.prog 3 #[.int .u32 s, .slice a len cap] w fun e w' => e = .returned (.bool true) ∧ Below w.heap.size w w' := by
  obtain ⟨av, bs, rfl, hr, hv⟩ := read_bytes (fid := fid) h
  rw [wf_u32 hs]
  have he := CrcAll_spec hcrc (rfl : prog "haberdash/haberdashlaw05.CrcAll" = _) (G := []) (BitVec.ofInt 32 s) (fun L => hv ⟨[], L⟩)
  exact law_calls (vs := [u32 (BitVec.ofInt 32 s), .slice a bs.length cap]) hprog rfl ((Reps.nil.cons hr).cons (.v _)) he

set_option maxRecDepth 100000 in
theorem lifted (os : Os) (started : os.Started) (H : Type) (enc : TypeId × Value → H) :
    ReturnsInHanded {} Try.checked os 3 .any (Rows.crcAllSpec.pre6 enc Try.prog Try.f3 Rows.crcAllRow.domain false) (Rows.crcAllSpec.post enc Try.prog Try.f3 false true false false) := by
  refine returnsInHanded_of_change (C := Try.checked) own started (by kernel_rfl) Try.func3
    (ChangeSpec.witness6 (enc := enc) (C := Try.checked) false ⟨#[], #[.int .u32 0, .slice none 0 0], []⟩ 8 (by kernel_rfl) (by kernel_rfl) (by kernel_rfl) (by kernel_rfl)) ?_
  intro W base args ds gs before hval0 hW hcnd _
  have hval : ∀ (j : Nat) t v, Try.f3.params[j]? = some t → args[j]? = some v → Value.okWide Try.prog W .any base t v := hval0
  have hW' := hW
  obtain ⟨p, q, hA0, hV, rfl, hfz, hnd⟩ := hW
  have hA : DataW.TrodAll enc Try.prog W 0 (fun _ => true) true Try.f3.params.toList args.toList ds p := hA0
  rw [Try.params3] at hA hval
  obtain ⟨v0, vs0, d0, ds0, p0, q0, hargs, rfl, rfl, h0, r0⟩ := trodAll_cons hA
  obtain ⟨v1, vs1, d1, ds1, p1, q1, rfl, rfl, rfl, h1, r1⟩ := trodAll_cons r0
  obtain ⟨rfl, rfl, rfl⟩ := trodAll_nil r1
  obtain rfl : args = #[v0, v1] := by cases args; simp_all
  obtain ⟨rfl, rfl⟩ := trodVars_none hV
  obtain ⟨a1, rfl, rfl, rfl, w1⟩ := open_int Try.underlying22 (hval 0 22 v0 rfl rfl) h0
  obtain ⟨a0, len0, cap0, rfl⟩ := okWide_slice Try.underlying23 (hval 1 23 v1 rfl rfl)
  have k0 := h1
  have lt0 : ∀ x ∈ p1, x.block < W.heap.size := by obtain ⟨m, hm⟩ := k0; exact DataW.trod_lt m _ _ _ hm
  obtain ⟨z0, w0⟩ : ∃ zs, AM.IsRow .u8 W a0 len0 cap0 zs := by
    obtain ⟨fuel, hf⟩ := h1
    rcases open_ints Try.underlying23 Try.underlying5 (by kernel_rfl) hf with ⟨hcs, _⟩ | ⟨x, l, c, zs, hcs, _, hl, hm, hz, _, hcell, hwz⟩
    · simp [Value.cells] at hcs
      obtain ⟨rfl, rfl, rfl⟩ := hcs
      exact ⟨[], .inl ⟨rfl, rfl, rfl, rfl⟩⟩
    · simp [Value.cells] at hcs
      obtain ⟨rfl, rfl, rfl⟩ := hcs
      exact ⟨zs, .inr ⟨_, rfl, hl, hm, by simpa using hz, hcell, hwz⟩⟩
  clear hA0 hval0
  refine (walk a1 a0 len0 cap0 z0 W w1 w0).mono fun e W' ⟨he, bel⟩ => ?_
  subst he
  exact ⟨_, rfl, _, _, _, [], _, [], hW', trodAll_mk1 (shut_bool Try.underlying4 _), (trodAll_cons_mk (shut_int Try.underlying22 w1) (trodAll_cons_mk (Below.trod laidOut (by kernel_rfl) (of_decide_eq_true (by kernel_rfl)) k0 bel lt0) trodAll_mk0)), rfl, bel.frame _, fun h => by cases h⟩

theorem over : Rows.crcAllRow.holds Try.pinned (OpenSpec.ofChange Rows.crcAllSpec) :=
  OpenClaim.holds_of_wide 3 Try.f3 rfl rfl rfl rfl rfl rfl rfl ⟨rfl, rfl, rfl, rfl, rfl⟩ rfl rfl rfl rfl rfl (by kernel_rfl) Try.func3 (by kernel_rfl)
    (of_decide_eq_true (by kernel_rfl)) (by unfold Func.isWrapper; first | (rw [if_pos (by decide +kernel)]; kernel_rfl) | (rw [if_neg (by decide +kernel)]; exact ⟨rfl, rfl⟩))
    (fun os started H enc _ => lifted os started H enc)

theorem proved : Rows.CrcAllSaid := over
#print axioms proved
end Go.Proofs.Ytgblalimcndgnaa.CrcAllDone
