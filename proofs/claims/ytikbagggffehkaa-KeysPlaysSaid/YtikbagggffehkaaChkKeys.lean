import Derived.Test.YtikbagggffehkaaRows
import Derived.Test.YtikbagggffehkaaKeysY
import Derived.Test.YtikbagggffehkaaAMC
import Derived.Test.YtikbagggffehkaaCrc
import Derived.Test.YtikbagggffehkaaLeafA
import Derived.Test.YtikbagggffehkaaHelp
import Derived.Test.YtikbagggffehkaaGoodsA
import Derived.Test.YtikbagggffehkaaScopeA
import Derived.Test.YtikbagggffehkaaSortA
import Derived.Test.YtikbagggffehkaaBasketIr
import Derived.Test.YtikbagggffehkaaKeysIr
import Derived.KernelRfl
set_option linter.unusedVariables false
set_option linter.unusedSimpArgs false
namespace Go.Proofs.Ytikbagggffehkaa.ChkKeys
open Go.AM
def fid (f : String) : Option FuncId := match f with
  | "haberdash/haberdashlaw26.KeysRaw" => some 8
  | "haberdash/haberdashlaw26.KeysPlays" => some 9
  | "haberdash/haberdashlaw26.KeysStay" => some 10
  | "haberdash/haberdashlaw26.KeysErrors" => some 11
  | "haberdash/haberdashlaw26.few" => some 32
  | "haberdash/haberdashlaw26.awake" => some 33
  | "haberdash/haberdashplay.Mod" => some 30
  | "haberdash/keys.Put" => some 34
  | "haberdash/haberdashref25.Put" => some 35
  | "haberdash/keys.Ask" => some 36
  | "haberdash/haberdashref25.Ask" => some 37
  | "haberdash/keys.Right" => some 38
  | "haberdash/haberdashref25.Keys" => some 39
  | "haberdash/haberdashhelp.Seen" => some 41
  | "haberdash/haberdashhelp.Same[haberdash/api.Seen]" => some 40
  | "haberdash/haberdashhelp.Bytes" => some 42
  | "haberdash/haberdashlaw26.key" => some 43
  | "haberdash/goods.Name" => some 61
  | "haberdash/keys.find" => some 62
  | "haberdash/keys.Insert" => some 64
  | "haberdash/keys.Clone" => some 63
  | "haberdash/haberdashref10.Name" => some 65
  | "bytes.Equal" => some 66
  | "bytes.Clone" => some 67
  | "haberdash/goods.Rise" => some 68
  | "haberdash/haberdashplay.Sku" => some 58
  | "haberdash/keys.byKey" => some 80
  | "slices.IsSortedFunc[[]haberdash/api.Seen,haberdash/api.Seen]" => some 79
  | "slices.BinarySearchFunc[[]haberdash/api.Seen,haberdash/api.Seen,haberdash/api.Seen]" => some 81
  | "haberdash/keys.find$1" => some 83
  | "slices.IndexFunc[[]haberdash/api.Seen,haberdash/api.Seen]" => some 82
  | "slices.Clone[[]haberdash/api.Seen,haberdash/api.Seen]" => some 84
  | "slices.Insert[[]haberdash/api.Seen,haberdash/api.Seen]" => some 85
  | "cmp.Compare[string]" => some 86
  | "slices.rotateRight[haberdash/api.Seen]" => some 88
  | "cmp.isNaN[string]" => some 89
  | "slices.rotateLeft[haberdash/api.Seen]" => some 90
  | "slices.Reverse[[]haberdash/api.Seen,haberdash/api.Seen]" => some 91
  | _ => none
def prog (f : String) : Option IFn := match f with
  | "haberdash/haberdashlaw26.KeysRaw" => some f_law26_KeysRaw
  | "haberdash/haberdashlaw26.KeysPlays" => some f_law26_KeysPlays
  | "haberdash/haberdashlaw26.KeysStay" => some f_law26_KeysStay
  | "haberdash/haberdashlaw26.KeysErrors" => some f_law26_KeysErrors
  | "haberdash/haberdashlaw26.few" => some f_law26_few
  | "haberdash/haberdashlaw26.awake" => some f_law26_awake
  | "haberdash/haberdashplay.Mod" => some f_play_Mod
  | "haberdash/keys.Put" => some f_keys_Put
  | "haberdash/haberdashref25.Put" => some f_ref25_Put
  | "haberdash/keys.Ask" => some f_keys_Ask
  | "haberdash/haberdashref25.Ask" => some f_ref25_Ask
  | "haberdash/keys.Right" => some f_keys_Right
  | "haberdash/haberdashref25.Keys" => some f_ref25_Keys
  | "haberdash/haberdashhelp.Seen" => some f_help_Seen
  | "haberdash/haberdashhelp.Same[haberdash/api.Seen]" => some f_help_Same_api_Seen_
  | "haberdash/haberdashhelp.Bytes" => some f_help_Bytes
  | "haberdash/haberdashlaw26.key" => some f_law26_key
  | "haberdash/goods.Name" => some f_goods_Name
  | "haberdash/keys.find" => some f_keys_find
  | "haberdash/keys.Insert" => some f_keys_Insert
  | "haberdash/keys.Clone" => some f_keys_Clone
  | "haberdash/haberdashref10.Name" => some f_ref10_Name
  | "bytes.Equal" => some f_bytes_Equal
  | "bytes.Clone" => some f_bytes_Clone
  | "haberdash/goods.Rise" => some f_goods_Rise
  | "haberdash/haberdashplay.Sku" => some f_play_Sku
  | "haberdash/keys.byKey" => some f_keys_byKey
  | "slices.IsSortedFunc[[]haberdash/api.Seen,haberdash/api.Seen]" => some f_slices_IsSortedFunc___api_Seen_api_Seen_
  | "slices.BinarySearchFunc[[]haberdash/api.Seen,haberdash/api.Seen,haberdash/api.Seen]" => some f_slices_BinarySearchFunc___api_Seen_api_Seen_api_Seen_
  | "haberdash/keys.find$1" => some f_keys_find_1
  | "slices.IndexFunc[[]haberdash/api.Seen,haberdash/api.Seen]" => some f_slices_IndexFunc___api_Seen_api_Seen_
  | "slices.Clone[[]haberdash/api.Seen,haberdash/api.Seen]" => some f_slices_Clone___api_Seen_api_Seen_
  | "slices.Insert[[]haberdash/api.Seen,haberdash/api.Seen]" => some xFn
  | "cmp.Compare[string]" => some f_cmp_Compare_string_
  | "slices.rotateRight[haberdash/api.Seen]" => some f_slices_rotateRight_api_Seen_
  | "cmp.isNaN[string]" => some f_cmp_isNaN_string_
  | "slices.rotateLeft[haberdash/api.Seen]" => some f_slices_rotateLeft_api_Seen_
  | "slices.Reverse[[]haberdash/api.Seen,haberdash/api.Seen]" => some f_slices_Reverse___api_Seen_api_Seen_
  | _ => none
def prog0 (f : String) : Option IFn := match f with
  | "haberdash/haberdashlaw26.KeysRaw" => some f_law26_KeysRaw
  | "haberdash/haberdashlaw26.KeysPlays" => some f_law26_KeysPlays
  | "haberdash/haberdashlaw26.KeysStay" => some f_law26_KeysStay
  | "haberdash/haberdashlaw26.KeysErrors" => some f_law26_KeysErrors
  | "haberdash/haberdashlaw26.few" => some f_law26_few
  | "haberdash/haberdashlaw26.awake" => some f_law26_awake
  | "haberdash/haberdashplay.Mod" => some f_play_Mod
  | "haberdash/keys.Put" => some f_keys_Put
  | "haberdash/haberdashref25.Put" => some f_ref25_Put
  | "haberdash/keys.Ask" => some f_keys_Ask
  | "haberdash/haberdashref25.Ask" => some f_ref25_Ask
  | "haberdash/keys.Right" => some f_keys_Right
  | "haberdash/haberdashref25.Keys" => some f_ref25_Keys
  | "haberdash/haberdashhelp.Seen" => some f_help_Seen
  | "haberdash/haberdashhelp.Same[haberdash/api.Seen]" => some f_help_Same_api_Seen_
  | "haberdash/haberdashhelp.Bytes" => some f_help_Bytes
  | "haberdash/haberdashlaw26.key" => some f_law26_key
  | "haberdash/goods.Name" => some f_goods_Name
  | "haberdash/keys.find" => some f_keys_find
  | "haberdash/keys.Insert" => some f_keys_Insert
  | "haberdash/keys.Clone" => some f_keys_Clone
  | "haberdash/haberdashref10.Name" => some f_ref10_Name
  | "bytes.Equal" => some f_bytes_Equal
  | "bytes.Clone" => some f_bytes_Clone
  | "haberdash/goods.Rise" => some f_goods_Rise
  | "haberdash/haberdashplay.Sku" => some f_play_Sku
  | "haberdash/keys.byKey" => some f_keys_byKey
  | "slices.IsSortedFunc[[]haberdash/api.Seen,haberdash/api.Seen]" => some f_slices_IsSortedFunc___api_Seen_api_Seen_
  | "slices.BinarySearchFunc[[]haberdash/api.Seen,haberdash/api.Seen,haberdash/api.Seen]" => some f_slices_BinarySearchFunc___api_Seen_api_Seen_api_Seen_
  | "haberdash/keys.find$1" => some f_keys_find_1
  | "slices.IndexFunc[[]haberdash/api.Seen,haberdash/api.Seen]" => some f_slices_IndexFunc___api_Seen_api_Seen_
  | "slices.Clone[[]haberdash/api.Seen,haberdash/api.Seen]" => some f_slices_Clone___api_Seen_api_Seen_
  | "slices.Insert[[]haberdash/api.Seen,haberdash/api.Seen]" => some f_slices_Insert___api_Seen_api_Seen_
  | "cmp.Compare[string]" => some f_cmp_Compare_string_
  | "slices.rotateRight[haberdash/api.Seen]" => some f_slices_rotateRight_api_Seen_
  | "cmp.isNaN[string]" => some f_cmp_isNaN_string_
  | "slices.rotateLeft[haberdash/api.Seen]" => some f_slices_rotateLeft_api_Seen_
  | "slices.Reverse[[]haberdash/api.Seen,haberdash/api.Seen]" => some f_slices_Reverse___api_Seen_api_Seen_
  | _ => none
theorem c8 : chkFn Try.prog fid Try.f8 f_law26_KeysRaw = true := by kernel_rfl
theorem c9 : chkFn Try.prog fid Try.f9 f_law26_KeysPlays = true := by kernel_rfl
theorem c10 : chkFn Try.prog fid Try.f10 f_law26_KeysStay = true := by kernel_rfl
theorem c11 : chkFn Try.prog fid Try.f11 f_law26_KeysErrors = true := by kernel_rfl
theorem c32 : chkFn Try.prog fid Try.f32 f_law26_few = true := by kernel_rfl
theorem c33 : chkFn Try.prog fid Try.f33 f_law26_awake = true := by kernel_rfl
theorem c30 : chkFn Try.prog fid Try.f30 f_play_Mod = true := by kernel_rfl
theorem c34 : chkFn Try.prog fid Try.f34 f_keys_Put = true := by kernel_rfl
theorem c35 : chkFn Try.prog fid Try.f35 f_ref25_Put = true := by kernel_rfl
theorem c36 : chkFn Try.prog fid Try.f36 f_keys_Ask = true := by kernel_rfl
theorem c37 : chkFn Try.prog fid Try.f37 f_ref25_Ask = true := by kernel_rfl
theorem c38 : chkFn Try.prog fid Try.f38 f_keys_Right = true := by kernel_rfl
theorem c39 : chkFn Try.prog fid Try.f39 f_ref25_Keys = true := by kernel_rfl
theorem c41 : chkFn Try.prog fid Try.f41 f_help_Seen = true := by kernel_rfl
theorem c40 : chkFn Try.prog fid Try.f40 f_help_Same_api_Seen_ = true := by kernel_rfl
theorem c42 : chkFn Try.prog fid Try.f42 f_help_Bytes = true := by kernel_rfl
theorem c43 : chkFn Try.prog fid Try.f43 f_law26_key = true := by kernel_rfl
theorem c61 : chkFn Try.prog fid Try.f61 f_goods_Name = true := by kernel_rfl
theorem c62 : chkFn Try.prog fid Try.f62 f_keys_find = true := by kernel_rfl
theorem c64 : chkFn Try.prog fid Try.f64 f_keys_Insert = true := by kernel_rfl
theorem c63 : chkFn Try.prog fid Try.f63 f_keys_Clone = true := by kernel_rfl
theorem c65 : chkFn Try.prog fid Try.f65 f_ref10_Name = true := by kernel_rfl
theorem c66 : chkFn Try.prog fid Try.f66 f_bytes_Equal = true := by kernel_rfl
theorem c67 : chkFn Try.prog fid Try.f67 f_bytes_Clone = true := by kernel_rfl
theorem c68 : chkFn Try.prog fid Try.f68 f_goods_Rise = true := by kernel_rfl
theorem c58 : chkFn Try.prog fid Try.f58 f_play_Sku = true := by kernel_rfl
theorem c80 : chkFn Try.prog fid Try.f80 f_keys_byKey = true := by kernel_rfl
theorem c79 : chkFn Try.prog fid Try.f79 f_slices_IsSortedFunc___api_Seen_api_Seen_ = true := by kernel_rfl
theorem c81 : chkFn Try.prog fid Try.f81 f_slices_BinarySearchFunc___api_Seen_api_Seen_api_Seen_ = true := by kernel_rfl
theorem c83 : chkFn Try.prog fid Try.f83 f_keys_find_1 = true := by kernel_rfl
theorem c82 : chkFn Try.prog fid Try.f82 f_slices_IndexFunc___api_Seen_api_Seen_ = true := by kernel_rfl
theorem c84 : chkFn Try.prog fid Try.f84 f_slices_Clone___api_Seen_api_Seen_ = true := by kernel_rfl
theorem c85 : chkFn Try.prog fid Try.f85 f_slices_Insert___api_Seen_api_Seen_ = true := by kernel_rfl
theorem c86 : chkFn Try.prog fid Try.f86 f_cmp_Compare_string_ = true := by kernel_rfl
theorem c88 : chkFn Try.prog fid Try.f88 f_slices_rotateRight_api_Seen_ = true := by kernel_rfl
theorem c89 : chkFn Try.prog fid Try.f89 f_cmp_isNaN_string_ = true := by kernel_rfl
theorem c90 : chkFn Try.prog fid Try.f90 f_slices_rotateLeft_api_Seen_ = true := by kernel_rfl
theorem c91 : chkFn Try.prog fid Try.f91 f_slices_Reverse___api_Seen_api_Seen_ = true := by kernel_rfl
theorem hprog0 : ∀ f F, prog0 f = some F → ∃ id fn, fid f = some id ∧ Try.prog.funcs[id]? = some fn ∧ chkFn Try.prog fid fn F = true := by
  intro f F h
  unfold prog0 at h
  split at h <;> cases h
  · exact ⟨8, _, rfl, Try.func8, c8⟩
  · exact ⟨9, _, rfl, Try.func9, c9⟩
  · exact ⟨10, _, rfl, Try.func10, c10⟩
  · exact ⟨11, _, rfl, Try.func11, c11⟩
  · exact ⟨32, _, rfl, Try.func32, c32⟩
  · exact ⟨33, _, rfl, Try.func33, c33⟩
  · exact ⟨30, _, rfl, Try.func30, c30⟩
  · exact ⟨34, _, rfl, Try.func34, c34⟩
  · exact ⟨35, _, rfl, Try.func35, c35⟩
  · exact ⟨36, _, rfl, Try.func36, c36⟩
  · exact ⟨37, _, rfl, Try.func37, c37⟩
  · exact ⟨38, _, rfl, Try.func38, c38⟩
  · exact ⟨39, _, rfl, Try.func39, c39⟩
  · exact ⟨41, _, rfl, Try.func41, c41⟩
  · exact ⟨40, _, rfl, Try.func40, c40⟩
  · exact ⟨42, _, rfl, Try.func42, c42⟩
  · exact ⟨43, _, rfl, Try.func43, c43⟩
  · exact ⟨61, _, rfl, Try.func61, c61⟩
  · exact ⟨62, _, rfl, Try.func62, c62⟩
  · exact ⟨64, _, rfl, Try.func64, c64⟩
  · exact ⟨63, _, rfl, Try.func63, c63⟩
  · exact ⟨65, _, rfl, Try.func65, c65⟩
  · exact ⟨66, _, rfl, Try.func66, c66⟩
  · exact ⟨67, _, rfl, Try.func67, c67⟩
  · exact ⟨68, _, rfl, Try.func68, c68⟩
  · exact ⟨58, _, rfl, Try.func58, c58⟩
  · exact ⟨80, _, rfl, Try.func80, c80⟩
  · exact ⟨79, _, rfl, Try.func79, c79⟩
  · exact ⟨81, _, rfl, Try.func81, c81⟩
  · exact ⟨83, _, rfl, Try.func83, c83⟩
  · exact ⟨82, _, rfl, Try.func82, c82⟩
  · exact ⟨84, _, rfl, Try.func84, c84⟩
  · exact ⟨85, _, rfl, Try.func85, c85⟩
  · exact ⟨86, _, rfl, Try.func86, c86⟩
  · exact ⟨88, _, rfl, Try.func88, c88⟩
  · exact ⟨89, _, rfl, Try.func89, c89⟩
  · exact ⟨90, _, rfl, Try.func90, c90⟩
  · exact ⟨91, _, rfl, Try.func91, c91⟩
theorem hprog : ∀ base w0 f F, prog f = some F → FnOk Try.prog fid f F ∨ (F = xFn ∧ XOk Try.prog fid base w0 f) := by
  intro base w0 f F h
  unfold prog at h
  split at h <;> cases h
  · exact .inl ⟨8, _, rfl, Try.func8, c8⟩
  · exact .inl ⟨9, _, rfl, Try.func9, c9⟩
  · exact .inl ⟨10, _, rfl, Try.func10, c10⟩
  · exact .inl ⟨11, _, rfl, Try.func11, c11⟩
  · exact .inl ⟨32, _, rfl, Try.func32, c32⟩
  · exact .inl ⟨33, _, rfl, Try.func33, c33⟩
  · exact .inl ⟨30, _, rfl, Try.func30, c30⟩
  · exact .inl ⟨34, _, rfl, Try.func34, c34⟩
  · exact .inl ⟨35, _, rfl, Try.func35, c35⟩
  · exact .inl ⟨36, _, rfl, Try.func36, c36⟩
  · exact .inl ⟨37, _, rfl, Try.func37, c37⟩
  · exact .inl ⟨38, _, rfl, Try.func38, c38⟩
  · exact .inl ⟨39, _, rfl, Try.func39, c39⟩
  · exact .inl ⟨41, _, rfl, Try.func41, c41⟩
  · exact .inl ⟨40, _, rfl, Try.func40, c40⟩
  · exact .inl ⟨42, _, rfl, Try.func42, c42⟩
  · exact .inl ⟨43, _, rfl, Try.func43, c43⟩
  · exact .inl ⟨61, _, rfl, Try.func61, c61⟩
  · exact .inl ⟨62, _, rfl, Try.func62, c62⟩
  · exact .inl ⟨64, _, rfl, Try.func64, c64⟩
  · exact .inl ⟨63, _, rfl, Try.func63, c63⟩
  · exact .inl ⟨65, _, rfl, Try.func65, c65⟩
  · exact .inl ⟨66, _, rfl, Try.func66, c66⟩
  · exact .inl ⟨67, _, rfl, Try.func67, c67⟩
  · exact .inl ⟨68, _, rfl, Try.func68, c68⟩
  · exact .inl ⟨58, _, rfl, Try.func58, c58⟩
  · exact .inl ⟨80, _, rfl, Try.func80, c80⟩
  · exact .inl ⟨79, _, rfl, Try.func79, c79⟩
  · exact .inl ⟨81, _, rfl, Try.func81, c81⟩
  · exact .inl ⟨83, _, rfl, Try.func83, c83⟩
  · exact .inl ⟨82, _, rfl, Try.func82, c82⟩
  · exact .inl ⟨84, _, rfl, Try.func84, c84⟩
  · exact .inr ⟨rfl, xIns_ok hprog0 rfl⟩
  · exact .inl ⟨86, _, rfl, Try.func86, c86⟩
  · exact .inl ⟨88, _, rfl, Try.func88, c88⟩
  · exact .inl ⟨89, _, rfl, Try.func89, c89⟩
  · exact .inl ⟨90, _, rfl, Try.func90, c90⟩
  · exact .inl ⟨91, _, rfl, Try.func91, c91⟩
theorem own : ownKnob Try.prog.godebug = none := by kernel_rfl
theorem laidOut : laidOutB Try.prog = true := by kernel_rfl
end Go.Proofs.Ytikbagggffehkaa.ChkKeys
