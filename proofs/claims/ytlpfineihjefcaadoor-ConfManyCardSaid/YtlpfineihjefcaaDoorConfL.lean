/- Lines of settings: what the program's reading comes to at texts that are given. -/
import Derived.Test.YtlpfineihjefcaaDoorConfR
import Derived.Test.YtlpfineihjefcaaDoorConfB
import Derived.Test.YtlpfineihjefcaaDoorConfD
import Derived.Test.YtlpfineihjefcaaDoorAclRules
set_option linter.unusedVariables false
set_option linter.unusedSimpArgs false
namespace Go.Proofs.YtlpfineihjefcaaDoor.Conf
open Go.RowKit Go.Proofs.YtlpfineihjefcaaDoor.G Go.Proofs.YtlpfineihjefcaaDoorW.PrintWords Go.Proofs.YtlpfineihjefcaaDoorW.PrintMore Go.Proofs.YtlpfineihjefcaaDoor.Plain

theorem words_is (s : ByteArray) (ws : List ByteArray) (hs : s.size ≤ 1000) (h : wordsL [] (bytesOf s) = ws.map bytesOf) : wordsOf s = ws := map_bytes_inj (by rw [wordsOf, words_bytes, h])
theorem words_f (s : ByteArray) (ws : List ByteArray) (hs : s.size ≤ 1000) (h : wordsL [] (bytesOf s) = ws.map bytesOf) : acl_Words.f s = some ws := by rw [words_acl s hs, words_is s ws hs h]
def k1 : ByteArray := ⟨#[35, 32, 120, 10, 114, 97, 110, 103, 101, 115, 32, 111, 102, 102, 10, 32, 100, 101, 110, 121, 32, 68, 69, 76, 69, 84, 69, 32, 42, 32, 42, 42, 10]⟩
def k2 : ByteArray := ⟨#[108, 111, 103, 32, 53, 10, 122, 122]⟩
theorem k1_lines : linesOf k1 = [⟨#[35, 32, 120]⟩, ⟨#[114, 97, 110, 103, 101, 115, 32, 111, 102, 102]⟩, ⟨#[32, 100, 101, 110, 121, 32, 68, 69, 76, 69, 84, 69, 32, 42, 32, 42, 42]⟩, ⟨#[]⟩] := by decide +kernel
theorem k2_lines : linesOf k2 = [⟨#[108, 111, 103, 32, 53]⟩, ⟨#[122, 122]⟩] := by decide +kernel
theorem trim_0 : strings_TrimSuffix.f ⟨#[]⟩ ⟨#[13]⟩ = some ⟨#[]⟩ := by decide +kernel
theorem w1 : acl_Words.f ⟨#[35, 32, 120]⟩ = some [⟨#[35]⟩, ⟨#[120]⟩] := words_f _ _ (by decide) (by decide)
theorem w2 : acl_Words.f ⟨#[114, 97, 110, 103, 101, 115, 32, 111, 102, 102]⟩ = some [⟨#[114, 97, 110, 103, 101, 115]⟩, ⟨#[111, 102, 102]⟩] := words_f _ _ (by decide) (by decide)
theorem w3 : wordsOf ⟨#[32, 100, 101, 110, 121, 32, 68, 69, 76, 69, 84, 69, 32, 42, 32, 42, 42]⟩ = [⟨#[100, 101, 110, 121]⟩, ⟨#[68, 69, 76, 69, 84, 69]⟩, ⟨#[42]⟩, ⟨#[42, 42]⟩] := words_is _ _ (by decide) (by decide)
theorem r3 : ruleW [⟨#[100, 101, 110, 121]⟩, ⟨#[68, 69, 76, 69, 84, 69]⟩, ⟨#[42]⟩, ⟨#[42, 42]⟩] = (false, ⟨#[68, 69, 76, 69, 84, 69]⟩, ⟨#[42]⟩, ⟨#[42, 42]⟩, 0) := by decide +kernel
theorem num5 : conf_Number.f 5 ⟨#[53]⟩ 200 = some (5, true) := by decide +kernel
end Go.Proofs.YtlpfineihjefcaaDoor.Conf
