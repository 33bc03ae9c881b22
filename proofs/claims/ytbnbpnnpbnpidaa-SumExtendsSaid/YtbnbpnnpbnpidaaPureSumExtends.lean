/- The plain law of SumExtends, over the printed functions.
   No condition. -/
import Derived.Test.YtbnbpnnpbnpidaaRSumExtendsx1
import Derived.Test.YtbnbpnnpbnpidaaSame
namespace Go.Proofs.Ytbnbpnnpbnpidaa.RSumExtends
open Go.Proofs.Ytbnbpnnpbnpidaa.QSumHashes Hash Crc
open Go.RowKit Go.Proofs.YtbnbpnnpbnpidaaW.PrintWords Go.Proofs.YtbnbpnnpbnpidaaW.PrintLast Go.Proofs.YtbnbpnnpbnpidaaW.PrintMore
set_option linter.unusedVariables false
set_option linter.unusedSimpArgs false
theorem pure : cellarlaw01_SumExtends.Pure := by
  intro l0 l1 _ hl0 hw0 _ hl1 hw1
  obtain ⟨a, rfl, ha⟩ := nats_wf l0 hw0
  obtain ⟨b, rfl, hb⟩ := nats_wf l1 hw1
  rw [ints_length] at hl0 hl1
  have hs := ext_lt (s := 0) (by decide) ha
  refine ⟨a.length + b.length + 100, ?_⟩
  unfold cellarlaw01_SumExtends.f cellarlaw01_joined.f cellarlaw01_lives.f
  rw [Option.bind_some, if_pos rfl, crc_eq _ a ha (by omega) (by omega), Option.bind_some, extend_eq _ _ b hs hb (by omega) (by omega), Option.bind_some, if_pos (by rw [ints_length, ints_length]; omega), Option.bind_some,
    ← ints_append, crc_eq _ (a ++ b) (Bytes.append ha hb) (by rw [List.length_append]; omega) (by rw [List.length_append]; omega), Option.bind_some, ext_append, beq_self_eq_true]
end Go.Proofs.Ytbnbpnnpbnpidaa.RSumExtends
namespace Go.Proofs.Ytbnbpnnpbnpidaa.Pure
theorem SumExtends : RSumExtends.cellarlaw01_SumExtends.Pure := RSumExtends.pure
end Go.Proofs.Ytbnbpnnpbnpidaa.Pure
