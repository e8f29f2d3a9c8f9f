/- laws.FnExactAskCheck returns true for every input whose arguments and package variables hold together at most 1048576 values and letters; the input reads as it did. -/
import Derived.Test.YtpgmljkhleidjaaGreatDoorG
import Derived.Test.YtpgmljkhleidjaaGreatDoorK
import Derived.Test.YtpgmljkhleidjaaGreatDoorL3
import Derived.Test.YtpgmljkhleidjaaGreatDoorY
import Derived.Test.YtpgmljkhleidjaaGreatDoorN0
import Derived.Test.YtpgmljkhleidjaaGreatDoorCards
import Derived.Test.YtpgmljkhleidjaaGreatDoorTie
import Derived.Deep.DeepHandedRow
import Derived.Lib.LaidTab
set_option linter.unusedVariables false
set_option linter.unusedSimpArgs false
namespace Go.Proofs.YtpgmljkhleidjaaGreatDoor.LM
open Go.ChangeShapes Go.WideShapes Go.ChangeAt Go.RowKit
open Go.Proofs.YtpgmljkhleidjaaGreatDoor
set_option maxRecDepth 100000
theorem plainLaw (f : FuncId) (fn : Func) (hf : Tryz.pinned.checked.prog.funcNamed "loop.example/portolan/laws.FnExactAskCheck" = some f) (hfn : Tryz.pinned.checked.prog.funcs[f]? = some fn) :
  false=Tryz.pinned.checked.prog.looks []/\∀ (j:Nat) t,fn.params[j]?=some t->Tryz.pinned.checked.prog.wantsStandIn t=false:=by
 obtain rfl : f = 6 := Option.some.inj ((show Tryz.prog.funcNamed "loop.example/portolan/laws.FnExactAskCheck" = some 6 by kernel_rfl).symm.trans hf) |>.symm
 obtain rfl:fn=Tryz.f6:=(Option.some.inj (Tryz.func6.symm.trans hfn)).symm
 refine⟨by kernel_rfl,fun j t ht=>?_⟩
 rw[Tryz.params6]at ht
 have hm:=Array.mem_of_getElem? ht
 simp only[List.mem_toArray,List.mem_cons,List.not_mem_nil,or_false]at hm
 rcases hm with rfl | rfl
 all_goals exact (show Tryz.prog.wantsStandIn _=false by kernel_rfl)
theorem cardUpto:Go.Proofs.YtpgmljkhleidjaaGreatDoor.Rows.FnExactAskCheckUptoCardSaid:=
 Claim7.holds_tied_plain_at .later [] _ _ _ _ saidUpto (fun _ h=>by cases h) (by kernel_rfl) (fun _ h=>by cases h) Go.Proofs.YtpgmljkhleidjaaGreatDoor.fnExactAskCheckUpto_row_tie rfl ⟨rfl,rfl⟩ (by kernel_rfl) rfl plainLaw (by kernel_rfl)
end Go.Proofs.YtpgmljkhleidjaaGreatDoor.LM
namespace Go.Proofs.YtpgmljkhleidjaaGreatDoor
theorem askCheck:Go.Proofs.YtpgmljkhleidjaaGreatDoor.Rows.FnExactAskCheckUptoCardSaid:=LM.cardUpto
end Go.Proofs.YtpgmljkhleidjaaGreatDoor
