/- Short names of the rules. No condition. -/
import Derived.Test.YtpnnkehkjfciiaaGreatDoorPF
import Derived.Test.YtpnnkehkjfciiaaGreatDoorProg
import Derived.Test.YtpnnkehkjfciiaaGreatDoorXErr
import Derived.Test.YtpnnkehkjfciiaaGreatDoorXInd
import Derived.Test.YtpnnkehkjfciiaaGreatDoorXRowl
import Derived.Test.YtpnnkehkjfciiaaGreatDoorXShelf
namespace Go.Proofs.YtpnnkehkjfciiaaGreatDoor.W
open Go Go.RowKit LJ
abbrev Wg:= @WC.region
abbrev Ws:= @WC.seq
abbrev Wn:= @WL.nil
abbrev Wr:= @WL.run
abbrev Qn:= @QT.n
abbrev Qb:= @QB.n
abbrev Wk:= @WC.skip
abbrev Wt:= @WC.ret
abbrev Wc:= @WC.cond
abbrev We:= @WL.eff
abbrev Hr:= @WH.run
abbrev He:= @WH.eff
abbrev Wx:= @WL.sect
abbrev Wb:= @WC.block
abbrev Wa:= @WL.alloc
abbrev Hg:= @WH.gskip
abbrev Wl:= @WC.loop
abbrev Hp:= @WC.heldP
abbrev Ea:= @Ends.auto
abbrev Wf:= @WL.call
abbrev Hn:= @WH.nilF
abbrev Ao:= @AVle.of
abbrev Qx:= @QT.x
abbrev Qh:= @QB.hit
theorem tv:True:=trivial
end Go.Proofs.YtpnnkehkjfciiaaGreatDoor.W
