/- A part of the proofs of some statements of this chapter: texts of these claims, merged. -/
import Derived.Below
import Derived.WalkKit
import Derived.BigQuiet
import Derived.Lib.Hide
import Derived.ControlIn
import Derived.OwnWalkIn
import Derived.Lib.ItoaNum
import Derived.OrdersIn
import Derived.TacticsIn
import Derived.Deep.MidRow
import Derived.OpenShut
import Derived.Lib.SmallJoins
import Derived.Laws.Tables
import Derived.Laws.OwnMore
import Derived.Orders
import Derived.Test.YtjagmmmcibdibaaGreatDoorProg
import Derived.Shelf.Abstract
import Derived.Test.YtjagmmmcibdibaaGreatDoorRows
import Derived.Carry
import Derived.Lib.LaidU8
import Derived.Lib.LaidTab
import Derived.Lay
import Derived.MakeChecks
import Derived.RangeFuncLeaves
import Derived.RangeFuncOwn
import Derived.RecoverIn
import Derived.Laws.MakeOwn
import Derived.Laws.Strings
import Derived.WalkSpells
import Derived.WalkLawsBesides
import Derived.Laws.EntriesVeiled
import Derived.Deep.RegionHeld3
import Derived.Deep.QuietTactic
import Derived.Lib.Bytealg
import Derived.Shelf.Strings.Builder1
import Derived.Shelf.Small.Strs
import Derived.Shelf.Small.Wraps
import Derived.Shelf.Strings.BuilderF
import Derived.Shelf.Strings.BuilderK
import Derived.Shelf.Strconv.Atoi
import Derived.Shelf.Strconv.Itoa0
import Derived.Shelf.Strconv.Itoa1
import Derived.Shelf.LaysM
import Derived.Shelf.Strconv.Itoa2
import Derived.Shelf.Strconv.Itoa3
import Derived.Shelf.Strconv.AtoiErrFast
import Derived.Shelf.Strconv.ParseIntEmpty
import Derived.Shelf.Strconv.AtoiFail
import Derived.Shelf.Strconv.Clone
import Derived.Shelf.Strconv.SyntaxError
import Derived.Shelf.LaysC
import Derived.Shelf.Strconv.ToError
import Derived.Shelf.Strconv.AtoiErr
import Derived.Shelf.Strconv.ErrVar
import Derived.Shelf.Strconv.Lower
import Derived.Shelf.Strconv.ParseUint10
import Derived.Shelf.Strconv.ParseUint10Empty
import Derived.Shelf.Strconv.ParseUint10Any
import Derived.Shelf.Strconv.ParseInt10
import Derived.Shelf.Strconv.AtoiLong
import Derived.Shelf.Strconv.AtoiInnerAll
import Derived.Shelf.Strconv.RangeError
import Derived.Shelf.Strconv.ToErrorRange
import Derived.Shelf.Strconv.AtoiAll
import Derived.Shelf.Strconv.ErrVarAll
import Derived.Shelf.Strconv.ParseUintEmpty
import Derived.Shelf.Strconv.ParseUint10b64
import Derived.Shelf.Strconv.ParseUint10b32
import Derived.Shelf.Strconv.ParseUint10b16
import Derived.Shelf.Strconv.ParseUint10b8
import Derived.Shelf.Strconv.ParseUint10At
import Derived.Ground.MpProg
import Derived.Shelf.Pu.ParseUintPublic10
import Derived.Shelf.Pu.ErrVarParseUint
import Derived.Shelf.Strings.Search1
import Derived.Shelf.Strings.Search2
import Derived.Shelf.Strings.Cut
import Derived.Shelf.Strings.Shaped
import Derived.Shelf.Strings.Prefix
import Derived.Shelf.Strings.BuilderCap
import Derived.Shelf.Slices.Turned
import Derived.Ground.Names2Prog
import Derived.Shelf.Slices.SearchI
import Derived.Deep.DeepCutAuto
import Derived.Lib.IndexBytes
import Derived.Deep.LoopGhost
import Derived.StillTail
import Derived.BigRegion
import Derived.Deep.CutBlock
import Derived.RangeFuncBox
import Derived.RangeFuncCalls
import Derived.TacticsInMore
import Derived.LoopNIn
import Derived.LoopIn
import Derived.RangeFuncNested
import Derived.Test.YtjagmmmcibdibaaGreatDoorZI1
set_option linter.unusedVariables false
set_option linter.unusedSimpArgs false
set_option linter.unusedSectionVars false
set_option linter.all false
namespace Go.Proofs.YtjagmmmcibdibaaGreatDoor
open Go.RowKit
def tyNone:TyI:=⟨0,0,[],[],0,0,0,[],0,.i64⟩
def tyTab:List TyI:=[
 ⟨0,1,[.tuple #[]],[],0,0,0,[],0,.i64⟩,
 ⟨0,1,[.nilFunc],[],0,0,0,[],0,.i64⟩,
 ⟨5,1,[.int .i64 0],[],0,0,0,[],0,.i64⟩,
 ⟨5,1,[.int .i64 0],[],0,0,0,[],0,.i64⟩,
 ⟨6,1,[.bool false],[],0,0,0,[],0,.i64⟩,
 ⟨5,1,[.int .u8 0],[],0,0,0,[],0,.u8⟩,
 ⟨5,1,[.int .u8 0],[],0,0,0,[],0,.u8⟩,
 ⟨4,4,[.int .i64 0,.int .i64 0,.bool false,.int .u8 0],[(0,1),(1,1),(2,1),(3,1)],0,0,0,[],0,.i64⟩,
 ⟨4,4,[.int .i64 0,.int .i64 0,.bool false,.int .u8 0],[(0,1),(1,1),(2,1),(3,1)],0,0,0,[],0,.i64⟩,
 ⟨1,1,[.string ⟨#[]⟩],[],0,0,0,[],0,.i64⟩,
 ⟨1,1,[.string ⟨#[]⟩],[],0,0,0,[],0,.i64⟩,
 ⟨1,1,[.string ⟨#[]⟩],[],0,0,0,[],0,.i64⟩,
 ⟨5,1,[.int .u64 0],[],0,0,0,[],0,.u64⟩,
 ⟨4,2,[.string ⟨#[]⟩,.int .u64 0],[(0,1),(1,1)],0,0,0,[],0,.i64⟩,
 ⟨4,2,[.string ⟨#[]⟩,.int .u64 0],[(0,1),(1,1)],0,0,0,[],0,.i64⟩,
 ⟨0,1,[.pointer none],[],0,0,0,[],0,.i64⟩,
 ⟨0,1,[.pointer none],[],0,0,0,[],0,.i64⟩,
 ⟨0,1,[.pointer none],[],0,0,0,[],0,.i64⟩,
 ⟨4,1,[.pointer none],[(0,1)],0,0,0,[],0,.i64⟩,
 ⟨4,1,[.pointer none],[(0,1)],0,0,0,[],0,.i64⟩,
 ⟨0,1,[.nilIface],[],0,0,0,[],0,.i64⟩,
 ⟨5,1,[.int .i32 0],[],0,0,0,[],0,.i32⟩,
 ⟨2,1,[.slice none 0 0],[],24,4,56,[.int .i64 0,.int .i64 0,.string ⟨#[]⟩,.slice none 0 0],0,.i64⟩,
 ⟨4,4,[.int .i64 0,.int .i64 0,.string ⟨#[]⟩,.slice none 0 0],[(0,1),(1,1),(2,1),(3,1)],0,0,0,[],0,.i64⟩,
 ⟨4,4,[.int .i64 0,.int .i64 0,.string ⟨#[]⟩,.slice none 0 0],[(0,1),(1,1),(2,1),(3,1)],0,0,0,[],0,.i64⟩,
 ⟨2,1,[.slice none 0 0],[],5,1,1,[.int .u8 0],0,.i64⟩,
 ⟨4,8,[.int .u8 0,.int .u8 0,.int .i64 0,.string ⟨#[]⟩,.int .i64 0,.int .i64 0,.string ⟨#[]⟩,.slice none 0 0],[(0,1),(1,1),(2,1),(3,1),(4,4)],0,0,0,[],0,.i64⟩,
 ⟨4,8,[.int .u8 0,.int .u8 0,.int .i64 0,.string ⟨#[]⟩,.int .i64 0,.int .i64 0,.string ⟨#[]⟩,.slice none 0 0],[(0,1),(1,1),(2,1),(3,1),(4,4)],0,0,0,[],0,.i64⟩,
 ⟨2,1,[.slice none 0 0],[],9,1,16,[.string ⟨#[]⟩],0,.i64⟩,
 ⟨2,1,[.slice none 0 0],[],3,1,8,[.int .i64 0],0,.i64⟩,
 ⟨5,1,[.int .i16 0],[],0,0,0,[],0,.i16⟩,
 ⟨3,3,[.int .i16 0,.int .i16 0,.int .i16 0],[],30,1,2,[],3,.i64⟩,
 ⟨4,5,[.slice none 0 0,.slice none 0 0,.int .i16 0,.int .i16 0,.int .i16 0],[(0,1),(1,1),(2,3)],0,0,0,[],0,.i64⟩,
 ⟨4,5,[.slice none 0 0,.slice none 0 0,.int .i16 0,.int .i16 0,.int .i16 0],[(0,1),(1,1),(2,3)],0,0,0,[],0,.i64⟩,
 ⟨0,1,[.nilFunc],[],0,0,0,[],0,.i64⟩,
 ⟨0,1,[.nilFunc],[],0,0,0,[],0,.i64⟩,
 ⟨3,24,[.int .i64 0,.int .i64 0,.string ⟨#[]⟩,.slice none 0 0,.int .i64 0,.int .i64 0,.string ⟨#[]⟩,.slice none 0 0,.int .i64 0,.int .i64 0,.string ⟨#[]⟩,.slice none 0 0,.int .i64 0,.int .i64 0,.string ⟨#[]⟩,.slice none 0 0,.int .i64 0,.int .i64 0,.string ⟨#[]⟩,.slice none 0 0,.int .i64 0,.int .i64 0,.string ⟨#[]⟩,.slice none 0 0],[],24,4,56,[],6,.i64⟩,
 ⟨0,1,[.nilFunc],[],0,0,0,[],0,.i64⟩,
 ⟨4,2,[.slice none 0 0,.slice none 0 0],[(0,1),(1,1)],0,0,0,[],0,.i64⟩,
 ⟨3,8,[.slice none 0 0,.slice none 0 0,.slice none 0 0,.slice none 0 0,.slice none 0 0,.slice none 0 0,.slice none 0 0,.slice none 0 0],[],38,2,48,[],4,.i64⟩,
 ⟨1,1,[.string ⟨#[]⟩],[],0,0,0,[],0,.i64⟩,
 ⟨4,3,[.int .i64 0,.string ⟨#[]⟩,.bool false],[(0,1),(1,1),(2,1)],0,0,0,[],0,.i64⟩,
 ⟨4,3,[.int .i64 0,.string ⟨#[]⟩,.bool false],[(0,1),(1,1),(2,1)],0,0,0,[],0,.i64⟩,
 ⟨5,1,[.int .i64 0],[],0,0,0,[],0,.i64⟩,
 ⟨0,1,[.tuple { toList:=[.agg { toList:=[.int .i64 0,.string ⟨#[]⟩,.bool false] },.int .i64 0] }],[],0,0,0,[],0,.i64⟩,
 ⟨0,1,[.nilFunc],[],0,0,0,[],0,.i64⟩,
 ⟨0,1,[.nilFunc],[],0,0,0,[],0,.i64⟩,
 ⟨0,1,[.nilFunc],[],0,0,0,[],0,.i64⟩,
 ⟨0,1,[.nilFunc],[],0,0,0,[],0,.i64⟩,
 ⟨0,1,[.nilFunc],[],0,0,0,[],0,.i64⟩,
 ⟨0,1,[.nilFunc],[],0,0,0,[],0,.i64⟩,
 ⟨0,1,[.nilFunc],[],0,0,0,[],0,.i64⟩,
 ⟨0,1,[.nilFunc],[],0,0,0,[],0,.i64⟩,
 ⟨0,1,[.tuple { toList:=[.slice none 0 0,.int .i64 0] }],[],0,0,0,[],0,.i64⟩,
 ⟨0,1,[.nilFunc],[],0,0,0,[],0,.i64⟩,
 ⟨0,1,[.tuple { toList:=[.int .i64 0,.int .i64 0] }],[],0,0,0,[],0,.i64⟩,
 ⟨0,1,[.nilFunc],[],0,0,0,[],0,.i64⟩,
 ⟨0,1,[.nilFunc],[],0,0,0,[],0,.i64⟩,
 ⟨0,1,[.tuple { toList:=[.string ⟨#[]⟩,.int .i64 0] }],[],0,0,0,[],0,.i64⟩,
 ⟨0,1,[.nilFunc],[],0,0,0,[],0,.i64⟩,
 ⟨0,1,[.nilFunc],[],0,0,0,[],0,.i64⟩,
 ⟨3,6,[.bool false,.bool false,.bool false,.bool false,.bool false,.bool false],[],4,1,1,[],6,.i64⟩,
 ⟨0,1,[.nilFunc],[],0,0,0,[],0,.i64⟩,
 ⟨0,1,[.tuple { toList:=[.agg { toList:=[.int .i64 0,.int .i64 0,.string ⟨#[]⟩,.slice none 0 0] },.int .i64 0] }],[],0,0,0,[],0,.i64⟩,
 ⟨0,1,[.nilFunc],[],0,0,0,[],0,.i64⟩,
 ⟨0,1,[.nilFunc],[],0,0,0,[],0,.i64⟩,
 ⟨4,2,[.slice none 0 0,.slice none 0 0],[(0,1),(1,1)],0,0,0,[],0,.i64⟩,
 ⟨4,2,[.slice none 0 0,.slice none 0 0],[(0,1),(1,1)],0,0,0,[],0,.i64⟩,
 ⟨0,1,[.nilFunc],[],0,0,0,[],0,.i64⟩,
 ⟨4,0,[],[],0,0,0,[],0,.i64⟩,
 ⟨4,0,[],[],0,0,0,[],0,.i64⟩,
 ⟨0,1,[.tuple { toList:=[.agg #[],.bool false] }],[],0,0,0,[],0,.i64⟩,
 ⟨2,1,[.slice none 0 0],[],148,1,4,[.int .u32 0],0,.i64⟩,
 ⟨2,1,[.slice none 0 0],[],148,1,4,[.int .u32 0],0,.i64⟩,
 ⟨4,2,[.bool false,.slice none 0 0],[(0,1),(1,1)],0,0,0,[],0,.i64⟩,
 ⟨4,2,[.bool false,.slice none 0 0],[(0,1),(1,1)],0,0,0,[],0,.i64⟩,
 ⟨4,4,[.bool false,.slice none 0 0,.bool false,.slice none 0 0],[(0,2),(2,2)],0,0,0,[],0,.i64⟩,
 ⟨4,4,[.bool false,.slice none 0 0,.bool false,.slice none 0 0],[(0,2),(2,2)],0,0,0,[],0,.i64⟩,
 ⟨4,5,[.bool false,.slice none 0 0,.bool false,.slice none 0 0,.bool false],[(0,4),(4,1)],0,0,0,[],0,.i64⟩,
 ⟨4,5,[.bool false,.slice none 0 0,.bool false,.slice none 0 0,.bool false],[(0,4),(4,1)],0,0,0,[],0,.i64⟩,
 ⟨0,1,[.nilFunc],[],0,0,0,[],0,.i64⟩,
 ⟨0,1,[.nilFunc],[],0,0,0,[],0,.i64⟩,
 ⟨0,1,[.nilFunc],[],0,0,0,[],0,.i64⟩,
 ⟨0,1,[.nilFunc],[],0,0,0,[],0,.i64⟩,
 ⟨0,1,[.tuple { toList:=[.agg { toList:=[.int .i64 0,.string ⟨#[]⟩,.bool false] },.bool false] }],[],0,0,0,[],0,.i64⟩,
 ⟨0,1,[.nilFunc],[],0,0,0,[],0,.i64⟩,
 ⟨0,1,[.nilFunc],[],0,0,0,[],0,.i64⟩,
 ⟨0,1,[.nilFunc],[],0,0,0,[],0,.i64⟩,
 ⟨0,1,[.nilFunc],[],0,0,0,[],0,.i64⟩,
 ⟨0,1,[.nilFunc],[],0,0,0,[],0,.i64⟩,
 ⟨0,1,[.pointer none],[],0,0,0,[],0,.i64⟩,
 ⟨4,2,[.slice none 0 0,.int .i64 0],[(0,1),(1,1)],0,0,0,[],0,.i64⟩,
 ⟨4,2,[.slice none 0 0,.int .i64 0],[(0,1),(1,1)],0,0,0,[],0,.i64⟩,
 ⟨0,1,[.nilFunc],[],0,0,0,[],0,.i64⟩,
 ⟨0,1,[.nilFunc],[],0,0,0,[],0,.i64⟩,
 ⟨0,1,[.nilFunc],[],0,0,0,[],0,.i64⟩,
 ⟨0,1,[.nilFunc],[],0,0,0,[],0,.i64⟩,
 ⟨0,1,[.nilFunc],[],0,0,0,[],0,.i64⟩,
 ⟨0,1,[.nilFunc],[],0,0,0,[],0,.i64⟩,
 ⟨0,1,[.nilFunc],[],0,0,0,[],0,.i64⟩,
 ⟨0,1,[.nilFunc],[],0,0,0,[],0,.i64⟩,
 ⟨0,1,[.nilFunc],[],0,0,0,[],0,.i64⟩,
 ⟨0,1,[.nilFunc],[],0,0,0,[],0,.i64⟩,
 ⟨0,1,[.nilFunc],[],0,0,0,[],0,.i64⟩,
 ⟨0,1,[.nilFunc],[],0,0,0,[],0,.i64⟩,
 ⟨0,1,[.nilFunc],[],0,0,0,[],0,.i64⟩,
 ⟨0,1,[.nilFunc],[],0,0,0,[],0,.i64⟩,
 ⟨4,5,[.int .i64 0,.int .i64 0,.int .i64 0,.int .i64 0,.string ⟨#[]⟩],[(0,1),(1,1),(2,1),(3,1),(4,1)],0,0,0,[],0,.i64⟩,
 ⟨4,5,[.int .i64 0,.int .i64 0,.int .i64 0,.int .i64 0,.string ⟨#[]⟩],[(0,1),(1,1),(2,1),(3,1),(4,1)],0,0,0,[],0,.i64⟩,
 ⟨0,1,[.tuple { toList:=[.agg { toList:=[.int .i64 0,.int .i64 0,.int .i64 0,.int .i64 0,.string ⟨#[]⟩] },.bool false] }],[],0,0,0,[],0,.i64⟩,
 ⟨0,1,[.nilFunc],[],0,0,0,[],0,.i64⟩,
 ⟨0,1,[.nilFunc],[],0,0,0,[],0,.i64⟩,
 ⟨0,1,[.nilFunc],[],0,0,0,[],0,.i64⟩,
 ⟨0,1,[.nilFunc],[],0,0,0,[],0,.i64⟩,
 ⟨0,1,[.nilFunc],[],0,0,0,[],0,.i64⟩,
 ⟨0,1,[.nilFunc],[],0,0,0,[],0,.i64⟩,
 ⟨0,1,[.nilFunc],[],0,0,0,[],0,.i64⟩,
 ⟨3,11,[.nilFunc,.nilFunc,.nilFunc,.nilFunc,.nilFunc,.nilFunc,.nilFunc,.nilFunc,.nilFunc,.nilFunc,.nilFunc],[],98,1,8,[],11,.i64⟩,
 ⟨0,1,[.nilFunc],[],0,0,0,[],0,.i64⟩,
 ⟨0,1,[.nilFunc],[],0,0,0,[],0,.i64⟩,
 ⟨0,1,[.nilFunc],[],0,0,0,[],0,.i64⟩,
 ⟨0,1,[.nilFunc],[],0,0,0,[],0,.i64⟩,
 ⟨0,1,[.nilFunc],[],0,0,0,[],0,.i64⟩,
 ⟨0,1,[.nilFunc],[],0,0,0,[],0,.i64⟩,
 ⟨0,1,[.nilFunc],[],0,0,0,[],0,.i64⟩,
 ⟨0,1,[.tuple { toList:=[.agg { toList:=[.int .i64 0,.int .i64 0,.string ⟨#[]⟩,.slice none 0 0] },.int .i64 0,.int .i64 0] }],[],0,0,0,[],0,.i64⟩,
 ⟨0,1,[.nilFunc],[],0,0,0,[],0,.i64⟩,
 ⟨0,1,[.nilFunc],[],0,0,0,[],0,.i64⟩,
 ⟨0,1,[.tuple { toList:=[.string ⟨#[]⟩,.int .i64 0] }],[],0,0,0,[],0,.i64⟩,
 ⟨0,1,[.nilFunc],[],0,0,0,[],0,.i64⟩,
 ⟨3,8,[.int .i64 0,.int .i64 0,.int .i64 0,.int .i64 0,.int .i64 0,.int .i64 0,.int .i64 0,.int .i64 0],[],3,1,8,[],8,.i64⟩,
 ⟨0,1,[.nilFunc],[],0,0,0,[],0,.i64⟩,
 ⟨0,1,[.nilFunc],[],0,0,0,[],0,.i64⟩,
 ⟨0,1,[.nilFunc],[],0,0,0,[],0,.i64⟩,
 ⟨0,1,[.nilFunc],[],0,0,0,[],0,.i64⟩,
 ⟨4,5,[.bool false,.slice none 0 0,.bool false,.slice none 0 0,.int .i64 0],[(0,4),(4,1)],0,0,0,[],0,.i64⟩,
 ⟨4,5,[.bool false,.slice none 0 0,.bool false,.slice none 0 0,.int .i64 0],[(0,4),(4,1)],0,0,0,[],0,.i64⟩,
 ⟨0,1,[.nilFunc],[],0,0,0,[],0,.i64⟩,
 ⟨0,1,[.nilFunc],[],0,0,0,[],0,.i64⟩,
 ⟨0,1,[.nilFunc],[],0,0,0,[],0,.i64⟩,
 ⟨4,3,[.int .i64 0,.string ⟨#[]⟩,.int .i64 0],[(0,1),(1,1),(2,1)],0,0,0,[],0,.i64⟩,
 ⟨4,3,[.int .i64 0,.string ⟨#[]⟩,.int .i64 0],[(0,1),(1,1),(2,1)],0,0,0,[],0,.i64⟩,
 ⟨3,100,[.int .i64 0,.int .i64 0,.int .i64 0,.int .i64 0,.string ⟨#[]⟩,.int .i64 0,.int .i64 0,.int .i64 0,.int .i64 0,.string ⟨#[]⟩,.int .i64 0,.int .i64 0,.int .i64 0,.int .i64 0,.string ⟨#[]⟩,.int .i64 0,.int .i64 0,.int .i64 0,.int .i64 0,.string ⟨#[]⟩,.int .i64 0,.int .i64 0,.int .i64 0,.int .i64 0,.string ⟨#[]⟩,.int .i64 0,.int .i64 0,.int .i64 0,.int .i64 0,.string ⟨#[]⟩,.int .i64 0,.int .i64 0,.int .i64 0,.int .i64 0,.string ⟨#[]⟩,.int .i64 0,.int .i64 0,.int .i64 0,.int .i64 0,.string ⟨#[]⟩,.int .i64 0,.int .i64 0,.int .i64 0,.int .i64 0,.string ⟨#[]⟩,.int .i64 0,.int .i64 0,.int .i64 0,.int .i64 0,.string ⟨#[]⟩,.int .i64 0,.int .i64 0,.int .i64 0,.int .i64 0,.string ⟨#[]⟩,.int .i64 0,.int .i64 0,.int .i64 0,.int .i64 0,.string ⟨#[]⟩,.int .i64 0,.int .i64 0,.int .i64 0,.int .i64 0,.string ⟨#[]⟩,.int .i64 0,.int .i64 0,.int .i64 0,.int .i64 0,.string ⟨#[]⟩,.int .i64 0,.int .i64 0,.int .i64 0,.int .i64 0,.string ⟨#[]⟩,.int .i64 0,.int .i64 0,.int .i64 0,.int .i64 0,.string ⟨#[]⟩,.int .i64 0,.int .i64 0,.int .i64 0,.int .i64 0,.string ⟨#[]⟩,.int .i64 0,.int .i64 0,.int .i64 0,.int .i64 0,.string ⟨#[]⟩,.int .i64 0,.int .i64 0,.int .i64 0,.int .i64 0,.string ⟨#[]⟩,.int .i64 0,.int .i64 0,.int .i64 0,.int .i64 0,.string ⟨#[]⟩],[],108,5,48,[],20,.i64⟩,
 ⟨0,1,[.nilFunc],[],0,0,0,[],0,.i64⟩,
 ⟨0,1,[.nilFunc],[],0,0,0,[],0,.i64⟩,
 ⟨0,1,[.nilFunc],[],0,0,0,[],0,.i64⟩,
 ⟨0,1,[.nilFunc],[],0,0,0,[],0,.i64⟩,
 ⟨3,17,[.bool false,.bool false,.bool false,.bool false,.bool false,.bool false,.bool false,.bool false,.bool false,.bool false,.bool false,.bool false,.bool false,.bool false,.bool false,.bool false,.bool false],[],4,1,1,[],17,.i64⟩,
 ⟨5,1,[.int .u32 0],[],0,0,0,[],0,.u32⟩,
 ⟨0,1,[.pointer none],[],0,0,0,[],0,.i64⟩,
 ⟨4,2,[.pointer none,.slice none 0 0],[(0,1),(1,1)],0,0,0,[],0,.i64⟩,
 ⟨4,2,[.pointer none,.slice none 0 0],[(0,1),(1,1)],0,0,0,[],0,.i64⟩,
 ⟨0,1,[.nilIface],[],0,0,0,[],0,.i64⟩,
 ⟨0,1,[.nilIface],[],0,0,0,[],0,.i64⟩,
 ⟨0,1,[.nilFunc],[],0,0,0,[],0,.i64⟩,
 ⟨0,1,[.nilFunc],[],0,0,0,[],0,.i64⟩,
 ⟨0,1,[.tuple { toList:=[.int .i64 0,.nilIface] }],[],0,0,0,[],0,.i64⟩,
 ⟨0,1,[.nilFunc],[],0,0,0,[],0,.i64⟩,
 ⟨0,1,[.nilFunc],[],0,0,0,[],0,.i64⟩,
 ⟨0,1,[.nilFunc],[],0,0,0,[],0,.i64⟩,
 ⟨0,1,[.nilFunc],[],0,0,0,[],0,.i64⟩,
 ⟨0,1,[.tuple { toList:=[.string ⟨#[]⟩,.string ⟨#[]⟩] }],[],0,0,0,[],0,.i64⟩,
 ⟨0,1,[.nilFunc],[],0,0,0,[],0,.i64⟩,
 ⟨0,1,[.nilFunc],[],0,0,0,[],0,.i64⟩,
 ⟨0,1,[.nilFunc],[],0,0,0,[],0,.i64⟩,
 ⟨0,1,[.nilFunc],[],0,0,0,[],0,.i64⟩,
 ⟨0,1,[.nilFunc],[],0,0,0,[],0,.i64⟩,
 ⟨2,1,[.slice none 0 0],[],141,3,32,[.int .i64 0,.string ⟨#[]⟩,.int .i64 0],0,.i64⟩,
 ⟨0,1,[.tuple { toList:=[.slice none 0 0,.int .i64 0,.int .i64 0] }],[],0,0,0,[],0,.i64⟩,
 ⟨0,1,[.nilFunc],[],0,0,0,[],0,.i64⟩,
 ⟨0,1,[.nilFunc],[],0,0,0,[],0,.i64⟩,
 ⟨0,1,[.nilFunc],[],0,0,0,[],0,.i64⟩,
 ⟨0,1,[.nilFunc],[],0,0,0,[],0,.i64⟩,
 ⟨0,1,[.tuple { toList:=[.agg { toList:=[.bool false,.slice none 0 0] },.agg { toList:=[.bool false,.slice none 0 0] }] }],[],0,0,0,[],0,.i64⟩,
 ⟨0,1,[.nilFunc],[],0,0,0,[],0,.i64⟩,
 ⟨5,1,[.int .u64 0],[],0,0,0,[],0,.u64⟩,
 ⟨0,1,[.nilFunc],[],0,0,0,[],0,.i64⟩,
 ⟨0,1,[.nilFunc],[],0,0,0,[],0,.i64⟩,
 ⟨0,1,[.nilFunc],[],0,0,0,[],0,.i64⟩,
 ⟨0,1,[.tuple { toList:=[.string ⟨#[]⟩,.string ⟨#[]⟩,.bool false] }],[],0,0,0,[],0,.i64⟩,
 ⟨0,1,[.nilFunc],[],0,0,0,[],0,.i64⟩,
 ⟨0,1,[.nilFunc],[],0,0,0,[],0,.i64⟩,
 ⟨0,1,[.nilFunc],[],0,0,0,[],0,.i64⟩,
 ⟨0,1,[.nilFunc],[],0,0,0,[],0,.i64⟩,
 ⟨0,1,[.nilFunc],[],0,0,0,[],0,.i64⟩,
 ⟨0,1,[.nilFunc],[],0,0,0,[],0,.i64⟩,
 ⟨0,1,[.pointer none],[],0,0,0,[],0,.i64⟩,
 ⟨0,1,[.nilFunc],[],0,0,0,[],0,.i64⟩,
 ⟨0,1,[.nilFunc],[],0,0,0,[],0,.i64⟩,
 ⟨0,1,[.nilFunc],[],0,0,0,[],0,.i64⟩,
 ⟨0,1,[.nilFunc],[],0,0,0,[],0,.i64⟩,
 ⟨0,1,[.nilFunc],[],0,0,0,[],0,.i64⟩,
 ⟨0,1,[.nilFunc],[],0,0,0,[],0,.i64⟩,
 ⟨0,1,[.nilFunc],[],0,0,0,[],0,.i64⟩,
 ⟨0,1,[.nilFunc],[],0,0,0,[],0,.i64⟩,
 ⟨4,1,[.int .i64 0],[(0,1)],0,0,0,[],0,.i64⟩,
 ⟨4,1,[.int .i64 0],[(0,1)],0,0,0,[],0,.i64⟩,
 ⟨0,1,[.tuple { toList:=[.agg { toList:=[.int .i64 0] },.bool false] }],[],0,0,0,[],0,.i64⟩,
 ⟨0,1,[.nilFunc],[],0,0,0,[],0,.i64⟩,
 ⟨0,1,[.nilFunc],[],0,0,0,[],0,.i64⟩,
 ⟨0,1,[.nilFunc],[],0,0,0,[],0,.i64⟩,
 ⟨0,1,[.nilFunc],[],0,0,0,[],0,.i64⟩,
 ⟨0,1,[.nilFunc],[],0,0,0,[],0,.i64⟩,
 ⟨0,1,[.pointer none],[],0,0,0,[],0,.i64⟩,
 ⟨4,2,[.slice none 0 0,.int .i64 0],[(0,1),(1,1)],0,0,0,[],0,.i64⟩,
 ⟨4,2,[.slice none 0 0,.int .i64 0],[(0,1),(1,1)],0,0,0,[],0,.i64⟩,
 ⟨4,2,[.slice none 0 0,.int .i64 0],[(0,2)],0,0,0,[],0,.i64⟩,
 ⟨4,2,[.slice none 0 0,.int .i64 0],[(0,2)],0,0,0,[],0,.i64⟩,
 ⟨4,0,[],[],0,0,0,[],0,.i64⟩,
 ⟨0,1,[.tuple { toList:=[.agg #[],.bool false] }],[],0,0,0,[],0,.i64⟩,
 ⟨0,1,[.nilFunc],[],0,0,0,[],0,.i64⟩,
 ⟨0,1,[.tuple { toList:=[.slice none 0 0,.slice none 0 0] }],[],0,0,0,[],0,.i64⟩,
 ⟨0,1,[.nilFunc],[],0,0,0,[],0,.i64⟩,
 ⟨0,1,[.nilFunc],[],0,0,0,[],0,.i64⟩,
 ⟨0,1,[.nilFunc],[],0,0,0,[],0,.i64⟩,
 ⟨0,1,[.nilFunc],[],0,0,0,[],0,.i64⟩,
 ⟨0,1,[.pointer none],[],0,0,0,[],0,.i64⟩,
 ⟨0,1,[.nilFunc],[],0,0,0,[],0,.i64⟩,
 ⟨0,1,[.nilFunc],[],0,0,0,[],0,.i64⟩,
 ⟨0,1,[.tuple { toList:=[.int .i64 0,.int .i64 0,.bool false] }],[],0,0,0,[],0,.i64⟩,
 ⟨0,1,[.nilFunc],[],0,0,0,[],0,.i64⟩,
 ⟨0,1,[.tuple { toList:=[.slice none 0 0,.slice none 0 0] }],[],0,0,0,[],0,.i64⟩,
 ⟨0,1,[.nilFunc],[],0,0,0,[],0,.i64⟩,
 ⟨0,1,[.nilFunc],[],0,0,0,[],0,.i64⟩,
 ⟨0,1,[.nilFunc],[],0,0,0,[],0,.i64⟩,
 ⟨0,1,[.nilFunc],[],0,0,0,[],0,.i64⟩,
 ⟨0,1,[.pointer none],[],0,0,0,[],0,.i64⟩,
 ⟨4,2,[.string ⟨#[]⟩,.int .i64 0],[(0,1),(1,1)],0,0,0,[],0,.i64⟩,
 ⟨4,2,[.string ⟨#[]⟩,.int .i64 0],[(0,1),(1,1)],0,0,0,[],0,.i64⟩,
 ⟨3,3,[.nilFunc,.nilFunc,.nilFunc],[],187,1,8,[],3,.i64⟩,
 ⟨0,1,[.nilFunc],[],0,0,0,[],0,.i64⟩,
 ⟨4,5,[.string ⟨#[]⟩,.int .i64 0,.nilFunc,.nilFunc,.nilFunc],[(0,2),(2,3)],0,0,0,[],0,.i64⟩,
 ⟨4,5,[.string ⟨#[]⟩,.int .i64 0,.nilFunc,.nilFunc,.nilFunc],[(0,2),(2,3)],0,0,0,[],0,.i64⟩,
 ⟨0,1,[.nilFunc],[],0,0,0,[],0,.i64⟩,
 ⟨0,1,[.nilFunc],[],0,0,0,[],0,.i64⟩,
 ⟨0,1,[.tuple { toList:=[.slice none 0 0,.int .u32 0] }],[],0,0,0,[],0,.i64⟩,
 ⟨0,1,[.nilFunc],[],0,0,0,[],0,.i64⟩,
 ⟨0,1,[.nilFunc],[],0,0,0,[],0,.i64⟩,
 ⟨0,1,[.nilFunc],[],0,0,0,[],0,.i64⟩,
 ⟨0,1,[.nilFunc],[],0,0,0,[],0,.i64⟩,
 ⟨0,1,[.nilFunc],[],0,0,0,[],0,.i64⟩,
 ⟨0,1,[.nilFunc],[],0,0,0,[],0,.i64⟩,
 ⟨0,1,[.nilFunc],[],0,0,0,[],0,.i64⟩,
 ⟨0,1,[.nilFunc],[],0,0,0,[],0,.i64⟩,
 ⟨0,1,[.tuple { toList:=[.int .u64 0,.nilIface] }],[],0,0,0,[],0,.i64⟩,
 ⟨0,1,[.nilFunc],[],0,0,0,[],0,.i64⟩,
 ⟨3,24,[.int .u8 0,.int .u8 0,.int .u8 0,.int .u8 0,.int .u8 0,.int .u8 0,.int .u8 0,.int .u8 0,.int .u8 0,.int .u8 0,.int .u8 0,.int .u8 0,.int .u8 0,.int .u8 0,.int .u8 0,.int .u8 0,.int .u8 0,.int .u8 0,.int .u8 0,.int .u8 0,.int .u8 0,.int .u8 0,.int .u8 0,.int .u8 0],[],5,1,1,[],24,.i64⟩,
 ⟨0,1,[.nilFunc],[],0,0,0,[],0,.i64⟩,
 ⟨0,1,[.nilFunc],[],0,0,0,[],0,.i64⟩,
 ⟨0,1,[.tuple { toList:=[.slice none 0 0,.string ⟨#[]⟩] }],[],0,0,0,[],0,.i64⟩,
 ⟨0,1,[.nilFunc],[],0,0,0,[],0,.i64⟩,
 ⟨4,2,[.int .u8 0,.int .u8 0],[(0,1),(1,1)],0,0,0,[],0,.i64⟩,
 ⟨4,2,[.int .u8 0,.int .u8 0],[(0,1),(1,1)],0,0,0,[],0,.i64⟩,
 ⟨0,1,[.nilFunc],[],0,0,0,[],0,.i64⟩,
 ⟨0,1,[.tuple { toList:=[.int .i64 0,.bool false] }],[],0,0,0,[],0,.i64⟩,
 ⟨0,1,[.nilFunc],[],0,0,0,[],0,.i64⟩,
 ⟨0,1,[.nilFunc],[],0,0,0,[],0,.i64⟩,
 ⟨5,1,[.int .u64 0],[],0,0,0,[],0,.u64⟩,
 ⟨0,1,[.nilFunc],[],0,0,0,[],0,.i64⟩,
 ⟨0,1,[.nilFunc],[],0,0,0,[],0,.i64⟩,
 ⟨0,1,[.nilFunc],[],0,0,0,[],0,.i64⟩,
 ⟨3,20,[.int .u64 0,.int .u64 0,.int .u64 0,.int .u64 0,.int .u64 0,.int .u64 0,.int .u64 0,.int .u64 0,.int .u64 0,.int .u64 0,.int .u64 0,.int .u64 0,.int .u64 0,.int .u64 0,.int .u64 0,.int .u64 0,.int .u64 0,.int .u64 0,.int .u64 0,.int .u64 0],[],175,1,8,[],20,.i64⟩,
 ⟨3,65,[.int .u8 0,.int .u8 0,.int .u8 0,.int .u8 0,.int .u8 0,.int .u8 0,.int .u8 0,.int .u8 0,.int .u8 0,.int .u8 0,.int .u8 0,.int .u8 0,.int .u8 0,.int .u8 0,.int .u8 0,.int .u8 0,.int .u8 0,.int .u8 0,.int .u8 0,.int .u8 0,.int .u8 0,.int .u8 0,.int .u8 0,.int .u8 0,.int .u8 0,.int .u8 0,.int .u8 0,.int .u8 0,.int .u8 0,.int .u8 0,.int .u8 0,.int .u8 0,.int .u8 0,.int .u8 0,.int .u8 0,.int .u8 0,.int .u8 0,.int .u8 0,.int .u8 0,.int .u8 0,.int .u8 0,.int .u8 0,.int .u8 0,.int .u8 0,.int .u8 0,.int .u8 0,.int .u8 0,.int .u8 0,.int .u8 0,.int .u8 0,.int .u8 0,.int .u8 0,.int .u8 0,.int .u8 0,.int .u8 0,.int .u8 0,.int .u8 0,.int .u8 0,.int .u8 0,.int .u8 0,.int .u8 0,.int .u8 0,.int .u8 0,.int .u8 0,.int .u8 0],[],5,1,1,[],65,.i64⟩,
 ⟨0,1,[.nilFunc],[],0,0,0,[],0,.i64⟩,
 ⟨0,1,[.tuple { toList:=[.int .u32 0,.int .u32 0] }],[],0,0,0,[],0,.i64⟩,
 ⟨0,1,[.nilFunc],[],0,0,0,[],0,.i64⟩,
 ⟨5,1,[.int .i64 0],[],0,0,0,[],0,.i64⟩,
 ⟨0,1,[.nilFunc],[],0,0,0,[],0,.i64⟩,
 ⟨0,1,[.pointer none],[],0,0,0,[],0,.i64⟩,
 ⟨0,1,[.nilFunc],[],0,0,0,[],0,.i64⟩,
 ⟨0,1,[.nilFunc],[],0,0,0,[],0,.i64⟩,
 ⟨0,1,[.nilFunc],[],0,0,0,[],0,.i64⟩,
 ⟨0,1,[.tuple { toList:=[.int .i64 0,.nilIface] }],[],0,0,0,[],0,.i64⟩,
 ⟨0,1,[.nilFunc],[],0,0,0,[],0,.i64⟩,
 ⟨4,3,[.string ⟨#[]⟩,.string ⟨#[]⟩,.nilIface],[(0,1),(1,1),(2,1)],0,0,0,[],0,.i64⟩,
 ⟨4,3,[.string ⟨#[]⟩,.string ⟨#[]⟩,.nilIface],[(0,1),(1,1),(2,1)],0,0,0,[],0,.i64⟩,
 ⟨0,1,[.nilFunc],[],0,0,0,[],0,.i64⟩,
 ⟨3,32,[.int .u8 0,.int .u8 0,.int .u8 0,.int .u8 0,.int .u8 0,.int .u8 0,.int .u8 0,.int .u8 0,.int .u8 0,.int .u8 0,.int .u8 0,.int .u8 0,.int .u8 0,.int .u8 0,.int .u8 0,.int .u8 0,.int .u8 0,.int .u8 0,.int .u8 0,.int .u8 0,.int .u8 0,.int .u8 0,.int .u8 0,.int .u8 0,.int .u8 0,.int .u8 0,.int .u8 0,.int .u8 0,.int .u8 0,.int .u8 0,.int .u8 0,.int .u8 0],[],5,1,1,[],32,.i64⟩,
 ⟨3,64,[.int .u8 0,.int .u8 0,.int .u8 0,.int .u8 0,.int .u8 0,.int .u8 0,.int .u8 0,.int .u8 0,.int .u8 0,.int .u8 0,.int .u8 0,.int .u8 0,.int .u8 0,.int .u8 0,.int .u8 0,.int .u8 0,.int .u8 0,.int .u8 0,.int .u8 0,.int .u8 0,.int .u8 0,.int .u8 0,.int .u8 0,.int .u8 0,.int .u8 0,.int .u8 0,.int .u8 0,.int .u8 0,.int .u8 0,.int .u8 0,.int .u8 0,.int .u8 0,.int .u8 0,.int .u8 0,.int .u8 0,.int .u8 0,.int .u8 0,.int .u8 0,.int .u8 0,.int .u8 0,.int .u8 0,.int .u8 0,.int .u8 0,.int .u8 0,.int .u8 0,.int .u8 0,.int .u8 0,.int .u8 0,.int .u8 0,.int .u8 0,.int .u8 0,.int .u8 0,.int .u8 0,.int .u8 0,.int .u8 0,.int .u8 0,.int .u8 0,.int .u8 0,.int .u8 0,.int .u8 0,.int .u8 0,.int .u8 0,.int .u8 0,.int .u8 0],[],5,1,1,[],64,.i64⟩,
 ⟨0,1,[.pointer none],[],0,0,0,[],0,.i64⟩,
 ⟨4,1,[.string ⟨#[]⟩],[(0,1)],0,0,0,[],0,.i64⟩,
 ⟨4,1,[.string ⟨#[]⟩],[(0,1)],0,0,0,[],0,.i64⟩,
 ⟨4,4,[.pointer none,.pointer none,.pointer none,.string ⟨#[]⟩],[(0,1),(1,1),(2,1),(3,1)],0,0,0,[],0,.i64⟩,
 ⟨4,4,[.pointer none,.pointer none,.pointer none,.string ⟨#[]⟩],[(0,1),(1,1),(2,1),(3,1)],0,0,0,[],0,.i64⟩,
 ⟨3,0,[],[],16,1,8,[],0,.i64⟩,
 ⟨4,0,[],[(0,0)],0,0,0,[],0,.i64⟩,
 ⟨4,0,[],[(0,0)],0,0,0,[],0,.i64⟩,
 ⟨5,1,[.int .u8 0],[],0,0,0,[],0,.u8⟩,
 ⟨5,1,[.int .u8 0],[],0,0,0,[],0,.u8⟩,
 ⟨0,1,[.nilFunc],[],0,0,0,[],0,.i64⟩,
 ⟨5,1,[.int .i32 0],[],0,0,0,[],0,.i32⟩,
 ⟨5,1,[.int .i32 0],[],0,0,0,[],0,.i32⟩,
 ⟨4,11,[.int .u64 0,.int .u64 0,.int .u32 0,.int .u8 0,.int .u8 0,.int .u8 0,.int .u8 0,.nilFunc,.pointer none,.int .i32 0,.int .i32 0],[(0,1),(1,1),(2,1),(3,1),(4,1),(5,1),(6,1),(7,1),(8,1),(9,1),(10,1)],0,0,0,[],0,.i64⟩,
 ⟨4,11,[.int .u64 0,.int .u64 0,.int .u32 0,.int .u8 0,.int .u8 0,.int .u8 0,.int .u8 0,.nilFunc,.pointer none,.int .i32 0,.int .i32 0],[(0,1),(1,1),(2,1),(3,1),(4,1),(5,1),(6,1),(7,1),(8,1),(9,1),(10,1)],0,0,0,[],0,.i64⟩]
def tyi (t:Nat):TyI:=tyTab.getD t tyNone
def A4:Nat->Bool:=fun t=>decide (t<294)
set_option maxRecDepth 100000 in
theorem tyAll:(List.range 294).map (fun t=>bif A4 t then TyI.of Tryz.prog t else none)=(List.range 294).map (fun t=>bif A4 t then some (tyi t) else none):=by kernel_rfl
theorem Fc (t:Nat) (h:A4 t=true):TyI.of Tryz.prog t=some (tyi t):=by
 have hlt:t<294:=by
  simp only [A4,Bool.and_eq_true,decide_eq_true_eq] at h
  omega
 have h1:=congrArg (fun l=>l[t]?) tyAll
 simp only [List.getElem?_map,List.getElem?_range hlt,Option.map_some,h,cond_true,Option.some.injEq] at h1
 exact h1
section
variable {N:Nat} {ops:Array Oper} {rest:List Oper} {o:Oper} {F:Nat->PV} {S S':PS} {q:WRes->Prop} {C:Prop} {r:PV} {Q:Exit->(Nat->PV)->PS->Prop}
theorem wst (hg:Ak ops F o=some true) (h:Hj tyi A4 F S o.op=some (C,r,S')) (hC:C) (k:WK Tryz.prog N ops rest (B8 N o.dst r F) S' q):WK Tryz.prog N ops (o::rest) F S q :=
 D8 hg (H9 Fc h hC) k
theorem wstB {r':PV} {S'':PS} (hg:Ak ops F o=some true) (h:Hk tyi A4 F S o.op=some (C,r,S')) (hr:r=r') (hS:S'=S'') (hC:C) (k:WK Tryz.prog N ops rest (B8 N o.dst r' F) S'' q):WK Tryz.prog N ops (o::rest) F S q:=by
 subst hr;subst hS
 exact D8 hg (Fu Fc h hC) k
theorem wix {t:TypeId} {x y:Operand} {l:List (List DV)} {kd:IntKind} {j:Int} (e:List DV) (hg:Ak ops F o=some true) (ho:o.op = .indexAddr t x y) (hk:(A4 t&&Nat.beq (tyi t).kind 2)=true) (hx:S.toS (tyi t).ek (evP F x)=some l) (hy:evP F y = .d (.v (.int kd j)))
  (he:l[j.toNat]? = some e) (h0:0<=j) (k:WK Tryz.prog N ops rest (B8 N o.dst (.ep e) F) S q):WK Tryz.prog N ops (o::rest) F S q:=by
 simp only [Bool.and_eq_true] at hk
 exact D8 hg (Jp ho (Fc t hk.1) (Nat.eq_of_beq_eq_true hk.2) hx hy h0 he) k
end
abbrev Am (f:Nat) (args:List PV) (S:PS) (out:POut) (S':PS):Prop:=Ent Tryz.prog f/\EvC Tryz.prog f args S out S'
theorem Ad {f:Nat} {fn:Func} {c:Code} {args:List PV} {S:PS} {out:POut} {S':PS} (hf:Tryz.prog.funcs[f]? = some fn) (hname:(fn.name == "runtime.NumGoroutine")=false) (hb:fn.body=some c) (hn:args.length<=fn.ntmps) (hS:S'.boxes.length=S.boxes.length) (hT:S.toks.length<=S'.toks.length)
  (h:PW Tryz.prog fn.ntmps c (Rp Tryz.prog fn out S') (Hq args) S):Am f args S out S' :=
 ⟨enters_of hf hname hb,Afd hf hb hn hS hT h⟩
theorem Ag {F:Nat->PV}:Ua [] F:=fun _ h=>by cases h
theorem Aa {F:Nat->PV} {t:Nat} {p:PV} {L:List (Nat×PV)} (h:F t=p) (h':Ua L F):Ua ((t,p)::L) F:=fun q hq=>by
 rcases List.mem_cons.1 hq with rfl|hq
 ·exact h
 ·exact h' q hq
def resP (F:Nat->PV) (S:PS):ResultVar->Option PV
 |.tmp t=>match Ze S (F t) with
  |some (_,p,_)=>some p
  |none=>none
 |.cell x T=>bif A4 T then
   match F x with
   |.ptr id off=>match S.boxes[id]? with
    |some c=>bif (tyi T).isRow then (bif Nat.ble (off+(tyi T).size) c.length then some (.agg ((c.drop off).take (tyi T).size)) else none) else c[off]?
    |none=>none
   |_=>none
  else none
def Wv (F:Nat->PV) (S:PS):List ResultVar->Option (List PV)
 |[]=>some []
 |r::rs=>match resP F S r with
  |some p=>match Wv F S rs with
   |some ps=>some (p::ps)
   |none=>none
  |none=>none
theorem resP_ok {F:Nat->PV} {S:PS} {r:ResultVar} {p:PV} (h:resP F S r=some p):Rm Tryz.prog F S r p:=by
 cases r with
 |tmp t =>
  simp only [resP] at h
  simp only [Rm]
  cases e:F t<;>rw [e] at h<;>simp only [Ze,Option.some.injEq] at h<;>exact h
 |cell x T =>
  simp only [resP] at h
  simp only [Rm]
  cases hk:A4 T with
  |false=>rw [hk] at h;cases h
  |true =>
   rw [hk] at h
   simp only [cond_true] at h
   split at h
   ·rename_i id off hx
    split at h
    ·rename_i c hc
     refine ⟨id,off,c,tyi T,hx,hc,Fc T hk,?_⟩
     cases hr:(tyi T).isRow with
     |true =>
      rw [hr] at h
      simp only [cond_true] at h
      cases hle:Nat.ble (off+(tyi T).size) c.length with
      |false=>rw [hle] at h;cases h
      |true=>rw [hle] at h;cases h;exact .inl ⟨rfl,by simpa using hle,rfl⟩
     |false=>rw [hr] at h;exact .inr ⟨rfl,h⟩
    ·cases h
   ·cases h
theorem Bt {F:Nat->PV} {S:PS}:∀ {rs:List ResultVar} {ps:List PV},Wv F S rs=some ps->Km Tryz.prog F S rs ps
 |[],ps,h=>by simp only [Wv] at h;cases h;rfl
 |r::rs,ps,h=>by
  simp only [Wv] at h
  split at h
  ·rename_i p hp
   split at h
   ·rename_i ps' hps;cases h;exact ⟨p,ps',rfl,resP_ok hp,Bt hps⟩
   ·cases h
  ·cases h
theorem fin {fn:Func} {F:Nat->PV} {S S':PS} {e:Exit} {ps:List PV} {r r':PV} (hall:(S.boxes.take S'.boxes.length).all (fun c=>PV.ltL S'.boxes.length S'.toks.length c)=true) (hcut:S.cut S'.boxes.length S'.toks.length=S') (he:e = .normal\/e = .ret)
  (hps:Wv F S fn.results.toList=some ps) (hv:T8 ps=r') (hr:r'=r) (hlt:r.lt S'.boxes.length S'.toks.length=true):Rp Tryz.prog fn (.ret r) S' e F S :=
 ⟨hall,hcut,he,ps,Bt hps,hv.trans hr,hlt⟩
def NL (l l':List PV):Prop:=l=l'
theorem Is {l:List PV} (h:l=[]):NL l []:=h
theorem Agy {l r r':List PV} {c:DV} (h:l = .d c::r) (k:NL r r'):NL l (.d c::r'):=by cases k;exact h
theorem Agz {l r r':List PV} {id off:Nat} (h:l = .ptr id off::r) (k:NL r r'):NL l (.ptr id off::r'):=by cases k;exact h
theorem Ag1 {l r r':List PV} {a:PV} (h:l=a::r) (k:NL r r'):NL l (a::r'):=by cases k;exact h
def NB (l l':List (List PV)):Prop:=l=l'
theorem Agw {l:List (List PV)} (h:l=[]):NB l []:=h
theorem Ys {l r r':List (List PV)} {c c':List PV} (h:l=c::r) (k1:NL c c') (k:NB r r'):NB l (c'::r'):=by cases k1;cases k;exact h
def NT (l l':List RTok):Prop:=l=l'
theorem Ag7 {l:List RTok} (h:l=[]):NT l []:=h
theorem Yx {l r r':List RTok} {T:RTok} (h:l=T::r) (k:NT r r'):NT l (T::r'):=by cases k;exact h
theorem ns_of {S:PS} {bs bs':List (List PV)} {ts ts':List RTok} (h:S=⟨bs,ts⟩) (k:NB bs bs') (k':NT ts ts'):S=⟨bs',ts'⟩:=by cases k;cases k';exact h
theorem O3 {r:PV} {l l':List PV} (h:r = .agg l) (k:NL l l'):r = .agg l':=by cases k;exact h
theorem nr_tup {r:PV} {l l':List PV} (h:r = .tup l) (k:NL l l'):r = .tup l':=by cases k;exact h
theorem nr_d {r:PV} {c:DV} (h:r = .d c):r = .d c:=h
mutual
def fitP:PV->Prop
 |.d (.sl _ l)=>l.length<=9223372036854775807
 |.agg l=>fitL l
 |_=>True
def fitL:List PV->Prop
 |[]=>True
 |p::r=>fitP p/\fitL r
end
mutual
theorem rep_fit {K:Kx} {w:World}:∀ (p:PV) (u:Value),Rep K w p u->fitP p
 |.d (.sl k l),u,h=>by
  simp only [Rep,Ci] at h
  obtain ⟨_,cap,_,h1,h2,_⟩:=h
  exact Nat.le_trans h1 h2
 |.agg l,u,h=>by
  simp only [Rep] at h
  obtain ⟨cs,_,h⟩:=h
  exact N5 l cs h
 |.d (.v _),_,_=>trivial
 |.any,_,_=>trivial
 |.un,_,_=>trivial
 |.tup _,_,_=>trivial
 |.ptr _ _,_,_=>trivial
 |.ep _,_,_=>trivial
 |.hd _ _,_,_=>trivial
 |.bsl _ _ _ _ _,_,_=>trivial
 |.fn _ _,_,_=>trivial
theorem N5 {K:Kx} {w:World}:∀ (l:List PV) (us:List Value),Ao K w l us->fitL l
 |[],_,_=>trivial
 |p::r,us,h=>by
  simp only [Ao] at h
  obtain ⟨u,us',_,h1,h2⟩:=h
  exact ⟨rep_fit p u h1,N5 r us' h2⟩
end
theorem Er {f:Nat} {fn:Func} {c:Code} {args:List PV} {S:PS} {out:POut} {S':PS} (hf:Tryz.prog.funcs[f]? = some fn) (hname:(fn.name == "runtime.NumGoroutine")=false) (hb:fn.body=some c) (hn:args.length<=fn.ntmps) (hS:S'.boxes.length=S.boxes.length) (hT:S.toks.length<=S'.toks.length)
  (h:fitL args->PW Tryz.prog fn.ntmps c (Rp Tryz.prog fn out S') (Hq args) S):Am f args S out S' :=
 ⟨enters_of hf hname hb,fun K w vs hI hA=>Afd hf hb hn hS hT (h (N5 _ _ hA)) K w vs hI hA⟩
structure Und (b:Bool):Prop where
 ok:b=b
theorem Mv (b:Bool):Und b:=⟨rfl⟩
def Qa (d:Nat) (v:PV) (F:Nat->PV):Nat->PV:=fun t=>bif Nat.beq t d then v else F t
theorem Hh {d:Nat} {v:PV} {F:Nat->PV} (h:F d=v):Qa d v F=F:=by
 funext t
 unfold Qa
 cases e:Nat.beq t d with
 |false=>rfl
 |true=>rw [Nat.eq_of_beq_eq_true e];exact h.symm
mutual
theorem lt_mono {n m n' m':Nat} (hn:n<=n') (hm:m<=m'):∀ p:PV,p.lt n m=true->p.lt n' m'=true
 |.ptr id _,h=>by simp only [PV.lt,Nat.blt_eq] at h |-;omega
 |.bsl _ id _ _ _,h=>by simp only [PV.lt,Nat.blt_eq] at h |-;omega
 |.hd t _,h=>by simp only [PV.lt,Nat.blt_eq] at h |-;omega
 |.agg l,h=>by simp only [PV.lt] at h |-;exact Ld hn hm l h
 |.tup l,h=>by simp only [PV.lt] at h |-;exact Ld hn hm l h
 |.fn _ l,h=>by simp only [PV.lt] at h |-;exact Ld hn hm l h
 |.any,_=>rfl
 |.un,_=>rfl
 |.d _,_=>rfl
 |.ep _,_=>rfl
theorem Ld {n m n' m':Nat} (hn:n<=n') (hm:m<=m'):∀ l:List PV,PV.ltL n m l=true->PV.ltL n' m' l=true
 |[],_=>rfl
 |p::r,h=>by
  simp only [PV.ltL,Bool.and_eq_true] at h |-
  exact ⟨lt_mono hn hm p h.1,Ld hn hm r h.2⟩
end
section
variable {N:Nat} {ops:Array Oper} {rest:List Oper} {o:Oper} {F:Nat->PV} {S S':PS} {q:WRes->Prop} {C:Prop} {r:PV} {Q:Exit->(Nat->PV)->PS->Prop}
theorem Pw {j:Nat} {want b:Bool} {d:Nat} (ho:o.guard=some (j,want)) (hd:(ops[j]?).bind (·.dst)=some d) (hF:F d = .d (.v (.bool b))) (_:Und b) (h1:b=true->WK Tryz.prog N ops (o::rest) (Qa d (.d (.v (.bool true))) F) S q)
  (h0:b=false->WK Tryz.prog N ops (o::rest) (Qa d (.d (.v (.bool false))) F) S q):WK Tryz.prog N ops (o::rest) F S q:=by
 cases b with
 |true=>have h:=h1 rfl;rwa [Hh hF] at h
 |false=>have h:=h0 rfl;rwa [Hh hF] at h
theorem O9 {c:Operand} {x y:Code} (hc:evP F c = .d (.v (.bool true))) (hx:PW Tryz.prog N x Q F S):PW Tryz.prog N (.cond c x y) Q F S:=Ahx hc (fun _=>hx) (fun h=>by cases h)
theorem O8 {c:Operand} {x y:Code} (hc:evP F c = .d (.v (.bool false))) (hy:PW Tryz.prog N y Q F S):PW Tryz.prog N (.cond c x y) Q F S:=Ahx hc (fun h=>by cases h) (fun _=>hy)
theorem pw_split {d:Nat} {x y:Code} {b:Bool} (hF:F d = .d (.v (.bool b))) (hx:b=true->PW Tryz.prog N x Q (Qa d (.d (.v (.bool true))) F) S) (hy:b=false->PW Tryz.prog N y Q (Qa d (.d (.v (.bool false))) F) S):PW Tryz.prog N (.cond (.tmp d) x y) Q F S:=by
 cases b with
 |true=>have h:=hx rfl;rw [Hh hF] at h;exact O9 hF h
 |false=>have h:=hy rfl;rw [Hh hF] at h;exact O8 hF h
theorem Wt {x y:Code} {ι : Type} {Q':Exit->(Nat->PV)->PS->Prop} (ok : ι -> Prop) (L : ι -> List (Nat×PV)) (Sx : ι -> PS) (hx:PW Tryz.prog N x (Mt (fun F' S'=>∃ i,ok i/\Ua (L i) F'/\S'=Sx i) Q) F S) (hy:∀ i,ok i->PW Tryz.prog N y Q' (fr (L i)) (Sx i)) :
  PW Tryz.prog N x (Mt (PW Tryz.prog N y Q') Q) F S:=by
 refine hx.mono fun e F' S' h=>?_
 cases e with
 |normal =>
  obtain ⟨i,h1,h2,rfl⟩:=h
  exact Ahz (L i) h2 (hy i h1)
 |ret=>exact h
 |exit id=>exact h
 |goto l=>exact h
 |panic c=>exact h
 |outgrown=>exact h
variable {ch:Nat->Bool} {U Ut:List Nat} {k:Nat} {bm:Bool} {D:List Nat}
theorem wa_ask {j:Nat} {want b:Bool} {d:Nat} (ho:o.guard=some (j,want)) (hd:(ops[j]?).bind (·.dst)=some d) (hF:F d = .d (.v (.bool b))) (_:Und b) (h1:b=true->WA Tryz.prog N ops ch U Ut k (o::rest) (Qa d (.d (.v (.bool true))) F) S bm D q)
  (h0:b=false->WA Tryz.prog N ops ch U Ut k (o::rest) (Qa d (.d (.v (.bool false))) F) S bm D q):WA Tryz.prog N ops ch U Ut k (o::rest) F S bm D q:=by
 cases b with
 |true=>have h:=h1 rfl;rwa [Hh hF] at h
 |false=>have h:=h0 rfl;rwa [Hh hF] at h
theorem wapB {r':PV} (hg:Ak ops F o=some true) (hp:(!ch k&&T7 ops ch k)=true) (h:Hk tyi A4 F S o.op=some (C,r,S)) (hr:r=r') (hC:C) (kk:WA Tryz.prog N ops ch U Ut (k+1) rest (B8 N o.dst r' F) S bm D q):WA Tryz.prog N ops ch U Ut k (o::rest) F S bm D q:=by
 subst hr
 simp only [Bool.and_eq_true,Bool.not_eq_true'] at hp
 exact Xk hg hp.1 hp.2 (Fu Fc h hC) kk
theorem waf (hg:Ak ops F o=some true) (hc:ch k=false) (h:∀ S',Agree U Ut S S'->Hj tyi A4 F S' o.op=some (C,r,S')) (hC:C) (kk:WA Tryz.prog N ops ch U Ut (k+1) rest (B8 N o.dst r F) S bm D q):WA Tryz.prog N ops ch U Ut k (o::rest) F S bm D q :=
 Ai5 hg hc (fun S' ha=>H9 Fc (h S' ha) hC) kk
theorem wac {S'':PS} {r':PV} (hg:Ak ops F o=some true) (hc:ch k=true) (h:Hk tyi A4 F S o.op=some (C,r,S')) (hr:r=r') (hS:S'=S'') (hC:C) (ha:Agree U Ut S S'') (kk:WA Tryz.prog N ops ch U Ut (k+1) rest (B8 N o.dst r' F) S'' false D q):WA Tryz.prog N ops ch U Ut k (o::rest) F S false D q:=by
 subst hr;subst hS
 exact Abz hg hc (Fu Fc h hC) ha kk
def chN:Nat->Bool:=fun _=>false
theorem Abf {ops:Array Oper} {k:Nat}:T7 ops chN k=true:=by
 unfold T7
 split
 ·simp [chN]
 ·rfl
theorem wan (hg:Ak ops F o=some true) (h:Hj tyi A4 F S o.op=some (C,r,S)) (hC:C) (kk:WA Tryz.prog N ops chN U Ut (k+1) rest (B8 N o.dst r F) S bm D q):WA Tryz.prog N ops chN U Ut k (o::rest) F S bm D q :=
 Xk hg rfl Abf (H9 Fc h hC) kk
theorem wanB {r':PV} (hg:Ak ops F o=some true) (h:Hk tyi A4 F S o.op=some (C,r,S)) (hr:r=r') (hC:C) (kk:WA Tryz.prog N ops chN U Ut (k+1) rest (B8 N o.dst r' F) S bm D q):WA Tryz.prog N ops chN U Ut k (o::rest) F S bm D q:=by
 subst hr
 exact Xk hg rfl Abf (Fu Fc h hC) kk
theorem T1 {t:TypeId} {x y:Operand} {l:List (List DV)} {kd:IntKind} {j:Int} (e:List DV) (hg:Ak ops F o=some true) (ho:o.op = .indexAddr t x y) (hk:(A4 t&&Nat.beq (tyi t).kind 2)=true) (hx:S.toS (tyi t).ek (evP F x)=some l) (hy:evP F y = .d (.v (.int kd j)))
  (he:l[j.toNat]? = some e) (h0:0<=j) (kk:WA Tryz.prog N ops chN U Ut (k+1) rest (B8 N o.dst (.ep e) F) S bm D q):WA Tryz.prog N ops chN U Ut k (o::rest) F S bm D q:=by
 simp only [Bool.and_eq_true] at hk
 exact Xk hg rfl Abf (Jp ho (Fc t hk.1) (Nat.eq_of_beq_eq_true hk.2) hx hy h0 he) kk
theorem wcn {c:Operand} {al:Array Operand} {ats:Array TypeId} {f:Nat} {caps args:List PV} (hD:Am f args ⟨[],[]⟩ (.ret r) ⟨[],[]⟩) (hg:Ak ops F o=some true) (ho:o.op = .call { callee := .value c,args:=al,argTypes:=ats }) (hc:evP F c = .fn f caps)
  (hlt:PV.ltL 0 0 args=true) (hlr:r.lt 0 0=true) (ha:Ga S (al.toList.map (evP F)++caps) args) (kk:WA Tryz.prog N ops chN U Ut (k+1) rest (B8 N o.dst r F) S bm D q):WA Tryz.prog N ops chN U Ut k (o::rest) F S bm D q:=by
 have h:=Jq ho hD.1 hc hlt ha hD.2
 rw [M7 r hlr] at h
 exact Xk hg rfl Abf h kk
theorem E3 {S S':PS}:Agree [] [] S S':=⟨by simp,by simp⟩
variable {c:Operand} {al:Array Operand} {ats:Array TypeId} {f:Nat} {caps args:List PV}
theorem E2 (hD:Am f args ⟨[],[]⟩ (.ret r) ⟨[],[]⟩) (hg:Ak ops F o=some true) (ho:o.op = .call { callee := .value c,args:=al,argTypes:=ats }) (hc:evP F c = .fn f caps)
  (hlt:PV.ltL 0 0 args=true) (hlr:r.lt 0 0=true) (ha:Ga S (al.toList.map (evP F)++caps) args) (kk:WK Tryz.prog N ops rest (B8 N o.dst r F) S q):WK Tryz.prog N ops (o::rest) F S q:=by
 have h:=Jq ho hD.1 hc hlt ha hD.2
 rw [M7 r hlr] at h
 exact D8 hg h kk
theorem Q3 {id:Nat} {c0:List PV} (hbox:S.boxes[id]? = some c0) (hl:PV.ltL 0 0 c0=true):Passes S ⟨[c0],[]⟩ [id] []:=by
 refine ⟨by simp,by simp,rfl,rfl,fun i j h=>?_,fun t j h=>by simp at h,?_⟩
 ·cases i with
  |zero=>simp at h;subst h;simp [hbox,Gx c0 hl]
  |succ i=>simp at h
 ·simpa using Ld (Nat.zero_le 1) (Nat.le_refl 0) c0 hl
theorem Ud {id:Nat} {c1:List PV} (hl:PV.ltL 0 0 c1=true):S.after [id] [] ⟨[c1],[]⟩=S.setBox id c1:=by
 cases S;simp [PS.after,Qc,PS.setBox,Gx c1 hl]
theorem ops_box1 {id:Nat} {c0 c1:List PV} (hD:Am f args ⟨[c0],[]⟩ (.ret r) ⟨[c1],[]⟩) (ho:o.op = .call { callee := .value c,args:=al,argTypes:=ats }) (hc:evP F c = .fn f caps) (hbox:S.boxes[id]? = some c0) (hl0:PV.ltL 0 0 c0=true) (hl1:PV.ltL 0 0 c1=true) (hlr:r.lt 0 0=true)
  (hlt:PV.ltL 1 0 args=true) (ha:Ga S (al.toList.map (evP F)++caps) (PV.renL (fbN [id]) (ftN [] S.toks.length) args)):OpS Tryz.prog o F S r (S.setBox id c1):=by
 have h:=Abb ho hD.1 hc (Q3 hbox hl0) ha hlt rfl hD.2
 rwa [M7 r hlr,Ud hl1] at h
theorem opx_box1 {id:Nat} {c0 c1:List PV} {x:Value} (hD:Am f args ⟨[c0],[]⟩ (.panic x) ⟨[c1],[]⟩) (ho:o.op = .call { callee := .value c,args:=al,argTypes:=ats }) (hc:evP F c = .fn f caps) (hbox:S.boxes[id]? = some c0) (hl0:PV.ltL 0 0 c0=true) (hl1:PV.ltL 0 0 c1=true)
  (hlt:PV.ltL 1 0 args=true) (ha:Ga S (al.toList.map (evP F)++caps) (PV.renL (fbN [id]) (ftN [] S.toks.length) args)):OpX Tryz.prog o F S x (S.setBox id c1):=by
 have h:=Abd ho hD.1 hc (Q3 hbox hl0) ha hlt rfl hD.2
 rwa [Ud hl1] at h
theorem wcb {id:Nat} {c0 c1:List PV} (hD:Am f args ⟨[c0],[]⟩ (.ret r) ⟨[c1],[]⟩) (hg:Ak ops F o=some true) (ho:o.op = .call { callee := .value c,args:=al,argTypes:=ats }) (hc:evP F c = .fn f caps) (hbox:S.boxes[id]? = some c0) (hl0:PV.ltL 0 0 c0=true) (hl1:PV.ltL 0 0 c1=true) (hlr:r.lt 0 0=true)
  (hlt:PV.ltL 1 0 args=true) (ha:Ga S (al.toList.map (evP F)++caps) (PV.renL (fbN [id]) (ftN [] S.toks.length) args)) (hS:S.setBox id c1=S') (kk:WK Tryz.prog N ops rest (B8 N o.dst r F) S' q):WK Tryz.prog N ops (o::rest) F S q:=by
 subst hS;exact D8 hg (ops_box1 hD ho hc hbox hl0 hl1 hlr hlt ha) kk
theorem wcbx {id:Nat} {c0 c1:List PV} {x:Value} (hD:Am f args ⟨[c0],[]⟩ (.panic x) ⟨[c1],[]⟩) (hg:Ak ops F o=some true) (ho:o.op = .call { callee := .value c,args:=al,argTypes:=ats }) (hc:evP F c = .fn f caps) (hbox:S.boxes[id]? = some c0) (hl0:PV.ltL 0 0 c0=true) (hl1:PV.ltL 0 0 c1=true)
  (hlt:PV.ltL 1 0 args=true) (ha:Ga S (al.toList.map (evP F)++caps) (PV.renL (fbN [id]) (ftN [] S.toks.length) args)) (hS:S.setBox id c1=S') (kk:q (.panic x S')):WK Tryz.prog N ops (o::rest) F S q:=by
 subst hS;exact T3 hg (opx_box1 hD ho hc hbox hl0 hl1 hlt ha) kk
end
theorem Ag0 {l:List PV}:NL l l:=rfl
section
variable {N:Nat} {ops:Array Oper} {rest:List Oper} {o:Oper} {F:Nat->PV} {S S' S'':PS} {q:WRes->Prop} {C:Prop} {r r':PV} {Q:Exit->(Nat->PV)->PS->Prop} {ch:Nat->Bool} {U Ut:List Nat} {k:Nat} {bm:Bool} {D:List Nat}
theorem q1 (kk:WK Tryz.prog N ops rest (B8 N o.dst r F) S' q) (hg:Ak ops F o=some true:=by exact rfl) (h:Hj tyi A4 F S o.op=some (C,r,S'):=by exact rfl) (hC:C:=by first|exact True.intro|(simp only [IntKind.lo,IntKind.hi];omega)|omega|decide):WK Tryz.prog N ops (o::rest) F S q:=wst hg h hC kk
theorem q2 (kk:WA Tryz.prog N ops chN U Ut (k+1) rest (B8 N o.dst r F) S bm D q) (hg:Ak ops F o=some true:=by exact rfl) (h:Hj tyi A4 F S o.op=some (C,r,S):=by exact rfl) (hC:C:=by first|exact True.intro|(simp only [IntKind.lo,IntKind.hi];omega)|omega|decide):WA Tryz.prog N ops chN U Ut k (o::rest) F S bm D q:=wan hg h hC kk
theorem q3 {c:Operand} {x y:Code} (hx:PW Tryz.prog N x Q F S) (hc:evP F c = .d (.v (.bool true)):=by exact rfl):PW Tryz.prog N (.cond c x y) Q F S:=O9 hc hx
theorem q4 {c:Operand} {x y:Code} (hx:PW Tryz.prog N y Q F S) (hc:evP F c = .d (.v (.bool false)):=by exact rfl):PW Tryz.prog N (.cond c x y) Q F S:=O8 hc hx
theorem q5 (kk:WK Tryz.prog N ops rest (B8 N o.dst .un F) S q) (hg:Ak ops F o=some false:=by exact rfl):WK Tryz.prog N ops (o::rest) F S q:=Mw hg kk
theorem q6 (kk:WA Tryz.prog N ops ch U Ut (k+1) rest (B8 N o.dst .un F) S bm D q) (hg:Ak ops F o=some false:=by exact rfl):WA Tryz.prog N ops ch U Ut k (o::rest) F S bm D q:=wa_skip hg kk
theorem q7 (kk:WK Tryz.prog N ops rest (B8 N o.dst r' F) S'' q) (hg:Ak ops F o=some true:=by exact rfl) (h:Hk tyi A4 F S o.op=some (C,r,S'):=by exact rfl) (hr:r=r':=by first|(apply O3 rfl;repeat (first|exact Is rfl|apply Agy rfl|apply Agz rfl|apply Ag1 rfl))|exact nr_d rfl|(dsimp only [List.length_cons,List.length_nil,List.length_append,Nat.reduceAdd];rfl)|rfl) (hS:S'=S'':=by (apply ns_of rfl;repeat (first|exact Is rfl|apply Agy rfl|apply Agz rfl|apply Ag1 rfl|exact Agw rfl|apply Ys rfl|exact Ag7 rfl|apply Yx rfl))) (hC:C:=by first|exact True.intro|(simp only [IntKind.lo,IntKind.hi];omega)|omega|decide):WK Tryz.prog N ops (o::rest) F S q:=wstB hg h hr hS hC kk
theorem q7s (kk:WK Tryz.prog N ops rest (B8 N o.dst r' F) S'' q) (hg:Ak ops F o=some true:=by exact rfl) (h:Hk tyi A4 F S o.op=some (C,r,S'):=by exact rfl) (hr:r=r':=by first|(apply O3 rfl;repeat (first|exact Is rfl|apply Agy rfl|apply Agz rfl|apply Ag1 rfl))|exact nr_d rfl|(dsimp only [List.length_cons,List.length_nil,List.length_append,Nat.reduceAdd];rfl)|rfl) (hS:S'=S'':=by (apply ns_of rfl;repeat (first|exact Is rfl|apply Agy rfl|apply Agz rfl|apply Ag1 rfl|exact Agw rfl|apply Ys rfl|exact Ag7 rfl|apply Yx rfl|exact Ag0))) (hC:C:=by first|exact True.intro|(simp only [IntKind.lo,IntKind.hi];omega)|omega|decide):WK Tryz.prog N ops (o::rest) F S q:=wstB hg h hr hS hC kk
theorem q8 (kk:WA Tryz.prog N ops chN U Ut (k+1) rest (B8 N o.dst r' F) S bm D q) (hg:Ak ops F o=some true:=by exact rfl) (h:Hk tyi A4 F S o.op=some (C,r,S):=by exact rfl) (hr:r=r':=by first|(apply O3 rfl;repeat (first|exact Is rfl|apply Agy rfl|apply Agz rfl|apply Ag1 rfl))|exact nr_d rfl|(dsimp only [List.length_cons,List.length_nil,List.length_append,Nat.reduceAdd];rfl)|rfl) (hC:C:=by first|exact True.intro|(simp only [IntKind.lo,IntKind.hi];omega)|omega|decide):WA Tryz.prog N ops chN U Ut k (o::rest) F S bm D q:=wanB hg h hr hC kk
theorem q9 {id:Nat} {l:List Oper} (h:WA Tryz.prog N l.toArray chN [] [] 0 l F S false [] (Ad6 Q)) (hm:Tryz.prog.follows .mixedOrders=true:=by exact rfl) (hB:L7 l.toArray chN=true:=by kernel_rfl):PW Tryz.prog N (.region id l.toArray true) Q F S:=Et chN [] [] hm hB h
theorem q15 {fn:Func} {e:Exit} {ps:List PV} (hr:r'=r) (he:e = .normal\/e = .ret:=by first|exact .inr rfl|exact .inl rfl) (hps:Wv F S fn.results.toList=some ps:=by exact rfl)
  (hv:T8 ps=r':=by first|(apply O3 rfl;repeat (first|exact Is rfl|apply Agy rfl|apply Agz rfl|apply Ag1 rfl))|(apply nr_tup rfl;repeat (first|exact Is rfl|apply Agy rfl|apply Agz rfl|apply Ag1 rfl))|exact nr_d rfl|rfl) (hlt:r.lt S'.boxes.length S'.toks.length=true:=by exact rfl)
  (hall:(S.boxes.take S'.boxes.length).all (fun c=>PV.ltL S'.boxes.length S'.toks.length c)=true:=by exact rfl) (hcut:S.cut S'.boxes.length S'.toks.length=S':=by exact rfl):Rp Tryz.prog fn (.ret r) S' e F S:=fin hall hcut he hps hv hr hlt
theorem q16 {d:Nat} {x y:Code} {b:Bool} (hx:b=true->PW Tryz.prog N x Q (Qa d (.d (.v (.bool true))) F) S) (hy:b=false->PW Tryz.prog N y Q (Qa d (.d (.v (.bool false))) F) S) (hF:F d = .d (.v (.bool b)):=by exact rfl):PW Tryz.prog N (.cond (.tmp d) x y) Q F S:=pw_split hF hx hy
theorem q17 {j:Nat} {want b:Bool} {d:Nat} (h1:b=true->WK Tryz.prog N ops (o::rest) (Qa d (.d (.v (.bool true))) F) S q) (h0:b=false->WK Tryz.prog N ops (o::rest) (Qa d (.d (.v (.bool false))) F) S q) (ho:o.guard=some (j,want):=by exact rfl) (hd:(ops[j]?).bind (·.dst)=some d:=by exact rfl) (hF:F d = .d (.v (.bool b)):=by exact rfl) (hu:Und b:=by (fail_if_success (exact Mv true));(fail_if_success (exact Mv false));exact Mv _):WK Tryz.prog N ops (o::rest) (F) S q:=Pw ho hd hF hu h1 h0
theorem q18 {j:Nat} {want b:Bool} {d:Nat} (h1:b=true->WA Tryz.prog N ops ch U Ut k (o::rest) (Qa d (.d (.v (.bool true))) F) S bm D q) (h0:b=false->WA Tryz.prog N ops ch U Ut k (o::rest) (Qa d (.d (.v (.bool false))) F) S bm D q) (ho:o.guard=some (j,want):=by exact rfl) (hd:(ops[j]?).bind (·.dst)=some d:=by exact rfl) (hF:F d = .d (.v (.bool b)):=by exact rfl) (hu:Und b:=by (fail_if_success (exact Mv true));(fail_if_success (exact Mv false));exact Mv _):WA Tryz.prog N ops ch U Ut k (o::rest) (F) S bm D q:=wa_ask ho hd hF hu h1 h0
end
structure Hx (X:Prop):Prop where
 out:X
theorem rl0 {G X:Prop} (h:X) (t:Hx X->G:=by (intro h;(first|refine q1 ?_|refine q2 ?_|refine Co ?_|refine Gr ?_|refine Cm ?_|refine Ba ?_|refine C8 ?_|refine Eu ?_|refine Fj ?_|refine Es ?_|refine q3 ?_|refine q4 ?_|refine q5 ?_|refine q6 ?_|refine q7 ?_|refine q8 ?_|refine q9 ?_|refine q10 ?_|refine q11 ?_|refine q12 ?_|refine q13 ?_|refine q14 ?_|refine q15 ?_|fail);(repeat' (first|refine q1 ?_|refine q2 ?_|refine Co ?_|refine Gr ?_|refine Cm ?_|refine Ba ?_|refine C8 ?_|refine Eu ?_|refine Fj ?_|refine Es ?_|refine q3 ?_|refine q4 ?_|refine q5 ?_|refine q6 ?_|refine q7 ?_|refine q8 ?_|refine q9 ?_|refine q10 ?_|refine q11 ?_|refine q12 ?_|refine q13 ?_|refine q14 ?_|refine q15 ?_|fail));exact h.out)):G:=t ⟨h⟩
theorem rs0 {G X Y:Prop} (h1:X) (h2:Y) (t:Hx X->Hx Y->G:=by (intro h1 h2;first|exact q17 h1.out h2.out|exact q18 h1.out h2.out|exact q16 h1.out h2.out|fail)):G:=t ⟨h1⟩ ⟨h2⟩
theorem rl1 {G X:Prop} (h:X) (t:Hx X->G:=by (intro h;(first|refine q1 ?_|refine q2 ?_|refine Co ?_|refine Gr ?_|refine Cm ?_|refine Ba ?_|refine C8 ?_|refine Eu ?_|refine Fj ?_|refine Es ?_|refine q3 ?_|refine q4 ?_|refine q5 ?_|refine q6 ?_|refine q7s ?_|refine q8 ?_|refine q9 ?_|refine q10 ?_|refine q11 ?_|refine q12 ?_|refine q13 ?_|refine q14s ?_|refine q15 ?_|fail);(repeat' (first|refine q1 ?_|refine q2 ?_|refine Co ?_|refine Gr ?_|refine Cm ?_|refine Ba ?_|refine C8 ?_|refine Eu ?_|refine Fj ?_|refine Es ?_|refine q3 ?_|refine q4 ?_|refine q5 ?_|refine q6 ?_|refine q7s ?_|refine q8 ?_|refine q9 ?_|refine q10 ?_|refine q11 ?_|refine q12 ?_|refine q13 ?_|refine q14s ?_|refine q15 ?_|fail));exact h.out)):G:=t ⟨h⟩
theorem rs1 {G X Y:Prop} (h1:X) (h2:Y) (t:Hx X->Hx Y->G:=by (intro h1 h2;first|exact q17 h1.out h2.out|exact q18 h1.out h2.out|exact q16 h1.out h2.out|fail)):G:=t ⟨h1⟩ ⟨h2⟩
theorem rl2 {G X:Prop} (h:X) (t:Hx X->G:=by (intro h;(first|refine q1 ?_|refine q2 ?_|refine Co ?_|refine Gr ?_|refine Cm ?_|refine Ba ?_|refine C8 ?_|refine Eu ?_|refine Fj ?_|refine Es ?_|refine q3 ?_|refine q4 ?_|refine q5 ?_|refine q6 ?_|refine q7s ?_|refine q8 ?_|refine q10 ?_|refine q11 ?_|refine q12 ?_|refine q13 ?_|refine q14s ?_|refine q15 ?_|fail);(repeat' (first|refine q1 ?_|refine q2 ?_|refine Co ?_|refine Gr ?_|refine Cm ?_|refine Ba ?_|refine C8 ?_|refine Eu ?_|refine Fj ?_|refine Es ?_|refine q3 ?_|refine q4 ?_|refine q5 ?_|refine q6 ?_|refine q7s ?_|refine q8 ?_|refine q10 ?_|refine q11 ?_|refine q12 ?_|refine q13 ?_|refine q14s ?_|refine q15 ?_|fail));exact h.out)):G:=t ⟨h⟩
theorem rs2 {G X Y:Prop} (h1:X) (h2:Y) (t:Hx X->Hx Y->G:=by (intro h1 h2;first|exact q17 h1.out h2.out|exact q18 h1.out h2.out|exact q16 h1.out h2.out|fail)):G:=t ⟨h1⟩ ⟨h2⟩
theorem rl3 {G X:Prop} (h:X) (t:Hx X->G:=by (intro h;(first|refine q1 ?_|refine q2 ?_|refine Co ?_|refine Gr ?_|refine Cm ?_|refine Ba ?_|refine Eu ?_|refine Fj ?_|refine Es ?_|refine q3 ?_|refine q4 ?_|refine q5 ?_|refine q6 ?_|refine q7s ?_|refine q8 ?_|refine q10 ?_|refine q11 ?_|refine q12 ?_|refine q13 ?_|refine q14s ?_|refine q15 ?_|fail);(repeat' (first|refine q1 ?_|refine q2 ?_|refine Co ?_|refine Gr ?_|refine Cm ?_|refine Ba ?_|refine Eu ?_|refine Fj ?_|refine Es ?_|refine q3 ?_|refine q4 ?_|refine q5 ?_|refine q6 ?_|refine q7s ?_|refine q8 ?_|refine q10 ?_|refine q11 ?_|refine q12 ?_|refine q13 ?_|refine q14s ?_|refine q15 ?_|fail));exact h.out)):G:=t ⟨h⟩
theorem rs3 {G X Y:Prop} (h1:X) (h2:Y) (t:Hx X->Hx Y->G:=by (intro h1 h2;first|exact q17 h1.out h2.out|exact q18 h1.out h2.out|exact q16 h1.out h2.out|fail)):G:=t ⟨h1⟩ ⟨h2⟩
theorem rl4 {G X:Prop} (h:X) (t:Hx X->G:=by (intro h;(first|refine q1 ?_|refine q2 ?_|refine Co ?_|refine Gr ?_|refine Cm ?_|refine Ba ?_|refine Eu ?_|refine Fj ?_|refine Es ?_|refine q3 ?_|refine q4 ?_|refine q5 ?_|refine q6 ?_|refine q7 ?_|refine q8 ?_|refine q9 ?_|refine q10 ?_|refine q11 ?_|refine q12 ?_|refine q13 ?_|refine q14 ?_|refine q15 ?_|fail);(repeat' (first|refine q1 ?_|refine q2 ?_|refine Co ?_|refine Gr ?_|refine Cm ?_|refine Ba ?_|refine Eu ?_|refine Fj ?_|refine Es ?_|refine q3 ?_|refine q4 ?_|refine q5 ?_|refine q6 ?_|refine q7 ?_|refine q8 ?_|refine q9 ?_|refine q10 ?_|refine q11 ?_|refine q12 ?_|refine q13 ?_|refine q14 ?_|refine q15 ?_|fail));exact h.out)):G:=t ⟨h⟩
theorem rl5 {G X:Prop} (h:X) (t:Hx X->G:=by (intro h;(first|refine q1 ?_|refine q2 ?_|refine Co ?_|refine Gr ?_|refine Cm ?_|refine Ba ?_|refine C8 ?_|refine Eu ?_|refine Fj ?_|refine Es ?_|refine q3 ?_|refine q4 ?_|refine q5 ?_|refine q6 ?_|refine q7 ?_|refine q8 ?_|refine q9 ?_|refine q10 ?_|refine q11 ?_|refine q12 ?_|refine q13 ?_|refine q14 ?_|fail);(repeat' (first|refine q1 ?_|refine q2 ?_|refine Co ?_|refine Gr ?_|refine Cm ?_|refine Ba ?_|refine C8 ?_|refine Eu ?_|refine Fj ?_|refine Es ?_|refine q3 ?_|refine q4 ?_|refine q5 ?_|refine q6 ?_|refine q7 ?_|refine q8 ?_|refine q9 ?_|refine q10 ?_|refine q11 ?_|refine q12 ?_|refine q13 ?_|refine q14 ?_|fail));exact h.out)):G:=t ⟨h⟩
section
variable {P:Program} {N:Nat} {Q:Exit->(Nat->PV)->PS->Prop} {F:Nat->PV} {S:PS}
theorem C9 {K K':Kx} {S0:PS} {w w':World} {n m:Nat} (hI:Inv K S0 w) (hs:Step K K' w w') (hn:S0.boxes.length<=n) (hm:S0.toks.length<=m):Step K (K'.cut n m) w w':=by
 refine ⟨hs.os,hs.tape,hs.output,hs.size,fun i b hb=>?_,fun b hb=>hs.βnew b (List.mem_of_mem_take hb),hs.M,hs.T,fun t c hc=>?_,fun t' c' g lo' h8 h9=>hs.τnew t' c' g lo' (Da h8).1 h9,hs.blocks,hs.cells⟩
 ·show (K'.β.take _)[i]? = _
  have:=(List.getElem?_eq_some_iff.1 hb).1
  rw [hI.lenβ] at this
  rw [List.getElem?_take,if_pos (by omega)]
  exact hs.β i b hb
 ·obtain ⟨c',h8,h9⟩:=hs.τ t c hc
  refine ⟨c',?_,h9⟩
  show (K'.τ.take _)[t]? = _
  have:=(List.getElem?_eq_some_iff.1 hc).1
  rw [hI.lenτ] at this
  rw [List.getElem?_take,if_pos (by omega)]
  exact h8
def ltF (n m:Nat) (L:List (Nat×PV)):Bool:=L.all fun p=>p.2.lt n m
theorem fr_cut {K:Kx} {w:World} {a:Act} {L:List (Nat×PV)} {n m:Nat} (h:Ua L F) (hl:ltF n m L=true) (hF:FrameRep K w N F a):FrameRep (K.cut n m) w N (fr L) a:=by
 have h1:=M3 h hF
 refine ⟨h1.size,fun t=>?_⟩
 have key:(fr L t).lt n m=true:=by
  unfold fr
  clear h h1
  induction L with
  |nil=>rfl
  |cons p r ih =>
   simp only [ltF,List.all_cons,Bool.and_eq_true] at hl
   simp only [Agg]
   cases e:Nat.beq t p.1 with
   |true=>exact hl.1
   |false=>exact ih hl.2
 exact Rep.cut _ _ key (h1.rep t)
theorem pw_loopC {c:Code} {ι : Type} (ok : ι -> Prop) (L : ι -> List (Nat×PV)) (Sx : ι -> PS) (μ : ι -> Nat) (i0 : ι) (h0:ok i0) (hF0:Ua (L i0) F) (hS0:S=Sx i0)
  (round:∀ i,ok i->PW P N c (Mt (fun F' S'=>∃ j,ok j /\ μ j < μ i/\Ua (L j) F'/\S'.cut (Sx j).boxes.length (Sx j).toks.length=Sx j/\(S'.boxes.take (Sx j).boxes.length).all (fun c=>PV.ltL (Sx j).boxes.length (Sx j).toks.length c)=true/\ltF (Sx j).boxes.length (Sx j).toks.length (L j)=true/\(Sx i).boxes.length<=(Sx j).boxes.length/\(Sx i).toks.length<=(Sx j).toks.length) Q) (fr (L i)) (Sx i)):PW P N (.loop c) Q F S:=by
 refine ⟨fun ro mm K w a hI hF=>?_⟩
 subst hS0
 let R:Act->World->Nat->Prop:=fun a' w' n=>∃ i K',μ i=n/\ok i/\Step K K' w w'/\Inv K' (Sx i) w'/\FrameRep K' w' N (fr (L i)) a'/\a'.defers=a.defers
 have hmin:∀ a' w',(∃ n,R a' w' n)->∃ n,R a' w' n/\∀ m,R a' w' m->n<=m:=fun a' w' h=>least h
 let μ':Act->World->Nat:=fun a' w'=>open Classical in if h:∃ n,R a' w' n then Classical.choose (hmin a' w' h) else 0
 have hμ : ∀ a' w',(h:∃ n,R a' w' n)->R a' w' (μ' a' w')/\∀ m,R a' w' m -> μ' a' w'<=m:=by
  intro a' w' h
  have : μ' a' w'=Classical.choose (hmin a' w' h):=dif_pos h
  rw [this]
  exact Classical.choose_spec (hmin a' w' h)
 refine wpIn_loop (fun a' w'=>∃ n,R a' w' n) μ' ⟨_,i0,K,rfl,h0,Step.refl K w,hI,M3 hF0 hF,rfl⟩ fun a' w' hR=>?_
 obtain ⟨⟨i,K',h1,h2,h3,h4,h5,h6⟩,_⟩:=hμ a' w' hR
 refine wpIn_mono ((round i h2).run ro mm K' w' a' h4 h5) fun e a2 w2 hq=>?_
 obtain ⟨K2,F2,S2,h7,h8,h9,h10,h11⟩:=hq
 cases e with
 |normal =>
  obtain ⟨j,hj,hlt,hL,hcut,hall,hlf,hb,ht⟩:=h11
  have h8':=h8.cut hall
  rw [hcut] at h8'
  have hR2:R a2 w2 (μ j):=⟨j,_,rfl,hj,h3.trans hI (C9 h4 h7 hb ht),h8',fr_cut hL hlf h9,h10.trans h6⟩
  exact ⟨⟨_,hR2⟩,Nat.lt_of_le_of_lt ((hμ a2 w2 ⟨_,hR2⟩).2 _ hR2) (by rw [<- h1];exact hlt)⟩
 |ret=>exact ⟨K2,F2,S2,h3.trans hI h7,h8,h9,h10.trans h6,h11⟩
 |exit id=>exact ⟨K2,F2,S2,h3.trans hI h7,h8,h9,h10.trans h6,h11⟩
 |goto l=>exact ⟨K2,F2,S2,h3.trans hI h7,h8,h9,h10.trans h6,h11⟩
 |panic c=>exact ⟨K2,F2,S2,h3.trans hI h7,h8,h9,h10.trans h6,h11⟩
 |outgrown=>exact ⟨K2,F2,S2,h3.trans hI h7,h8,h9,h10.trans h6,h11⟩
theorem Ahy {c:Code} (t k:Nat) (e:TypeId) (hF:F t = .d (.v (.slice none 0 0))) (h:PW P N c Q (Qa t (.hd S.toks.length 0) F) (S.addTok ⟨0,k,[],e⟩)):PW P N c Q F S:=by
 refine ⟨fun ro mm K w a hI hFr=>?_⟩
 obtain ⟨K',h1,h2,h3⟩:=hI.mint k e
 refine wpIn_mono (h.run ro mm K' w a h1 ⟨hFr.size,fun t'=>?_⟩) fun e a2 w2 hq=>?_
 ·unfold Qa
  cases hb:Nat.beq t' t with
  |true =>
   have:=Nat.eq_of_beq_eq_true hb
   subst this
   have h4:=hFr.rep t'
   rw [hF] at h4
   rw [Br h4]
   exact h3
  |false=>exact Rep.step h2 _ _ (hFr.rep t')
 ·exact hq.step hI h2
theorem Ep {t n k e:Nat} {l:List (List DV)} (h:S.toks[t]? = some ⟨n,k,l,e⟩):S.toS k (.hd t n)=some l:=by simp [PS.toS,h]
variable {o:Oper}
theorem F7 {t:TypeId} {x y:Operand} {I J:TyI} {l:List PV} {kd:IntKind} {j:Int} {p:PV} (ho:o.op = .index t x y) (hI:TyI.of P t=some I) (hk:I.kind=3) (hJ:TyI.of P I.elem=some J) (hx:evP F x = .agg l) (hy:evP F y = .d (.v (.int kd j))) (h0:0<=j) (h1:j<I.len)
  (hp:(J.isRow=true/\p = .agg ((l.drop (j.toNat*J.size)).take J.size)/\j.toNat*J.size+J.size<=l.length)\/(J.isRow=false/\l[j.toNat*J.size]? = some p)):OpS P o F S p S :=
 OpS.pure fun K w ρ hInv h=>by
  have hx1:=h x (by simp [ho,Op.operands])
  have hy1:=h y (by simp [ho,Op.operands])
  rw [hx] at hx1
  rw [hy] at hy1
  have hy1:=Br hy1
  simp only [Rep] at hx1
  obtain ⟨cs,h2,h3⟩:=hx1
  obtain ⟨i,d,z,hi,hu,hz,_,_,hd⟩:=TyI.inv hI
  rw [hk] at hd;simp at hd
  obtain ⟨rfl,ie,hie,hek⟩:=hd
  obtain ⟨hrow,hsize⟩:=TyI.row hJ
  rw [hie] at hsize
  have hisz:ie.size=J.size:=by simpa using hsize
  cases hue:P.underlying I.elem with
  |none=>rw [hue] at hrow;simp at hrow
  |some d =>
   rw [hue] at hrow
   rcases hp with ⟨hr,rfl,hle⟩|⟨hr,hp⟩
   ·have hag:(isAgg I.elem).run P w = .ok true w:=by
     have:d.isRow=true:=by rw [show (J.kind==3||J.kind==4)=true from hr] at hrow;simpa using hrow
     cases d<;>simp [TypeDesc.isRow] at this<;>simp [isAgg,underlying,program,go_sem,hue,Sem.run]
    refine ⟨.agg (cs.toArray.extract (j.toNat*J.size) (j.toNat*J.size+J.size)),?_,?_⟩
    ·simp only [execOp,ho,h2,hy1,Instr.index,asIntOf,Sem.run_bind,Sem.run_pure,run_underlying hu,Result.andThen_ok,part,hag,sizeOf,typeInfo]
     simp [hie,hisz,h0,h1,go_sem,hag]
    ·simp only [Rep]
     refine ⟨(cs.drop (j.toNat*J.size)).take J.size,?_,(h3.drop _).take _⟩
     simp [List.extract_eq_take_drop]
   ·have hag:(isAgg I.elem).run P w = .ok false w:=by
     have:d.isRow=false:=by rw [show (J.kind==3||J.kind==4)=false from hr] at hrow;simpa using hrow
     cases d<;>simp [TypeDesc.isRow] at this<;>simp [isAgg,underlying,program,go_sem,hue,Sem.run]
    obtain ⟨u,h4,h5⟩:=Ao.get h3 hp
    refine ⟨u,?_,h5⟩
    simp only [execOp,ho,h2,hy1,Instr.index,asIntOf,Sem.run_bind,Sem.run_pure,run_underlying hu,Result.andThen_ok,part,hag,sizeOf,typeInfo]
    simp [hie,hisz,h0,h1,go_sem,hag,h4]
end
section
variable {N:Nat} {ops:Array Oper} {rest:List Oper} {o:Oper} {F:Nat->PV} {S S':PS} {q:WRes->Prop}
theorem T9 {t:TypeId} {x y:Operand} {tk n k e:Nat} {l news:List (List DV)} (hg:Ak ops F o=some true) (ho:o.op = .call { callee := .builtin .append,args := #[x,y],argTypes := #[t,t] }) (hk:(A4 t&&Nat.beq (tyi t).kind 2&&Nat.beq k (tyi t).ek&&Nat.beq e (tyi t).elem)=true) (hx:evP F x = .hd tk n)
  (hT:S.toks[tk]? = some ⟨n,k,l,e⟩) (hy:S.toS (tyi t).ek (evP F y)=some news) (h1:(l.length+news.length)*(tyi t).eb<=140737488355328) (h2:l.length+news.length<=9223372036854775807) (hS:S.setTok tk ⟨n+1,k,l++news,e⟩=S') (kk:WK Tryz.prog N ops rest (B8 N o.dst (.hd tk (n+1)) F) S' q):WK Tryz.prog N ops (o::rest) F S q:=by
 subst hS
 simp only [Bool.and_eq_true] at hk
 exact D8 hg (Kj (T:=⟨n,k,l,e⟩) ho (Fc t hk.1.1.1) (Nat.eq_of_beq_eq_true hk.1.1.2) hx hT (Nat.eq_of_beq_eq_true hk.1.2) (Nat.eq_of_beq_eq_true hk.2) hy h1 h2) kk
theorem wiv {t:TypeId} {x y:Operand} {l:List PV} {kd:IntKind} {j:Int} (l':List PV) (hg:Ak ops F o=some true) (ho:o.op = .index t x y) (hk:(A4 t&&Nat.beq (tyi t).kind 3&&A4 (tyi t).elem&&(tyi (tyi t).elem).isRow)=true) (hx:evP F x = .agg l) (hy:evP F y = .d (.v (.int kd j))) (h0:0<=j/\j<(tyi t).len)
  (hl:(l.drop (j.toNat*(tyi (tyi t).elem).size)).take (tyi (tyi t).elem).size=l'/\j.toNat*(tyi (tyi t).elem).size+(tyi (tyi t).elem).size<=l.length) (kk:WK Tryz.prog N ops rest (B8 N o.dst (.agg l') F) S q):WK Tryz.prog N ops (o::rest) F S q:=by
 obtain ⟨rfl,hl⟩:=hl
 simp only [Bool.and_eq_true] at hk
 exact D8 hg (F7 ho (Fc t hk.1.1.1) (Nat.eq_of_beq_eq_true hk.1.1.2) (Fc _ hk.1.2) hx hy h0.1 h0.2 (.inl ⟨hk.2,rfl,hl⟩)) kk
end
theorem G4 {f:Nat} {fn:Func} {c:Code} {args:List PV} {v:Value} (hf:Tryz.prog.funcs[f]? = some fn) (hname:(fn.name == "runtime.NumGoroutine")=false) (hb:fn.body=some c) (hv:v.oneCell'=true)
  (h:∀ (K:Kx) (w:World) (vs:List Value),Fz K w->Ao K w args vs->Calls Tryz.prog f vs.toArray w fun e w'=>e = .returned v/\Below w.heap.size w w'):Am f args ⟨[],[]⟩ (.ret (.d (.v v))) ⟨[],[]⟩:=by
 refine ⟨enters_of hf hname hb,fun K w vs hI hA=>(h K w vs hI.fz hA).mono ?_⟩
 rintro e w' ⟨rfl,hB⟩
 obtain ⟨h1,h2⟩:=hI.below hB
 exact ⟨K,h2,h1,v,rfl,by simp only [Rep,Ci];exact ⟨trivial,hv⟩⟩
end Go.Proofs.YtjagmmmcibdibaaGreatDoor
namespace Go.Proofs.YtjagmmmcibdibaaGreatDoor
inductive Ex where
 |mk (op n:Int) (name:ByteArray) (args:List Ex)
def Ex.op:Ex->Int | .mk o _ _ _=>o
def Ex.n:Ex->Int | .mk _ n _ _=>n
def Ex.name:Ex->ByteArray | .mk _ _ s _=>s
def Ex.args:Ex->List Ex | .mk _ _ _ l=>l
def Ex.nil:Ex := .mk 0 0 ⟨#[]⟩ []
mutual
def exD:Ex->List DV
 |.mk o n s l=>[.v (.int .i64 o),.v (.int .i64 n),.v (.string s),.sl 4 (Ij l)]
def Ij:List Ex->List (List DV)
 |[]=>[]
 |x::l=>exD x::Ij l
end
theorem I9:∀ l:List Ex,Ij l=l.map exD
 |[]=>rfl
 |x::l=>by simp [Ij,I9 l]
theorem Ai {l:List Ex} {i:Nat} {x:Ex} (h:l[i]? = some x):(Ij l)[((i:Nat):Int).toNat]? = some [.v (.int .i64 x.op),.v (.int .i64 x.n),.v (.string x.name),.sl 4 (Ij x.args)]:=by
 rw [I9];cases x;simp [h,exD,Ex.op,Ex.n,Ex.name,Ex.args]
theorem A8 (l:List Ex):(Ij l).length=l.length:=by rw [I9];simp
@[reducible] def exP (x:Ex):PV := .agg [.d (.v (.int .i64 x.op)),.d (.v (.int .i64 x.n)),.d (.v (.string x.name)),.d (.sl 4 (Ij x.args))]
@[reducible] def Ah (n:Int):PV := .d (.v (.int .i64 n))
@[reducible] def An (b:Bool):PV := .d (.v (.bool b))
@[reducible] def Bf (s:ByteArray):PV := .d (.v (.string s))
mutual
def Ex.same:Ex->Ex->Bool
 |.mk o n s l,.mk o' n' s' l'=>decide (o=o')&&decide (n=n')&&decide (s=s')&&Te l l'
def Te:List Ex->List Ex->Bool
 |[],[]=>true
 |x::l,y::l'=>x.same y&&Te l l'
 |_,_=>false
end
mutual
def Ex.hgt:Ex->Nat
 |.mk _ _ _ l=>Ym l+1
def Ym:List Ex->Nat
 |[]=>0
 |x::l=>max x.hgt (Ym l)
end
theorem Yl:∀ {l:List Ex} {x:Ex},x∈l->x.hgt<=Ym l
 |y::l,x,h=>by
  rcases List.mem_cons.1 h with rfl|h
  ·exact Nat.le_max_left _ _
  ·exact Nat.le_trans (Yl h) (Nat.le_max_right _ _)
theorem Gc {x y:Ex} (h:y∈x.args):y.hgt<x.hgt:=by
 cases x;exact Nat.lt_succ_of_le (Yl h)
end Go.Proofs.YtjagmmmcibdibaaGreatDoor
namespace Go.Proofs.YtjagmmmcibdibaaGreatDoor
open Go.RowKit Go.ChangeShapes Go.ChangeAt Go.WideShapes
def Kz:Kx:=⟨[],[],fun _=>False,fun _ _=>False⟩
theorem Agb {W:World}:∀ b hi,b<W.heap.size->Kz.good W b hi:=fun b hi h=>⟨h,by simp [Kz],by simp [Kz],by simp [Kz],by simp [Kz]⟩
theorem kz_inv {W:World} (hfz:∀ p∈frozen,∃ ty r,W.heap[p.1]? = some (.cells p.2 ty r)):Inv Kz ⟨[],[]⟩ W where
 lenβ := rfl
 lenτ := rfl
 box i b c h:=by simp [Kz] at h
 nodup:=List.nodup_nil
 βM b h:=by simp [Kz] at h
 tok t T c h:=by simp at h
 tokF t c g lo h:=by simp [Kz] at h
 tokI t t' c c' g lo lo' h:=by simp [Kz] at h
 tokH t c u h:=by simp [Kz] at h
 Mlt b h:=by simp [Kz] at h
 Tlt b lo h:=by simp [Kz] at h
 fz p hp:=⟨hfz p hp,by simp [Kz],by simp [Kz]⟩
theorem Agc {f:Nat} {args:List PV} {W:World} {vs:List Value} (hD:Am f args ⟨[],[]⟩ (.ret (An true)) ⟨[],[]⟩) (hfz:∀ p∈frozen,∃ ty r,W.heap[p.1]? = some (.cells p.2 ty r)) (hr:Ao Kz W args vs) :
  Calls Tryz.prog f vs.toArray W fun e W'=>e = .returned (.bool true)/\Below W.heap.size W W':=by
 refine (hD.2 Kz W vs (kz_inv hfz) hr).mono ?_
 rintro e W' ⟨K',hs,_,v,rfl,hv⟩
 rw [Br hv]
 exact ⟨rfl,hs.os,hs.tape,hs.output,hs.size,fun k hk=>hs.blocks k hk (by simp [Kz]) (by simp [Kz])⟩
section
variable {P:Program} {W:World} {H:Type} {enc:TypeId×Value->H} {base:Nat} {spare:Nat->Bool} {held:Bool} {r:Reach} {b0:Nat} {ts:List TypeId} {t:TypeId} {v:Value} {d:DataW H} {p:List MemPlace}
theorem rd_arr {n:Nat} {e:TypeId} (hcl:Rr P ts=true) (ht:ts.any (Nat.beq t)=true) (hu:P.underlying t=some (.array n e)) (hv:Value.okWide P W r b0 t v) (h:DataW.Trod enc P W base spare held t v d p):∃ n ds,Shp P n t ds/\Rep Kz W (.agg (ds.map .d)) v:=by
 simp only [Value.okWide,hu] at hv
 obtain ⟨cs,rfl,_⟩:=hv
 obtain ⟨fuel,hf⟩:=h
 obtain ⟨ds,h1,h2⟩:=Ah4 (K:=Kz) hcl Agb fuel t _ _ (Of ht) hf
 exact ⟨fuel,ds,h2,by simp only [Rep];exact ⟨cs.toList,by simp,h1⟩⟩
theorem rd_int {k:IntKind} (hu:P.underlying t=some (.int k)) (hv:Value.okWide P W r b0 t v) (h:DataW.Trod enc P W base spare held t v d p):∃ z,Rep Kz W (.d (.v (.int k z))) v/\(Lit.int k z).wf=true:=by
 obtain ⟨z,rfl,_,_,hw⟩:=open_int hu hv h
 exact ⟨z,⟨rfl,rfl⟩,hw⟩
theorem Abj {e:TypeId} (hcl:Rr P ts=true) (ht:ts.any (Nat.beq t)=true) (hu:P.underlying t=some (.slice e)) (hv:Value.okWide P W r b0 t v) (h:DataW.Trod enc P W base spare held t v d p):∃ n l,Rep Kz W (.d (.sl (P.cellsOf e) l)) v/\∀ x∈l,Shp P n e x:=by
 obtain ⟨a,len,cap,rfl⟩:=okWide_slice hu hv
 obtain ⟨fuel,hf⟩:=h
 obtain ⟨ds,h1,h2⟩:=Ah4 (K:=Kz) hcl Agb fuel t _ _ (Of ht) hf
 cases fuel with
 |zero=>exact h2.elim
 |succ n =>
  unfold Shp at h2
  rw [hu] at h2
  obtain ⟨l,rfl,_,h3⟩:=h2
  obtain ⟨u,us,h4,h5,h6⟩:=h1
  simp [Value.cells] at h4
  exact ⟨n,l,by rw [h4.1];exact h5,h3⟩
variable {n:Nat} {ds:List DV}
theorem Th {k:IntKind} (hu:P.underlying t=some (.int k)) (h:Shp P n t ds):∃ z,ds=[.v (.int k z)]/\(Lit.int k z).wf=true:=by
 cases n with
 |zero=>exact h.elim
 |succ n=>unfold Shp at h;rw [hu] at h;exact h
theorem shp_arr {m:Nat} {e:TypeId} (hu:P.underlying t=some (.array m e)) (h:Shp P n t ds):∃ k parts,n=k+1/\ds=List.flatten parts/\parts.length=m/\∀ p∈parts,Shp P k e p:=by
 cases n with
 |zero=>exact h.elim
 |succ n=>unfold Shp at h;rw [hu] at h;obtain ⟨l,h1,h2,h3⟩:=h;exact ⟨n,l,rfl,h1,h2,h3⟩
theorem Agf {α : Type} {R : α -> Prop} (f : α -> List DV):∀ {l:List (List DV)},(∀ x∈l,∃ a,x=f a/\R a)->∃ zs:List α,l=zs.map f/\∀ a∈zs,R a
 |[],_=>⟨[],rfl,fun _ h=>by cases h⟩
 |x::l,h=>by
  obtain ⟨a,rfl,ha⟩:=h x List.mem_cons_self
  obtain ⟨zs,rfl,has⟩:=Agf f (l:=l) fun y hy=>h y (List.mem_cons_of_mem _ hy)
  refine ⟨a::zs,rfl,fun b hb=>?_⟩
  rcases List.mem_cons.1 hb with rfl|hb
  ·exact ha
  ·exact has b hb
end
theorem parts3 {parts:List (List DV)} (h:parts.length=3):∃ a b c,parts=[a,b,c]:=by
 match parts,h with
 |[a,b,c],_=>exact ⟨a,b,c,rfl⟩
theorem Af0 {W:World} {l:List (String×DataW Unit)} (hL:laidMet Tryz.prog l W) (hm:∃ nm d,(nm,d)∈l/\d=Lib.tabData .u64 Lib.pow10Tab/\Tryz.prog.globalNamed nm=some 1):∀ p∈frozen,∃ ty r,W.heap[p.1]? = some (.cells p.2 ty r):=by
 intro p hp
 obtain rfl:=List.mem_singleton.1 hp
 obtain ⟨nm,d,hm,rfl,hg0⟩:=hm
 obtain ⟨g,t,cs,fuel,q,hg,ht,hv,hd⟩:=Lib.laidMet.reads hL hm
 obtain rfl:=Option.some.inj (hg0.symm.trans hg)
 obtain rfl:=Option.some.inj ((show (Tryz.prog.globals[1]?).map (·.type)=some 261 by kernel_rfl).symm.trans ht)
 have hcs:=Lib.cells_of_tab (t:=261) (e:=175) (n:=20) (k := .u64) (by kernel_rfl) (by kernel_rfl) (by kernel_rfl) (by kernel_rfl) hd
 unfold World.var? at hv
 rw [hg] at hv
 simp only [Option.bind_some] at hv
 split at hv
 ·rename_i c ty r hh
  cases hv
  refine ⟨ty,r,?_⟩
  rw [hh]
  have:cs=(Lib.pow10Tab.map fun z=>Value.int .u64 z).toArray:=by rw [<- hcs]
  rw [this]
 ·cases hv
def strE (s:ByteArray):List DV:=[.v (.string s)]
@[reducible] def Db (l:List ByteArray):PV := .d (.sl 1 (l.map strE))
def Ji (l:List ByteArray) (s:ByteArray):Bool:=l.any fun x=>decide (x=s)
theorem Sg {α : Type} {f : α -> List DV} {l:List α} {i:Nat} {x : α} (h:l[i]? = some x):(l.map f)[((i:Nat):Int).toNat]? = some (f x):=by simp [h]
theorem Agn {l:List ByteArray} {s x:ByteArray} {i:Nat} (hx:l[i]? = some x) (h:Ji (l.take i) s=false):Ji (l.take (i+1)) s=decide (x=s):=by
 obtain ⟨hlt,rfl⟩:=List.getElem?_eq_some_iff.1 hx
 unfold Ji at h |-
 rw [List.take_succ_eq_append_getElem hlt,List.any_append,h];simp
def Dq (op:Int):Int :=
 if op=1\/op=2\/op=3\/op=4 then 0 else if op=5\/op=6 then 1 else if 7<=op/\op<=18 then 2 else if op=19 then 3 else -1
def Be (op:Int):Int:=if op=19 then 0 else if op=18 then 1 else if op=17 then 2 else if op=6 then 3 else if 11<=op/\op<=16 then 4 else if op=7\/op=8 then 5 else if op=9\/op=10 then 6 else if op=5 then 7 else 8
def Ew (op:Int):ByteArray :=
 if op=5\/op=8 then ⟨#[45]⟩ else if op=6 then ⟨#[110,111,116]⟩ else if op=7 then ⟨#[43]⟩ else if op=9 then ⟨#[42]⟩ else if op=10 then ⟨#[47]⟩ else if op=11 then ⟨#[61]⟩ else if op=12 then ⟨#[33,61]⟩ else
 if op=13 then ⟨#[60]⟩ else if op=14 then ⟨#[60,61]⟩ else if op=15 then ⟨#[62]⟩ else if op=16 then ⟨#[62,61]⟩ else if op=17 then ⟨#[97,110,100]⟩ else ⟨#[111,114]⟩
def G0 (op:Int):Int:=if op=6\/op=17\/op=18 then 2 else 1
def isZ (op:Int):Int:=if op=3\/op=4\/op=6\/(11<=op/\op<=18) then 2 else 1
mutual
def A9 (vars:List ByteArray):Ex->Int
 |.mk o _ s l=>if o=2/\Ji vars s=false then 0 else if o=19 then (match Bp vars l with|[a,b,c]=>if a≠2\/b≠c then 0 else b|_=>0) else if (Bp vars l).all (· == G0 o) then isZ o else 0
def Bp (vars:List ByteArray):List Ex->List Int
 |[]=>[]
 |x::l=>A9 vars x::Bp vars l
end
mutual
def Ex.fits:Ex->Bool
 |.mk o _ _ l=>decide ((l.length:Int)=Dq o)&&Yj l
def Yj:List Ex->Bool
 |[]=>true
 |x::l=>x.fits&&Yj l
end
theorem Jd (vars:List ByteArray) (x:Ex):A9 vars x=if x.op=2/\Ji vars x.name=false then 0 else if x.op=19 then (match Bp vars x.args with|[a,b,c]=>if a≠2\/b≠c then 0 else b|_=>0) else if (Bp vars x.args).all (· == G0 x.op) then isZ x.op else 0:=by
 cases x;rfl
theorem Il {x:Ex} (h:x.fits=true):(x.args.length:Int)=Dq x.op/\Yj x.args=true:=by
 cases x;simpa [Ex.fits,Ex.args,Ex.op] using h
theorem U8:∀ {l:List Ex},Yj l=true->∀ x∈l,x.fits=true
 |y::l,h,x,hx=>by
  simp only [Yj,Bool.and_eq_true] at h
  rcases List.mem_cons.1 hx with rfl|hx
  ·exact h.1
  ·exact U8 h.2 x hx
theorem fits_arg {x y:Ex} (h:x.fits=true) (hy:y∈x.args):y.fits=true:=U8 (Il h).2 y hy
theorem Mf (vars:List ByteArray):∀ l:List Ex,Bp vars l=l.map (A9 vars)
 |[]=>rfl
 |x::l=>by simp [Bp,Mf vars l]
theorem args3 {x:Ex} (h:x.fits=true) (ho:x.op=19):∃ a b c,x.args=[a,b,c]:=by
 have:=(Il h).1
 rw [ho,show Dq 19=3 from rfl] at this
 match e:x.args,this with
 |[a,b,c],_=>exact ⟨a,b,c,rfl⟩
 |[],h=>simp at h
 |[_],h=>simp at h
 |[_,_],h=>simp at h
 |_::_::_::_::_,h=>simp at h;omega
def opTabP : List (Int × Int × Int × Int × ByteArray) :=
  [(0, 0, 0, 0, ⟨#[]⟩), (0, 0, 1, 8, ⟨#[]⟩), (0, 0, 1, 8, ⟨#[]⟩), (0, 0, 2, 8, ⟨#[116, 114, 117, 101]⟩), (0, 0, 2, 8, ⟨#[102, 97, 108, 115, 101]⟩), (1, 1, 1, 7, ⟨#[45]⟩), (1, 2, 2, 3, ⟨#[110, 111, 116]⟩),
   (2, 1, 1, 5, ⟨#[43]⟩), (2, 1, 1, 5, ⟨#[45]⟩), (2, 1, 1, 6, ⟨#[42]⟩), (2, 1, 1, 6, ⟨#[47]⟩), (2, 1, 2, 4, ⟨#[61]⟩), (2, 1, 2, 4, ⟨#[33, 61]⟩), (2, 1, 2, 4, ⟨#[60]⟩), (2, 1, 2, 4, ⟨#[60, 61]⟩), (2, 1, 2, 4, ⟨#[62]⟩), (2, 1, 2, 4, ⟨#[62, 61]⟩),
   (2, 2, 2, 2, ⟨#[97, 110, 100]⟩), (2, 2, 2, 1, ⟨#[111, 114]⟩), (3, 0, 0, 0, ⟨#[105, 102]⟩)]
@[reducible] def opP (o:Int×Int×Int×Int×ByteArray):List PV:=[Ah o.1,Ah o.2.1,Ah o.2.2.1,Ah o.2.2.2.1,Bf o.2.2.2.2]
def opZ (op:Int):Int×Int×Int×Int×ByteArray:=(opTabP[op.toNat]?).getD (0,0,0,0,⟨#[]⟩)
def opsL:List PV:=opTabP.flatMap opP
theorem Kh {op:Int} (h1:1<=op) (h2:op<=19):op=1\/op=2\/op=3\/op=4\/op=5\/op=6\/op=7\/op=8\/op=9\/op=10\/op=11\/op=12\/op=13\/op=14\/op=15\/op=16\/op=17\/op=18\/op=19:=by omega
theorem opsL_row {op:Int} (h1:1<=op) (h2:op<=19):(opsL.drop (op.toNat*5)).take 5=opP (opZ op)/\op.toNat*5+5<=opsL.length:=by
 rcases Kh h1 h2 with rfl|rfl|rfl|rfl|rfl|rfl|rfl|rfl|rfl|rfl|rfl|rfl|rfl|rfl|rfl|rfl|rfl|rfl|rfl<;>exact ⟨rfl,Nat.le_of_ble_eq_true rfl⟩
set_option maxRecDepth 20000 in
theorem Wc:Am 86 [] ⟨[],[]⟩ (.ret (.agg opsL)) ⟨[],[]⟩:=by
 refine Ad Tryz.func86 rfl rfl (Nat.le_of_ble_eq_true rfl) rfl (Nat.le_refl _) ?_
 repeat' (first|refine rl0 ?_|refine rs0 ?_ ?_<;>intro h|fail)
 rfl
def E7 (op:Int):Bool:=decide (1<=op)&&decide (op<=19)
theorem Sa (op:Int):Am 55 [Ah op] ⟨[],[]⟩ (.ret (.tup [.agg (opP (bif E7 op then opZ op else (0,0,0,0,⟨#[]⟩))),An (E7 op)])) ⟨[],[]⟩:=by
 refine Ad Tryz.func55 rfl rfl (Nat.le_of_ble_eq_true rfl) rfl (Nat.le_refl _) ?_
 repeat' (first|refine rl0 ?_|refine rs0 ?_ ?_<;>intro h|fail)
 ·rw [show E7 op=false from by (have h':=h;simp at h';simp [E7];omega)];rfl
 ·rw [show E7 op=false from by (have h':=h;simp at h';simp [E7];omega)];rfl
 ·have h1:1<=op/\op<=19:=by simp_all
  refine E2 Wc rfl rfl rfl rfl rfl (by repeat (first|exact Ae|refine Ab (Ac _) ?_)) ?_
  repeat' (first|refine rl0 ?_|refine rs0 ?_ ?_<;>intro h|fail)
  refine wiv (opP (opZ op)) rfl rfl rfl rfl rfl ⟨by omega,?_⟩ (opsL_row h1.1 h1.2) ?_
  ·show op<20;omega
  repeat' (first|refine rl0 ?_|refine rs0 ?_ ?_<;>intro h|fail)
  rw [show E7 op=true from by simp [E7,h1]];rfl
def Vi:List ByteArray->ByteArray->Int
 |[],_ => -1
 |x::r,s=>if x=s then 0 else if Vi r s<0 then -1 else Vi r s+1
theorem Aag:∀ {l:List ByteArray} {s:ByteArray} {i:Nat},l[i]? = some s->Ji (l.take i) s=false->Vi l s=i
 |[],s,i,h,_=>by simp at h
 |x::r,s,0,h,_=>by simp at h;simp [Vi,h]
 |x::r,s,i+1,h,hm=>by
  simp only [List.getElem?_cons_succ] at h
  simp only [List.take_succ_cons,Ji,List.any_cons,Bool.or_eq_false_iff] at hm
  have h1:=Aag h hm.2
  have h2:x≠s:=by simpa using hm.1
  simp only [Vi,if_neg h2,h1]
  rw [if_neg (by omega)];omega
theorem Vj:∀ {l:List ByteArray} {s:ByteArray},Ji l s=false->Vi l s = -1
 |[],s,_=>rfl
 |x::r,s,hm=>by
  simp only [Ji,List.any_cons,Bool.or_eq_false_iff] at hm
  have h2:x≠s:=by simpa using hm.1
  simp [Vi,if_neg h2,Vj hm.2]
theorem Aah (l:List ByteArray) (s:ByteArray):Ji l s=decide (0<=Vi l s):=by
 induction l with
 |nil=>rfl
 |cons x r ih =>
  simp only [Ji,List.any_cons,Vi]
  by_cases h:x=s
  ·simp [h]
  ·simp only [h,decide_false,Bool.false_or,if_false]
   show Ji r s=_
   rw [ih]
   by_cases h2:Vi r s<0
   ·simp [h2]
   ·simp [h2];omega
theorem Aaj (l:List ByteArray) (s:ByteArray):Am 59 [Db l,Bf s] ⟨[],[]⟩ (.ret (Ah (Vi l s))) ⟨[],[]⟩:=by
 refine Er Tryz.func59 rfl rfl (Nat.le_of_ble_eq_true rfl) rfl (Nat.le_refl _) ?_
 intro hf
 have hl:l.length<=9223372036854775807:=by have:=hf.1;simpa [fitP] using this
 repeat' (first|refine rl0 ?_|refine rs0 ?_ ?_<;>intro h|fail)
 refine B3 (ι := Nat) (ok:=fun i=>i<=l.length/\Ji (l.take i) s=false) (L:=fun i=>[(0,Db l),(1,Bf s),(7,Ah (l.map strE).length),(8,Ah i)]) (Sx:=fun _=>⟨[],[]⟩) (μ := fun i=>l.length-i) 0 ⟨Nat.zero_le _,by simp [Ji]⟩ (by repeat (first|exact Ag|refine Aa rfl ?_)) rfl ?_
 rintro i ⟨hi,hm⟩
 repeat' (first|refine rl0 ?_|refine rs0 ?_ ?_<;>intro h|fail)
 ·have hlt:i<l.length:=by simpa using h
  obtain ⟨x,hx⟩:∃ x,l[i]? = some x:=⟨_,List.getElem?_eq_getElem hlt⟩
  refine wix _ rfl rfl rfl rfl rfl (Sg hx) (by omega) ?_
  repeat' (first|refine rl0 ?_|refine rs0 ?_ ?_<;>intro h|fail)
  ·obtain rfl:s=x:=by simpa using h
   rw [Aag hx hm]
  ·exact ⟨i+1,⟨by omega,by rw [Agn hx hm];simp at h |-;exact fun e=>h e.symm⟩,by omega,(by repeat (first|exact Ag|refine Aa rfl ?_)),rfl⟩
 ·rw [List.take_of_length_le (by simp at h;omega)] at hm
  rw [Vj hm]
theorem Kd (l:List ByteArray) (s:ByteArray):Am 41 [Db l,Bf s] ⟨[],[]⟩ (.ret (An (Ji l s))) ⟨[],[]⟩:=by
 refine Ad Tryz.func41 rfl rfl (Nat.le_of_ble_eq_true rfl) rfl (Nat.le_refl _) ?_
 repeat' (first|refine rl0 ?_|refine rs0 ?_ ?_<;>intro h|fail)
 refine E2 (Aaj l s) rfl rfl rfl rfl rfl (by repeat (first|exact Ae|refine Ab (Ac _) ?_)) ?_
 repeat' (first|refine rl0 ?_|refine rs0 ?_ ?_<;>intro h|fail)
 rw [Aah]
@[reducible] def Cu (l:List Int):PV := .d (.sl 1 (l.map fun n=>[.v (.int .i64 n)]))
theorem Ai0 (o:Int×Int×Int×Int×ByteArray) (t:Int):Am 57 [Ah t,.ptr 0 0] ⟨[opP o],[]⟩ (.ret (An (!decide (t=o.2.1)))) ⟨[opP o],[]⟩:=by
 refine Ad Tryz.func57 rfl rfl (Nat.le_of_ble_eq_true rfl) rfl (Nat.le_refl _) ?_
 repeat' (first|refine rl0 ?_|refine rs0 ?_ ?_<;>intro h|fail)
 rfl
def idxN (l:List Int) (n:Int):Int:=match l.findIdx? (fun t => !decide (t=n)) with|some i=>i|none => -1
theorem M2 {α : Type} {p : α -> Bool} {l:List α} {i:Nat} {x : α} (hx:l[i]? = some x) (hm:(l.take i).any p=false) (hp:p x=true):l.findIdx? p=some i:=by
 rw [List.findIdx?_eq_some_iff_getElem]
 obtain ⟨hlt,rfl⟩:=List.getElem?_eq_some_iff.1 hx
 refine ⟨hlt,hp,fun j hj=>?_⟩
 rw [List.any_eq_false] at hm
 exact hm _ (List.mem_take_iff_getElem.2 ⟨j,by omega,rfl⟩)
theorem Zr {α : Type} {p : α -> Bool} {l:List α} {i:Nat} {x : α} (hx:l[i]? = some x) (hm:(l.take i).any p=false) (hp:p x=false):(l.take (i+1)).any p=false:=by
 obtain ⟨hlt,rfl⟩:=List.getElem?_eq_some_iff.1 hx
 rw [List.take_succ_eq_append_getElem hlt,List.any_append,hm];simp [hp]
theorem Vm (o:Int×Int×Int×Int×ByteArray) (l:List Int):Am 87 [Cu l,.fn 57 [.ptr 0 0]] ⟨[opP o],[]⟩ (.ret (Ah (idxN l o.2.1))) ⟨[opP o],[]⟩:=by
 refine Er Tryz.func87 rfl rfl (Nat.le_of_ble_eq_true rfl) rfl (Nat.le_refl _) ?_
 intro hf
 have hl:l.length<=9223372036854775807:=by have:=hf.1;simpa [fitP] using this
 repeat' (first|refine rl0 ?_|refine rs0 ?_ ?_<;>intro h|fail)
 refine B3 (ι := Nat) (ok:=fun i=>i<=l.length/\(l.take i).any (fun t => !decide (t=o.2.1))=false) (L:=fun i=>[(0,Cu l),(1,.fn 57 [.ptr 0 0]),(7,Ah (l.map fun n=>[DV.v (.int .i64 n)]).length),(8,Ah i)]) (Sx:=fun _=>⟨[opP o],[]⟩) (μ := fun i=>l.length-i) 0 ⟨Nat.zero_le _,by simp⟩ (by repeat (first|exact Ag|refine Aa rfl ?_)) rfl ?_
 rintro i ⟨hi,hm⟩
 repeat' (first|refine rl0 ?_|refine rs0 ?_ ?_<;>intro h|fail)
 ·have hlt:i<l.length:=by simpa using h
  obtain ⟨x,hx⟩:∃ x,l[i]? = some x:=⟨_,List.getElem?_eq_getElem hlt⟩
  refine wix _ rfl rfl rfl rfl rfl (Sg hx) (by omega) ?_
  repeat' (first|refine rl0 ?_|refine rs0 ?_ ?_<;>intro h|fail)
  refine wcb (Ai0 o x) rfl rfl rfl rfl rfl rfl rfl rfl (by repeat (first|exact Ae|refine Ab (Ac _) ?_)) rfl ?_
  repeat' (first|refine rl0 ?_|refine rs0 ?_ ?_<;>intro h|fail)
  ·rw [show idxN l o.2.1=i from by unfold idxN;rw [M2 hx hm h]]
  ·exact ⟨i+1,⟨by omega,Zr hx hm h⟩,by omega,(by repeat (first|exact Ag|refine Aa rfl ?_)),rfl⟩
 ·rw [List.take_of_length_le (by simp at h;omega)] at hm
  rw [show idxN l o.2.1 = -1 from by unfold idxN;rw [List.findIdx?_eq_none_iff.2 (by rw [List.any_eq_false] at hm;intro x hx;simpa using hm x hx)]]
theorem Ig (o:Int×Int×Int×Int×ByteArray) (l:List Int):Am 56 [Cu l,.fn 57 [.ptr 0 0]] ⟨[opP o],[]⟩ (.ret (An (l.any fun t => !decide (t=o.2.1)))) ⟨[opP o],[]⟩:=by
 refine Ad Tryz.func56 rfl rfl (Nat.le_of_ble_eq_true rfl) rfl (Nat.le_refl _) ?_
 repeat' (first|refine rl0 ?_|refine rs0 ?_ ?_<;>intro h|fail)
 refine wcb (Vm o l) rfl rfl rfl rfl rfl rfl rfl rfl (by repeat (first|exact Ae|refine Ab (Ac _) ?_)) rfl ?_
 repeat' (first|refine rl0 ?_|refine rs0 ?_ ?_<;>intro h|fail)
 congr 4
 unfold idxN
 cases e:l.findIdx? (fun t => !decide (t=o.2.1)) with
 |none =>
  rw [List.findIdx?_eq_none_iff] at e
  symm;simp only [Int.reduceNeg,Int.reduceLE,decide_false]
  rw [List.any_eq_false];intro x hx;rw [e x hx];simp
 |some i =>
  rw [List.findIdx?_eq_some_iff_getElem] at e
  obtain ⟨hlt,h1,_⟩:=e
  have:(0:Int)<=(i:Int):=by omega
  simp only [this,decide_true]
  exact (List.any_eq_true.2 ⟨_,List.getElem_mem hlt,h1⟩).symm
theorem Af9 {l:List Int} {i:Nat} {n:Int} (h:l[i]? = some n):(l.take i).map (fun n=>[DV.v (.int .i64 n)])++[[.v (.int .i64 n)]]=(l.take (i+1)).map (fun n=>[DV.v (.int .i64 n)]):=by
 obtain ⟨hlt,rfl⟩:=List.getElem?_eq_some_iff.1 h
 rw [List.take_succ_eq_append_getElem hlt,List.map_append];rfl
theorem Qn {x:Ex} (h:x.fits=true):1<=x.op/\x.op<=19:=by
 have:=(Il h).1
 unfold Dq at this
 repeat' split at this
 all_goals omega
theorem opZ_want {op:Int} (h1:1<=op) (h2:op<=19) (h:op≠19):(opZ op).2.1=G0 op\/(Dq op=0):=by
 rcases Kh h1 h2 with rfl|rfl|rfl|rfl|rfl|rfl|rfl|rfl|rfl|rfl|rfl|rfl|rfl|rfl|rfl|rfl|rfl|rfl|rfl<;>first|exact .inl rfl|exact .inr rfl|exact absurd rfl h
theorem opZ_is {op:Int} (h1:1<=op) (h2:op<=19) (h:op≠19):(opZ op).2.2.1=isZ op:=by
 rcases Kh h1 h2 with rfl|rfl|rfl|rfl|rfl|rfl|rfl|rfl|rfl|rfl|rfl|rfl|rfl|rfl|rfl|rfl|rfl|rfl|rfl<;>first|rfl|exact absurd rfl h
theorem Xv (l:List Int) (n:Int):l.any (fun t => !decide (t=n)) = !l.all (· == n):=by
 induction l with
 |nil=>rfl
 |cons a r ih=>simp only [ih,List.any_cons,List.all_cons];cases (r.all fun x=>x==n)<;>by_cases h:a=n<;>simp [h]
theorem Ee (vars:List ByteArray) (l:List Ex):(Bp vars l).length=l.length:=by rw [Mf];simp
theorem Nq {vars:List ByteArray} {x:Ex} (h:x.fits=true) (h19:x.op≠19):(Bp vars x.args).any (fun t => !decide (t=(opZ x.op).2.1)) = !(Bp vars x.args).all (· == G0 x.op):=by
 have hk:=Qn h
 rcases opZ_want hk.1 hk.2 h19 with e|e
 ·rw [e,Xv]
 ·have hl:=(Il h).1
  rw [e] at hl
  have:x.args=[]:=List.eq_nil_of_length_eq_zero (by omega)
  rw [this];rfl
theorem Sc {l:List Ex} {i:Nat} (hi:i<=l.length) (h:decide ((i:Int)<((Ij l).length:Int))=false):i=l.length:=by
 rw [A8] at h;simp at h;omega
set_option maxHeartbeats 1000000 in
theorem L2 (vars:List ByteArray):∀ (n:Nat) (x:Ex),x.hgt<=n->x.fits=true->Am 27 [exP x,Db vars] ⟨[],[]⟩ (.ret (Ah (A9 vars x))) ⟨[],[]⟩:=by
 intro n
 induction n with
 |zero=>intro a h;cases a;simp [Ex.hgt] at h
 |succ n ih =>
  intro x hn hx
  refine Er Tryz.func27 rfl rfl (Nat.le_of_ble_eq_true rfl) rfl (Nat.le_refl _) ?_
  intro hf
  have hfit:x.args.length<=9223372036854775807:=by rw [<- A8];exact hf.1.2.2.2.1
  have hk:=Qn hx
  have hb:E7 x.op=true:=by simp [E7,hk]
  have hsz:x.args.length<=3:=by
   have:=(Il hx).1
   unfold Dq at this
   repeat' split at this
   all_goals omega
  repeat' (first|refine rl0 ?_|refine rs0 ?_ ?_<;>intro h|fail)
  have hd:=Sa x.op
  rw [hb] at hd
  refine E2 hd rfl rfl rfl rfl rfl (by repeat (first|exact Ae|refine Ab (Ac _) ?_)) ?_
  repeat' (first|refine rl0 ?_|refine rs0 ?_ ?_<;>intro h|fail)
  refine Ahy 7 1 3 rfl ?_
  refine pw_loopC (ι := Nat) (ok:=fun i=>i<=x.args.length) (L:=fun i=>[(1,Db vars),(2,.ptr 0 0),(5,.ptr 1 0),(7,.hd 0 i),(17,.d (.sl 4 (Ij x.args))),(18,Ah (Ij x.args).length),(19,Ah i)])
   (Sx:=fun i=>⟨[(exP x).parts,opP (opZ x.op)],[⟨i,1,((Bp vars x.args).take i).map (fun n=>[.v (.int .i64 n)]),3⟩]⟩) (μ := fun i=>x.args.length-i) 0 (Nat.zero_le _) (by repeat (first|exact Ag|refine Aa rfl ?_)) rfl ?_
  rintro i hi
  repeat' (first|refine rl0 ?_|refine rs0 ?_ ?_<;>intro h|fail)
  ·have hlt:i<x.args.length:=by rw [A8] at h;simpa using h
   obtain ⟨y,hy⟩:∃ y,x.args[i]? = some y:=⟨_,List.getElem?_eq_getElem hlt⟩
   refine wix _ rfl rfl rfl rfl rfl (Ai hy) (by omega) ?_
   repeat' (first|refine rl0 ?_|refine rs0 ?_ ?_<;>intro h|fail)
   have hy2:=List.mem_of_getElem? hy
   have hy3:(Bp vars x.args)[i]? = some (A9 vars y):=by rw [Mf];simp [hy]
   refine E2 (ih y (by have:=Gc hy2;omega) (fits_arg hx hy2)) rfl rfl rfl rfl rfl (by repeat (first|exact Ae|refine Ab (Ac _) ?_)) ?_
   repeat' (first|refine rl0 ?_|refine rs0 ?_ ?_<;>intro h|fail)
   refine T9 (news:=[[.v (.int .i64 (A9 vars y))]]) (S':=⟨[(exP x).parts,opP (opZ x.op),(exP y).parts],[⟨i+1,1,((Bp vars x.args).take (i+1)).map (fun n=>[.v (.int .i64 n)]),3⟩]⟩) rfl rfl rfl rfl rfl rfl ?_ ?_ ?_ ?_
   ·simp [Ee];show _*8<=_;omega
   ·simp [Ee];omega
   ·rw [<- Af9 hy3];rfl
   repeat' (first|refine rl0 ?_|refine rs0 ?_ ?_<;>intro h|fail)
   exact ⟨i+1,by omega,by omega,(by repeat (first|exact Ag|refine Aa rfl ?_)),rfl,rfl,rfl,Nat.le_refl _,Nat.le_refl _⟩
  ·rename_i g
   have hi':=Sc hi g
   subst hi'
   rw [List.take_of_length_le (by rw [Ee];exact Nat.le_refl _)]
   have h19:x.op=19:=by simpa using h
   obtain ⟨a,b,c,he⟩:=args3 hx h19
   have hks:Bp vars x.args=[A9 vars a,A9 vars b,A9 vars c]:=by rw [he];rfl
   have hkx:A9 vars x=if A9 vars a≠2\/A9 vars b≠A9 vars c then 0 else A9 vars b:=by rw [Jd vars x,if_neg (by omega),if_pos h19,hks]
   rw [hks]
   refine T1 [.v (.int .i64 (A9 vars a))] rfl rfl rfl (Ep rfl) rfl rfl (by omega) ?_
   repeat' (first|refine rl0 ?_|refine rs0 ?_ ?_<;>intro h|fail)
   ·rw [hkx,if_pos (by simp_all)]
   refine T1 [.v (.int .i64 (A9 vars b))] rfl rfl rfl (Ep rfl) rfl rfl (by omega) ?_
   repeat' (first|refine rl0 ?_|refine rs0 ?_ ?_<;>intro h|fail)
   refine T1 [.v (.int .i64 (A9 vars c))] rfl rfl rfl (Ep rfl) rfl rfl (by omega) ?_
   repeat' (first|refine rl0 ?_|refine rs0 ?_ ?_<;>intro h|fail)
   ·rw [hkx,if_pos (by simp_all)]
   refine wix [.v (.int .i64 (A9 vars b))] rfl rfl rfl (Ep rfl) rfl rfl (by omega) ?_
   repeat' (first|refine rl0 ?_|refine rs0 ?_ ?_<;>intro h|fail)
   rw [hkx,if_neg (by simp_all)]
  ·rename_i g g2
   have hi':=Sc hi g
   subst hi'
   rw [List.take_of_length_le (by rw [Ee];exact Nat.le_refl _)]
   have h2:x.op=2:=by simpa using h
   refine E2 (Kd vars x.name) rfl rfl rfl rfl rfl (by repeat (first|exact Ae|refine Ab (Ac _) ?_)) ?_
   repeat' (first|refine rl0 ?_|refine rs0 ?_ ?_<;>intro h|fail)
   ·rw [Jd vars x,if_pos ⟨h2,by simpa using h⟩]
   have h19:x.op≠19:=by omega
   have hm:¬ (x.op=2/\Ji vars x.name=false):=fun e=>by simp [e.2] at h
   refine wcb (id:=1) (Ig (opZ x.op) (Bp vars x.args)) rfl rfl rfl rfl rfl rfl rfl rfl (Ab (Kc (Ep rfl)) (Ab (Ac _) Ae)) rfl ?_
   repeat' (first|refine rl0 ?_|refine rs0 ?_ ?_<;>intro h|fail)
   ·rw [Nq hx h19] at h
    rw [Jd vars x,if_neg hm,if_neg h19,if_neg (by simp_all)]
   ·rw [Nq hx h19] at h
    rw [Jd vars x,if_neg hm,if_neg h19,if_pos (by simpa using h),<- opZ_is hk.1 hk.2 h19]
  ·rename_i g g2
   have hi':=Sc hi g
   subst hi'
   rw [List.take_of_length_le (by rw [Ee];exact Nat.le_refl _)]
   have h19:x.op≠19:=by simpa using g2
   have hm:¬ (x.op=2/\Ji vars x.name=false):=fun e=>by simp [e.1] at h
   refine wcb (id:=1) (Ig (opZ x.op) (Bp vars x.args)) rfl rfl rfl rfl rfl rfl rfl rfl (Ab (Kc (Ep rfl)) (Ab (Ac _) Ae)) rfl ?_
   repeat' (first|refine rl0 ?_|refine rs0 ?_ ?_<;>intro h|fail)
   ·rw [Nq hx h19] at h
    rw [Jd vars x,if_neg hm,if_neg h19,if_neg (by simp_all)]
   ·rw [Nq hx h19] at h
    rw [Jd vars x,if_neg hm,if_neg h19,if_pos (by simpa using h),<- opZ_is hk.1 hk.2 h19]
mutual
def Ex.small:Ex->Prop
 |.mk _ _ s l=>s.size<=9223372036854775807/\W7 l
def W7:List Ex->Prop
 |[]=>True
 |x::l=>x.small/\W7 l
end
theorem Abr {x:Ex} (h:x.small):x.name.size<=9223372036854775807/\W7 x.args:=by cases x;exact h
theorem Lo {G:Nat->Nat->Prop} {w:World} {k b:Nat}:∀ {l:List (List DV)} {o j:Nat} {e:List DV},Bu G w k l b o->l[j]? = some e->Aq G w e b (o+j*k)
 |[],o,j,e,_,h=>by simp at h
 |y::l,o,0,e,hr,h=>by simp at h;subst h;simp only [Bu] at hr;simpa using hr.2.1
 |y::l,o,j+1,e,hr,h=>by
  simp at h
  simp only [Bu] at hr
  have:=Lo hr.2.2 h
  rwa [show o+k+j*k=o+(j+1)*k from by rw [Nat.succ_mul];omega] at this
theorem exD_eq (x:Ex):exD x=[.v (.int .i64 x.op),.v (.int .i64 x.n),.v (.string x.name),.sl 4 (Ij x.args)]:=by cases x;rfl
theorem Ed {f:Nat} {args:List PV} {S S':PS} {r r':PV} (h:Am f args S (.ret r') S') (hc:Coe S' r' r):Am f args S (.ret r) S' :=
 ⟨h.1,fun K w vs hI hA=>(h.2 K w vs hI hA).mono fun _ w' ⟨K',h1,h2,v,he,hr⟩=>⟨K',h1,h2,v,he,hc K' w' v h2 hr⟩⟩
theorem K5 {f:Nat} {args:List PV} {S S':PS} {r:PV} (n m:Nat) (h:Am f args S (.ret r) S') (hn:S.boxes.length<=n) (hm:S.toks.length<=m) (hall:(S'.boxes.take n).all (fun c=>PV.ltL n m c)=true) (hr:r.lt n m=true):Am f args S (.ret r) (S'.cut n m) :=
 ⟨h.1,fun K w vs hI hA=>(h.2 K w vs hI hA).mono fun _ _ ⟨K',h1,h2,v,he,hv⟩=>⟨K'.cut n m,C9 hI h1 hn hm,h2.cut hall,v,he,Rep.cut _ _ hr hv⟩⟩
theorem E0 {S:PS} {l l':List PV} (h:Ga S l l'):Coe S (.agg l) (.agg l'):=fun K w u hI hr=>by
 simp only [Rep] at hr |-
 obtain ⟨cs,h1,h2⟩:=hr
 exact ⟨cs,h1,Ga.rep hI h h2⟩
theorem I6 {S:PS} {l l':List PV} (h:Ga S l l'):Coe S (.tup l) (.tup l'):=fun K w u hI hr=>by
 simp only [Rep] at hr |-
 obtain ⟨cs,h1,h2⟩:=hr
 exact ⟨cs,h1,Ga.rep hI h h2⟩
theorem Fg {S:PS} {k:Nat}:Coe S (.d (.v (.slice none 0 0))) (.d (.sl k [])):=Kc rfl
inductive DefP where
 |mark
 |call (g:Nat) (caps:List PV)
def Od (b0:Nat) (K:Kx) (w:World) (k:Nat):Prop:=b0<=k/\w.heap[k]? = some (.deferred (some []))/\k∉K.β /\ ∀ (t:Nat) (c:TokC) (lo:Nat),K.τ[t]? = some c->TokC.blk c≠some (k,lo)
theorem Od.step {b0 k:Nat} {K K':Kx} {w w':World} (h:Od b0 K w k) (hs:Step K K' w w'):Od b0 K' w' k:=by
 obtain ⟨h0,h1,h2,h3⟩:=h
 have hlt:k<w.heap.size:=(Array.getElem?_eq_some_iff.1 h1).1
 refine ⟨h0,(hs.blocks k hlt h2 h3).trans h1,fun hm=>?_,fun t c lo ht hc=>?_⟩
 ·rcases hs.βnew _ hm with h4|h4
  ·exact h2 h4
  ·omega
 ·rcases hs.τnew t c _ lo ht hc with h4|⟨t0,c0,lo0,h4,h5,_⟩
  ·omega
  ·exact h3 t0 c0 lo0 h4 h5
def D9 (b0:Nat) (K:Kx) (w:World):List DefP->List Deferred->Prop
 |[],ds=>ds=[]
 |.mark::D,ds=>∃ k r,ds={ target := .collected k,args := #[] }::r/\Od b0 K w k/\(∀ d∈r,d.target ≠ .collected k)/\D9 b0 K w D r
 |.call g caps::D,ds=>∃ (cs:List Value) (r:List Deferred),ds={ target := .fn (.func g) cs.toArray,args := #[] }::r/\Ao K w caps cs/\D9 b0 K w D r
theorem D9.step {b0:Nat} {K K':Kx} {w w':World} (hs:Step K K' w w'):∀ {D:List DefP} {ds:List Deferred},D9 b0 K w D ds->D9 b0 K' w' D ds
 |[],_,h=>h
 |.mark::_,_,⟨k,r,h1,h2,h3,h4⟩=>⟨k,r,h1,h2.step hs,h3,h4.step hs⟩
 |.call _ _::_,_,⟨cs,r,h1,h2,h3⟩=>⟨cs,r,h1,Ao.step hs _ _ h2,h3.step hs⟩
def QD (b0:Nat) (K:Kx) (w:World) (N:Nat) (Q:Exit->(Nat->PV)->PS->List DefP->Prop) (e:Exit) (a':Act) (w':World):Prop :=
 ∃ K' F' S' D',Step K K' w w'/\Inv K' S' w'/\FrameRep K' w' N F' a'/\D9 b0 K' w' D' a'.defers/\Q e F' S' D'
structure PD (P:Program) (N:Nat) (c:Code) (Q:Exit->(Nat->PV)->PS->List DefP->Prop) (F:Nat->PV) (S:PS) (D:List DefP):Prop where
 run:∀ (b0:Nat) (K:Kx) (w:World) (a:Act),b0<=w.heap.size->Inv K S w->FrameRep K w N F a->D9 b0 K w D a.defers->c.wp P (QD b0 K w N Q) a w
def thenD (next:(Nat->PV)->PS->List DefP->Prop) (Q:Exit->(Nat->PV)->PS->List DefP->Prop):Exit->(Nat->PV)->PS->List DefP->Prop
 |.normal,F,S,D=>next F S D
 |e,F,S,D=>Q e F S D
def blockD (id:Nat) (Q:Exit->(Nat->PV)->PS->List DefP->Prop):Exit->(Nat->PV)->PS->List DefP->Prop
 |.exit i,F,S,D=>bif Nat.beq i id then Q .normal F S D else Q (.exit i) F S D
 |e,F,S,D=>Q e F S D
section
variable {P:Program} {N:Nat} {Q:Exit->(Nat->PV)->PS->List DefP->Prop} {F:Nat->PV} {S:PS} {D:List DefP}
theorem QD.step {b0:Nat} {K K':Kx} {w w':World} {S0:PS} (hI:Inv K S0 w) (hs:Step K K' w w') {e:Exit} {a:Act} {w2:World} (h:QD b0 K' w' N Q e a w2):QD b0 K w N Q e a w2:=by
 obtain ⟨K2,F2,S2,D2,h1,h2,h3,h4,h5⟩:=h
 exact ⟨K2,F2,S2,D2,hs.trans hI h1,h2,h3,h4,h5⟩
theorem Bb {c:Code} (h:PW P N c (fun e F S=>Q e F S D) F S):PD P N c Q F S D:=by
 refine ⟨fun b0 K w a _ hI hF hD=>wp_mono (h.run0 K w a hI hF) fun e a' w' hq=>?_⟩
 obtain ⟨K',F',S',h1,h2,h3,h4,h5⟩:=hq
 exact ⟨K',F',S',D,h1,h2,h3,by rw [h4];exact hD.step h1,h5⟩
theorem Sy {c:Code} (L:List (Nat×PV)) (h:Ua L F) (k:PD P N c Q (fr L) S D):PD P N c Q F S D:=⟨fun b0 K w a hb hI hF hD=>k.run b0 K w a hb hI (M3 h hF) hD⟩
theorem Ap {x y:Code} (h:PD P N x (thenD (PD P N y Q) Q) F S D):PD P N (.seq x y) Q F S D:=by
 refine ⟨fun b0 K w a hb hI hF hD=>?_⟩
 refine wp_seq (wp_mono (h.run b0 K w a hb hI hF hD) fun e a' w' hq=>?_)
 obtain ⟨K',F',S',D',h1,h2,h3,h4,h5⟩:=hq
 cases e with
 |normal=>exact wp_mono (PD.run h5 b0 K' w' a' (Nat.le_trans hb h1.size) h2 h3 h4) fun e a2 w2 hq=>hq.step hI h1
 |ret=>exact ⟨K',F',S',D',h1,h2,h3,h4,h5⟩
 |exit id=>exact ⟨K',F',S',D',h1,h2,h3,h4,h5⟩
 |goto l=>exact ⟨K',F',S',D',h1,h2,h3,h4,h5⟩
 |panic c=>exact ⟨K',F',S',D',h1,h2,h3,h4,h5⟩
 |outgrown=>exact ⟨K',F',S',D',h1,h2,h3,h4,h5⟩
theorem N2 {id:Nat} {c:Code} (h:PD P N c (blockD id Q) F S D):PD P N (.block id c) Q F S D:=by
 refine ⟨fun b0 K w a hb hI hF hD=>?_⟩
 refine wp_block (wp_mono (h.run b0 K w a hb hI hF hD) fun e a' w' hq=>?_)
 obtain ⟨K',F',S',D',h1,h2,h3,h4,h5⟩:=hq
 cases e with
 |exit i =>
  simp only [Exit.inBlock]
  simp only [blockD] at h5
  split
  ·rename_i e;subst e;rw [show Nat.beq i i=true from by simp] at h5;exact ⟨K',F',S',D',h1,h2,h3,h4,h5⟩
  ·rename_i e
   cases hb:Nat.beq i id with
   |true=>exact absurd (Nat.eq_of_beq_eq_true hb) e
   |false=>rw [hb] at h5;exact ⟨K',F',S',D',h1,h2,h3,h4,h5⟩
 |normal=>exact ⟨K',F',S',D',h1,h2,h3,h4,h5⟩
 |ret=>exact ⟨K',F',S',D',h1,h2,h3,h4,h5⟩
 |goto l=>exact ⟨K',F',S',D',h1,h2,h3,h4,h5⟩
 |panic c=>exact ⟨K',F',S',D',h1,h2,h3,h4,h5⟩
 |outgrown=>exact ⟨K',F',S',D',h1,h2,h3,h4,h5⟩
theorem Lh {id:Nat} {o1 o2:Oper} {g:Nat} {cs:Array Operand} {t:Nat} {ats:Array TypeId} (h1:o1.op = .makeFunc (.func g) #[] cs) (h2:o2.op = .defer { callee := .value (.tmp t),args := #[],argTypes:=ats }) (hd:o1.dst=some t) (hd2:o2.dst=none) (hg:o1.guard=none) (hg2:o2.guard=none) (ht:t<N)
  (h:Q .normal (B8 N (some t) (.fn g (cs.toList.map (evP F))) F) S (.call g (cs.toList.map (evP F))::D)):PD P N (.region id #[o1,o2] false) Q F S D:=by
 refine ⟨fun b0 K w a hb hI hF hD=>?_⟩
 refine wp_region ?_
 have e1:∀ (Y:Array Value),Region.wanted o1 (yielded #[o1,o2] Y)=true:=fun Y=>by unfold Region.wanted;rw [hg]
 have e2:∀ (Y:Array Value),Region.wanted o2 (yielded #[o1,o2] Y)=true:=fun Y=>by unfold Region.wanted;rw [hg2]
 show wpOps P #[o1,o2] _ [0,1] a w
 simp only [wpOps,List.getElem?_toArray,List.getElem?_cons_zero,List.getElem?_cons_succ,e1,e2,if_true]
 have hr:Rep K w (.fn g (cs.toList.map (evP F))) (.func (.func g) #[] (cs.map a.eval)):=by
  simp only [Rep]
  refine ⟨cs.toList.map a.eval,by congr 1;apply Array.ext';simp,Iv cs.toList fun x _=>hF.ev x⟩
 have s1:=Step.refl K w
 refine .inl ?_
 unfold Oper.wp
 rw [show (execOp a.eval o1).run P w = .ok (.value (.func (.func g) #[] (cs.map a.eval))) w from by simp [execOp,h1,Instr.makeFunc],Oper.upon_value]
 refine .inl ?_
 have hF':=hF.put (dst:=some t) s1 hr
 rw [hd]
 obtain ⟨us,hus0,hus⟩:∃ us:List Value,cs.map a.eval=us.toArray/\Ao K w (cs.toList.map (evP F)) us:=⟨cs.toList.map a.eval,by apply Array.ext';simp,Iv cs.toList fun x _=>hF.ev x⟩
 rw [hus0] at hF' |-
 have hI':=hI
 have hv:(a.put (some t) (.func (.func g) #[] us.toArray)).eval (.tmp t) = .func (.func g) #[] us.toArray:=by
  have h6:=N4 (a:=a) (dst:=some t) (v := .func (.func g) #[] us.toArray) (t:=t) hF.size
  simpa [Act.eval,ht] using h6
 have hrun:(execOp (a.put (some t) (.func (.func g) #[] us.toArray)).eval o2).run P w = .ok (.defer { target := .fn (.func g) us.toArray,args := #[] }) w:=by
  simp only [execOp,h2,resolve,hv,Deferred.ofValue,Sem.run_bind,Sem.run_pure,Result.andThen_ok,List.map_toArray,List.map_nil,Array.append_empty]
 rw [hrun,Oper.upon_defer,hd2]
 refine ⟨K,B8 N (some t) (.fn g (cs.toList.map (evP F))) F,S,.call g (cs.toList.map (evP F))::D,s1,hI',⟨hF'.size,hF'.rep⟩,?_,h⟩
 refine ⟨us,a.defers,?_,hus,hD.step s1⟩
 show _::(a.put (some t) _).defers=_
 rw [D6]
end
theorem I5 {w:World} {k:Nat} {o o':Obj} (h:w.heap[k]? = some o) (h1:o.isCells=false) (h2:o'.isCells=false) (a:Addr):(w.putObj k o').cell? a=w.cell? a:=by
 by_cases e:a.block=k
 ·have hlt:=(Array.getElem?_eq_some_iff.1 h).1
  unfold World.cell?
  rw [e,World.putObj_heap_same hlt,h]
  have key:∀ x:Obj,x.isCells=false->(match some x with|some (Obj.cells c _ _)=>if a.spot.isSome=true then none else c[a.off]? | _=>(none:Option Value))=none:=fun x hx=>by
   cases x<;>first|rfl|(simp [Obj.isCells] at hx)
  exact (key o' h2).trans (key o h1).symm
 ·exact World.cell?_of_block (World.putObj_heap_other e)
theorem La {K:Kx} {w:World} {k b hi:Nat} {o:Obj} (h:K.good w b hi):K.good (w.putObj k o) b hi :=
 ⟨by rw [World.putObj_size];exact h.1,h.2⟩
section
variable {K:Kx} {w:World} {k:Nat} {o o':Obj} (h:w.heap[k]? = some o) (h1:o.isCells=false) (h2:o'.isCells=false)
include h h1 h2
theorem Ci.put {c:DV} {u:Value} (hr:Ci (K.good w) w c u):Ci (K.good (w.putObj k o')) (w.putObj k o') c u:=Ci.mono (fun _ _ hg=>⟨La hg,fun _ _=>I5 h h1 h2 _⟩) c u hr
mutual
theorem Rep.putO:∀ (p:PV) (u:Value),Rep K w p u->Rep K (w.putObj k o') p u
 |.any,u,_=>by simp [Rep]
 |.un,u,hr=>by simpa only [Rep] using hr
 |.d c,u,hr=>by simp only [Rep] at hr |-;exact Ci.put h h1 h2 hr
 |.agg l,u,hr=>by
  simp only [Rep] at hr |-
  obtain ⟨cs,e1,e2⟩:=hr
  exact ⟨cs,e1,Ao.putO l cs e2⟩
 |.tup l,u,hr=>by
  simp only [Rep] at hr |-
  obtain ⟨cs,e1,e2⟩:=hr
  exact ⟨cs,e1,Ao.putO l cs e2⟩
 |.ptr id off,u,hr=>by simpa only [Rep] using hr
 |.ep l,u,hr=>by
  simp only [Rep] at hr |-
  obtain ⟨b,o1,e1,e2,e3⟩:=hr
  exact ⟨b,o1,e1,La e2,Aq.mono (fun _ _ hg=>⟨La hg,fun _ _=>I5 h h1 h2 _⟩) l b o1 (fun _ _=>I5 h h1 h2 _) e3⟩
 |.hd t n,u,hr=>by simpa only [Rep] using hr
 |.bsl k' id off n cap,u,hr=>by simpa only [Rep] using hr
 |.fn f caps,u,hr=>by
  simp only [Rep] at hr |-
  obtain ⟨cs,e1,e2⟩:=hr
  exact ⟨cs,e1,Ao.putO caps cs e2⟩
theorem Ao.putO:∀ (l:List PV) (us:List Value),Ao K w l us->Ao K (w.putObj k o') l us
 |[],us,hr=>by simpa only [Ao] using hr
 |p::ps,us,hr=>by
  simp only [Ao] at hr |-
  obtain ⟨u,us',rfl,e1,e2⟩:=hr
  exact ⟨u,us',rfl,Rep.putO p u e1,Ao.putO ps us' e2⟩
end
theorem R5 {b:Nat} {C:Array Value} {ty:TypeId} {f:Nat×Nat} (hb:w.heap[b]? = some (.cells C ty f)):(w.putObj k o').heap[b]? = some (.cells C ty f):=by
 refine (World.putObj_heap_other ?_).trans hb
 rintro rfl
 rw [h] at hb;cases hb;cases h1
theorem Inv.putO {S:PS} (hI:Inv K S w):Inv K S (w.putObj k o') where
 lenβ := hI.lenβ
 lenτ := hI.lenτ
 box i b c hb hc:=by
  obtain ⟨C,ty,e1,e2,e3⟩:=hI.box i b c hb hc
  exact ⟨C,ty,R5 h h1 h2 e1,Ao.putO h h1 h2 _ _ e2,e3⟩
 nodup:=hI.nodup
 βM:=hI.βM
 tok t T c hT hc:=by
  obtain ⟨e1,u,e2,e3⟩:=hI.tok t T c hT hc
  refine ⟨e1,u,e2,?_⟩
  rcases e3 with e3|⟨g,cap,cur,e3,e4,e5,e6,e7,e8,e9,e10⟩
  ·exact .inl e3
  ·exact .inr ⟨g,cap,cur,e3,e4,R5 h h1 h2 e5,e6,e7,e8,La e9,Bu.mono (fun _ _ hg=>⟨La hg,fun _ _=>I5 h h1 h2 _⟩) T.l g 0 (fun _ _=>I5 h h1 h2 _) e10⟩
 tokF:=hI.tokF
 tokI:=hI.tokI
 tokH:=hI.tokH
 Mlt b hb:=by rw [World.putObj_size];exact hI.Mlt b hb
 Tlt b lo hb:=by rw [World.putObj_size];exact hI.Tlt b lo hb
 fz p hp:=by
  obtain ⟨⟨ty,r,e1⟩,e2⟩:=hI.fz p hp
  exact ⟨⟨ty,r,R5 h h1 h2 e1⟩,e2⟩
theorem FrameRep.putO {N:Nat} {F:Nat->PV} {a:Act} (hF:FrameRep K w N F a):FrameRep K (w.putObj k o') N F a:=⟨hF.size,fun t=>Rep.putO h h1 h2 _ _ (hF.rep t)⟩
theorem Step.putO {K0:Kx} {w0:World} (hs:Step K0 K w0 w) (hk:w0.heap.size<=k):Step K0 K w0 (w.putObj k o') where
 os:=hs.os
 tape:=hs.tape
 output:=hs.output
 size:=by rw [World.putObj_size];exact hs.size
 β := hs.β
 βnew:=hs.βnew
 M:=hs.M
 T:=hs.T
 τ := hs.τ
 τnew:=hs.τnew
 blocks b hb h3 h4:=(World.putObj_heap_other (by omega)).trans (hs.blocks b hb h3 h4)
 cells t c g lo i ht hc hg hi:=(I5 h h1 h2 _).trans (hs.cells t c g lo i ht hc hg hi)
end
theorem Od.putO {b0:Nat} {K:Kx} {w:World} {k k':Nat} {o':Obj} (h:Od b0 K w k') (hne:k'≠k):Od b0 K (w.putObj k o') k':=⟨h.1,(World.putObj_heap_other hne).trans h.2.1,h.2.2⟩
theorem D9.putO {b0:Nat} {K:Kx} {w:World} {k:Nat} {o o':Obj} (h:w.heap[k]? = some o) (h1:o.isCells=false) (h2:o'.isCells=false):∀ {D:List DefP} {ds:List Deferred},(∀ d∈ds,d.target ≠ .collected k)->D9 b0 K w D ds->D9 b0 K (w.putObj k o') D ds
 |[],_,_,hd=>hd
 |.mark::D,_,hn,⟨k',r,e1,e2,e3,e4⟩=>by
  subst e1
  refine ⟨k',r,rfl,e2.putO fun e=>?_,e3,e4.putO h h1 h2 fun d hd=>hn d (List.mem_cons_of_mem _ hd)⟩
  subst e
  exact hn _ List.mem_cons_self rfl
 |.call _ _::D,_,hn,⟨cs,r,e1,e2,e3⟩=>by
  subst e1
  exact ⟨cs,r,rfl,Ao.putO h h1 h2 _ _ e2,e3.putO h h1 h2 fun d hd=>hn d (List.mem_cons_of_mem _ hd)⟩
def P6:Option Value->FrameMode
 |none => .returning
 |some c => .panicking [{ v:=c,recovered:=false }]
def EvD (P:Program) (g:Nat) (caps:List PV) (S:PS) (u:Option Value) (S':PS):Prop :=
 ∀ (n:Nat) (K:Kx) (w:World) (vs:List Value),Inv K S w->Ao K w caps vs->CallsDIn Fence.wide n P g vs.toArray (P6 u) w fun e u' w'=>(∃ v,e = .returned v)/\settle u' = .returning/\∃ K',Step K K' w w'/\Inv K' S' w'
theorem Kq {F:Fence} {n:Nat} {P:Program} {f:FuncId} {args:Array Value} {u:FrameMode} {w:World} {R R':Ending->FrameMode->World->Prop} (h:CallsDIn F n P f args u w R) (hR:∀ e u w,R e u w->R' e u w):CallsDIn F n P f args u w R' :=
 ⟨h.1,fun c cs hm hr=>let ⟨e,u',w',fr,h1,h2⟩:=h.2 c cs hm hr; ⟨e,u',w',fr,hR _ _ _ h1,h2⟩⟩
def Ub (P:Program) (fn:Func) (out:POut) (S':PS) (F:Nat->PV):List DefP->Option Value->PS->Prop
 |[],none,S1=>∃ r,out = .ret r/\Rp P fn (.ret r) S' .ret F S1
 |[],some c,S1=>out = .panic c/\Rp P fn (.panic c) S' (.panic [{ v:=c,recovered:=false }]) F S1
 |.mark::D,u,S1=>Ub P fn out S' F D u S1
 |.call g caps::D,u,S1=>(∃ f,P.funcs[g]? = some f/\(f.name == "runtime.NumGoroutine")=false/\f.body.isSome=true)/\∃ S2,EvD P g caps S1 u S2/\Ub P fn out S' F D none S2
def bodyD (P:Program) (fn:Func) (out:POut) (S':PS) (e:Exit) (F:Nat->PV) (S1:PS) (D:List DefP):Prop :=
 ∃ u,((u=none/\(e = .normal\/e = .ret))\/∃ c,u=some c/\e = .panic [{ v:=c,recovered:=false }])/\Ub P fn out S' F D u S1
theorem Oy {P:Program} {fn:Func} {out:POut} {S0 S':PS} {F:Nat->PV} {K0:Kx} {w0:World} {a:Act} (hI0:Inv K0 S0 w0) (hS:S'.boxes.length=S0.boxes.length) (hT:S0.toks.length<=S'.toks.length)
  (hent:∀ (g:Nat) (f:Func),P.funcs[g]? = some f->(f.name == "runtime.NumGoroutine")=false->f.body.isSome=true->∀ args w,(callFunc g args).run P w = .ok (.enter g args) w) :
  ∀ (D:List DefP) (u:Option Value) (S1:PS) (K1:Kx) (w1:World) (ds:List Deferred),Step K0 K1 w0 w1->Inv K1 S1 w1->FrameRep K1 w1 fn.ntmps F a->D9 w0.heap.size K1 w1 D ds->Ub P fn out S' F D u S1 ->
   LeavesInM Fence.wide 6 P fn a.tmps (fun e w'=>∃ K',Step K0 K' w0 w'/\Inv K' S' w'/\Mz K' w' out e) ds (P6 u) w1
 |[],none,S1,K1,w1,ds,hs,hI,hF,hD,h=>by
  obtain rfl:ds=[]:=hD
  obtain ⟨r,rfl,h5,h6,_,ps,h8,rfl,h9⟩:=h
  have hcut:=hI.cut (n:=S'.boxes.length) (m:=S'.toks.length) h5
  rw [h6] at hcut
  obtain ⟨v,h10,h11⟩:=Ev hI hF h8
  exact ⟨v,h10,_,C9 hI0 hs (by omega) hT,hcut,v,rfl,Rep.cut _ _ h9 h11⟩
 |[],some c,S1,K1,w1,ds,hs,hI,hF,hD,h=>by
  obtain rfl:ds=[]:=hD
  obtain ⟨rfl,h5,h6,_⟩:=h
  have hcut:=hI.cut (n:=S'.boxes.length) (m:=S'.toks.length) h5
  rw [h6] at hcut
  exact ⟨_,C9 hI0 hs (by omega) hT,hcut,rfl⟩
 |.mark::D,u,S1,K1,w1,ds,hs,hI,hF,hD,h=>by
  obtain ⟨k,r,rfl,hm,hne,hD⟩:=hD
  refine ⟨by cases u<;>simp [P6],.inl ⟨k,_,rfl,run_takeDeferred hm.2.1,?_⟩⟩
  exact Oy hI0 hS hT hent D u S1 K1 _ r (hs.putO hm.2.1 rfl rfl hm.1) (hI.putO hm.2.1 rfl rfl) (hF.putO hm.2.1 rfl rfl) (hD.putO hm.2.1 rfl rfl hne) h
 |.call g caps::D,u,S1,K1,w1,ds,hs,hI,hF,hD,h=>by
  obtain ⟨cs,r,rfl,hc,hD⟩:=hD
  obtain ⟨⟨f,hf1,hf2,hf3⟩,S2,hE,h⟩:=h
  refine ⟨by cases u<;>simp [P6],.inr ⟨by simp [Fence.wide],.func g,cs.toArray,g,cs.toArray,rfl,?_,fun _ _=>trivial,?_⟩⟩
  ·simp only [invoke,Array.empty_append]
   exact hent g f hf1 hf2 hf3 _ _
  ·refine Kq (hE (6-1) K1 w1 cs hI hc) ?_
   rintro e u' w' ⟨⟨v,rfl⟩,hset,K2,hs2,hI2⟩
   show LeavesInM _ _ _ _ _ _ r (settle u') w'
   rw [hset]
   exact Oy hI0 hS hT hent D none S2 K2 w' r (hs.trans hI0 hs2) hI2 ⟨hF.size,fun t=>Rep.step hs2 _ _ (hF.rep t)⟩ (hD.step hs2) h
theorem Dz {P:Program} {f:Nat} {fn:Func} {c:Code} {args:List PV} {S S':PS} {out:POut} (hent:∀ (g:Nat) (f:Func),P.funcs[g]? = some f->(f.name == "runtime.NumGoroutine")=false->f.body.isSome=true->∀ args w,(callFunc g args).run P w = .ok (.enter g args) w)
  (hf:P.funcs[f]? = some fn) (hb:fn.body=some c) (hn:args.length<=fn.ntmps) (hS:S'.boxes.length=S.boxes.length) (hT:S.toks.length<=S'.toks.length) (h:PD P fn.ntmps c (bodyD P fn out S') (Hq args) S []):EvC P f args S out S':=by
 intro K w vs hI hA
 have hl:=hA.length
 refine (callsIn_wide (n:=6)).1 (callsIn_of_wp_marks hf hb trivial (wpIn_wide.2 (wp_mono (h.run w.heap.size K w { tmps:=vs.toArray++Array.replicate (fn.ntmps-vs.toArray.size) undef,defers:=[] } (Nat.le_refl _) hI ⟨by simp;omega,fun t=>?_⟩ rfl) ?_)) rfl)
 ·have:=Ea args vs (fn.ntmps-vs.toArray.size) t hA
  rw [Array.getD_eq_getD_getElem?]
  rw [List.getD_eq_getElem?_getD] at this
  rw [<- Array.getElem?_toList]
  simpa using this
 ·intro e a' w' hq
  obtain ⟨K',F',S1,D',h1,h2,h3,h4,u,hu,hL⟩:=hq
  have key:=Oy (out:=out) hI hS hT hent D' u S1 K' w' a'.defers h1 h2 h3 h4 hL
  rcases hu with ⟨rfl,rfl|rfl⟩|⟨c,rfl,rfl⟩
  ·exact key
  ·exact key
  ·exact key
def Pj:Op->Bool
 |.move _ | .assign _ | .alloc _ | .load .. | .store .. | .extract .. | .typeAssert .. => true
 |_=>false
theorem run_v {P:Program} {m:Sem Value} {w w':World} {x:Next} (h:(do pure (.value (<- m)):Sem Next).run P w = .ok x w'):∃ v,x = .value v:=by
 rw [Sem.run_bind] at h
 cases e:m.run P w with
 |ok v w1=>rw [e] at h;simp only [Result.andThen_ok,Sem.run_pure] at h;cases h;exact ⟨_,rfl⟩
 |_=>rw [e] at h;simp [Result.andThen] at h
theorem run_u {P:Program} {m:Sem Unit} {w w':World} {x:Next} (h:(do m;pure .skip:Sem Next).run P w = .ok x w'):x = .skip:=by
 rw [Sem.run_bind] at h
 cases e:m.run P w with
 |ok v w1=>rw [e] at h;simp only [Result.andThen_ok,Sem.run_pure] at h;cases h;rfl
 |_=>rw [e] at h;simp [Result.andThen] at h
theorem Adi {P:Program} {o:Oper} {ρ : Operand->Value} {w w':World} {x:Next} (hs:Pj o.op=true) (h:(execOp ρ o).run P w = .ok x w'):(∃ v,x = .value v)\/x = .skip:=by
 unfold execOp at h
 unfold Pj at hs
 split at hs
 ·rename_i e;rw [e] at h;simp only [Sem.run_pure] at h;cases h;exact .inl ⟨_,rfl⟩
 ·rename_i e;rw [e] at h;simp only [Sem.run_pure] at h;cases h;exact .inl ⟨_,rfl⟩
 ·rename_i e;rw [e] at h;exact .inl (run_v h)
 ·rename_i e;rw [e] at h;exact .inl (run_v h)
 ·rename_i e;rw [e] at h;exact .inr (run_u h)
 ·rename_i e;rw [e] at h;exact .inl (run_v h)
 ·rename_i e;rw [e] at h;exact .inl (run_v h)
 ·cases hs
theorem Pk {P:Program} {ops:Array Oper} {o:Oper} {i n:Nat} {l:List Nat} {Q:Exit->Act->List Frame->World->Prop} {a:Act} {cs:List Frame} {w:World} (ho:ops[i]? = some o) (hs:Pj o.op=true) (hw:Region.wanted o (yielded ops a.tmps)=true)
  (h:o.wpIn (fen none) 0 P a w (fun a' w'=>wpOpsSIn Fence.wide n P ops Q l a' cs w') (fun e a' w'=>Q e a' cs w')):wpOpsSIn Fence.wide n P ops Q (i::l) a cs w:=by
 simp only [wpOpsSIn,ho,hw,if_true]
 refine ⟨fun _ _=>trivial,?_⟩
 have h:=h.2
 rw [show o.semAt (fen none).round a.eval=execOp a.eval o from rfl] at h
 cases e:(execOp a.eval o).run P w with
 |ok x w' =>
  rw [e] at h
  rcases Adi hs e with ⟨v,rfl⟩|rfl
  ·exact h
  ·exact h
 |halt s w' =>
  rw [e] at h
  cases s<;>first|exact h|exact h.elim
theorem walkS {P:Program} {N n:Nat} {ops:Array Oper} {Q:Exit->Act->List Frame->World->Prop} {cs:List Frame} {rest:List Oper} {F:Nat->PV} {S:PS} {res:WRes} (h:Walk P N ops rest F S res) :
  ∀ (k:Nat),(∀ j,rest[j]? = ops[k+j]?)->rest.all (fun o=>Pj o.op)=true->∀ (K0 K:Kx) (S0:PS) (w0 w:World) (a:Act),Inv K0 S0 w0->Step K0 K w0 w->Inv K S w->FrameRep K w N F a->Afc N K0 w0 a.defers (fun e a' w'=>Q e a' cs w') res->wpOpsSIn Fence.wide n P ops Q (List.range' k rest.length) a cs w:=by
 induction h with
 |nil F S=>intro k _ _ K0 K S0 w0 w a _ hs hI hF hE;exact hE K a w hs hI hF rfl
 | @skip o rest F S res hg _ ih =>
  intro k hk hsim K0 K S0 w0 w a hI0 hs hI hF hE
  have hw:=E6 hg (K:=K) (w:=w) (a:=a) (fun _ _ d _ _=>hF.rep d)
  have ho:ops[k]? = some o:=by have:=hk 0;simpa using this.symm
  simp only [List.all_cons,Bool.and_eq_true] at hsim
  simp only [List.length_cons,List.range'_succ,wpOpsSIn,ho]
  refine ⟨fun _ _=>trivial,?_⟩
  rw [if_neg (by rw [hw];simp)]
  exact ih (k+1) (fun j=>by have:=hk (j+1);simp only [List.getElem?_cons_succ] at this;rw [this];congr 1;omega) hsim.2 K0 K S0 w0 w _ hI0 hs hI (hF.put (Step.refl K w) (by simp [Rep])) (by rw [D6];exact hE)
 | @op o rest F S r S' res hg hop _ ih =>
  intro k hk hsim K0 K S0 w0 w a hI0 hs hI hF hE
  have hw:=E6 hg (K:=K) (w:=w) (a:=a) (fun _ _ d _ _=>hF.rep d)
  have ho:ops[k]? = some o:=by have:=hk 0;simpa using this.symm
  simp only [List.all_cons,Bool.and_eq_true] at hsim
  simp only [List.length_cons,List.range'_succ]
  refine Pk ho hsim.1 hw (hop none 0 K w a _ _ hI (fun x _=>hF.ev x) fun v w' K' h1 h2 h3=>?_)
  exact ih (k+1) (fun j=>by have:=hk (j+1);simp only [List.getElem?_cons_succ] at this;rw [this];congr 1;omega) hsim.2 K0 K' S0 w0 w' _ hI0 (hs.trans hI0 h1) h2 (hF.put h1 h3) (by rw [D6];exact hE)
 | @panic o rest F S c S' hg hop =>
  intro k hk hsim K0 K S0 w0 w a hI0 hs hI hF hE
  have hw:=E6 hg (K:=K) (w:=w) (a:=a) (fun _ _ d _ _=>hF.rep d)
  have ho:ops[k]? = some o:=by have:=hk 0;simpa using this.symm
  simp only [List.all_cons,Bool.and_eq_true] at hsim
  simp only [List.length_cons,List.range'_succ]
  exact Pk ho hsim.1 hw (hop none 0 K w a _ _ hI (fun x _=>hF.ev x) fun w' K' h1 h2=>hE K' a w' (hs.trans hI0 h1) h2 hF.size rfl)
def recV:Option Value->PV
 |none => .d (.v .nilIface)
 |some c => .d (.v c)
theorem Nt {P:Program} {g id:Nat} {fn:Func} {o0:Oper} {tl:List Oper} {rest:Code} {caps:List PV} {S S':PS} {u:Option Value} (hf:P.funcs[g]? = some fn) (hb:fn.body=some (.seq (.region id (o0::tl).toArray false) rest)) (hg:o0.guard=none)
  (hrec:∀ (ρ : Operand->Value) (w:World),(execOp ρ o0).run P w = .ok .recover w) (hsim:tl.all (fun o=>Pj o.op)=true) (hn:caps.length<=fn.ntmps) (hu1:∀ c,u=some c->c.oneCell'=true) (hS:S'.boxes.length=S.boxes.length) (hT:S.toks.length<=S'.toks.length)
  (h:WK P fn.ntmps (o0::tl).toArray tl (B8 fn.ntmps o0.dst (recV u) (Hq caps)) S (Ad6 (Mt (PW P fn.ntmps rest (Rp P fn (.ret (.tup [])) S')) (fun _ _ _=>False)))):EvD P g caps S u S':=by
 intro n K w vs hI hA
 have hl:=hA.length
 refine callsDIn_of_wpSIn hf hb trivial fun c₀ cs hu=>wpSIn_seq (wpSIn_region ?_)
 obtain ⟨a,ha⟩:∃ a:Act,a={ tmps:=vs.toArray++Array.replicate (fn.ntmps-vs.toArray.size) undef,defers:=[] }:=⟨_,rfl⟩
 rw [<- ha]
 have hF:FrameRep K w fn.ntmps (Hq caps) a:=by
  refine ⟨by rw [ha];simp;omega,fun t=>?_⟩
  have:=Ea caps vs (fn.ntmps-vs.toArray.size) t hA
  rw [ha,Array.getD_eq_getD_getElem?]
  rw [List.getD_eq_getElem?_getD] at this
  rw [<- Array.getElem?_toList]
  simpa using this
 have hd0:a.defers=[]:=by rw [ha]
 have hw0:∀ Y,Region.wanted o0 Y=true:=fun Y=>by unfold Region.wanted;rw [hg]
 have hsz:List.range (o0::tl).toArray.size=0::List.range' 1 tl.length:=by simp [List.range_eq_range',List.range'_succ]
 rw [hsz]
 obtain ⟨res,hwalk,hres⟩:=h.ex
 have key:∀ (v:Value) (u':FrameMode),Rep K w (recV u) v->settle u' = .returning->wpOpsSIn Fence.wide n P (o0::tl).toArray (Exit.thenS (rest.wpSIn Fence.wide n P (bodyPostS P fn c₀ cs fun e u' w'=>(∃ v,e = .returned v)/\settle u' = .returning/\∃ K',Step K K' w w'/\Inv K' S' w'))
   (bodyPostS P fn c₀ cs fun e u' w'=>(∃ v,e = .returned v)/\settle u' = .returning/\∃ K',Step K K' w w'/\Inv K' S' w')) (List.range' 1 tl.length) (a.put o0.dst v) ({ c₀ with mode:=u' }::cs) w:=by
  intro v u' hv hset
  refine walkS hwalk 1 (fun j=>by simp [Nat.add_comm 1 j]) hsim K K S w w _ hI (Step.refl K w) hI (hF.put (Step.refl K w) hv) ?_
  cases res with
  |panic c S1=>exact hres.elim
  |done F1 S1 =>
   intro K1 a1 w1 h1 h2 h3 h4
   refine wpSIn_of_wpIn rfl (wpIn_wide.2 ?_)
   have hpw:PW P fn.ntmps rest (Rp P fn (.ret (.tup [])) S') F1 S1:=hres
   refine wp_mono (hpw.run0 K1 w1 a1 h2 h3) fun e a2 w2 hq=>?_
   obtain ⟨K2,F2,S2,s1,s2,s3,s4,h5,h6,he,ps,h8,h9,_⟩:=hq
   have hdf:a2.defers=[]:=by rw [s4,h4,D6,hd0]
   have hcut:=s2.cut (n:=S'.boxes.length) (m:=S'.toks.length) h5
   rw [h6] at hcut
   obtain ⟨v2,h10,h11⟩:=Ev s2 s3 h8
   have hpost:∃ u'',({ c₀ with mode:=u' }::cs:List Frame)={ c₀ with mode:=u'' }::cs/\∃ v,(results fn a2.tmps).run P w2 = .ok v w2/\((∃ v',Ending.returned v = .returned v')/\settle u'' = .returning/\∃ K',Step K K' w w2/\Inv K' S' w2) :=
    ⟨u',rfl,v2,h10,⟨_,rfl⟩,hset,_,C9 hI (h1.trans hI s1) (by omega) hT,hcut⟩
   rcases he with rfl|rfl
   ·exact ⟨hdf,hpost⟩
   ·exact ⟨hdf,hpost⟩
 simp only [wpOpsSIn,List.getElem?_toArray,List.getElem?_cons_zero,hw0,if_true,hrec]
 refine ⟨fun _ _=>trivial,?_⟩
 cases u with
 |none =>
  have e:recoverD (c₀ :: cs)=none:=by simp [recoverD,hu,P6]
  rw [e]
  have h1:=key .nilIface .returning (by simp [recV,Rep,Ci,Value.oneCell']) rfl
  have e2:({ c₀ with mode := .returning }:Frame)=c₀ := by cases c₀;simp only [P6] at hu;subst hu;rfl
  rw [e2] at h1
  exact h1
 |some c =>
  have e:recoverD (c₀ :: cs)=some (c,{ c₀ with mode := .panicking [{ v:=c,recovered:=true }] }::cs):=by simp [recoverD,hu,P6]
  rw [e]
  exact key c _ (by simp [recV,Rep,Ci,hu1 c rfl]) rfl
def valP (z:Value):PV:=match z with | .agg cs => .agg (cs.toList.map fun v => .d (.v v))|z => .d (.v z)
theorem valP_rep {K:Kx} {w:World} {z:Value} (h:z.cells.all (·.oneCell')=true):Rep K w (valP z) z:=by
 unfold valP
 split
 ·rename_i cs
  simp only [Rep]
  refine ⟨cs.toList,by simp,Iw _ fun v hv=>?_⟩
  have:(Value.agg cs).cells=cs:=rfl
  rw [this,<- Array.all_toList] at h
  exact List.all_eq_true.1 h v hv
 ·rename_i hne
  simp only [Rep,Ci]
  refine ⟨trivial,?_⟩
  cases z with
  |agg cs=>exact absurd rfl (hne cs)
  |_=>first|rfl|(simp [Value.cells,Value.oneCell'] at h |-)
theorem Lg {P:Program} {o:Oper} {F:Nat->PV} {S:PS} {x:Operand} {v z:Value} {b:Bool} {t T:TypeId} (ho:o.op = .typeAssert x t T true) (hx:evP F x = .d (.v v)) (hrun:∀ w,(Instr.typeAssert v t T true).run P w = .ok (.tuple #[z,.bool b]) w) (hz:z.cells.all (·.oneCell')=true) :
  OpS P o F S (.tup [valP z,.d (.v (.bool b))]) S :=
 OpS.pure fun K w ρ hI h=>by
  have h1:=h x (by simp [ho,Op.operands])
  rw [hx] at h1
  have h1:=Br h1
  refine ⟨.tuple #[z,.bool b],?_,?_⟩
  ·simp only [execOp,ho,h1,Sem.run_bind,hrun,Result.andThen_ok,Sem.run_pure]
  ·simp only [Rep]
   exact ⟨[z,.bool b],rfl,by simp only [Ao];exact ⟨z,_,rfl,valP_rep hz,.bool b,_,rfl,by simp [Rep,Ci,Value.oneCell'],rfl⟩⟩
def andZ (k:IntKind) (a b:Int):Int:=k.wrap (BitVec.ofInt k.bits a &&& BitVec.ofInt k.bits b).toNat
section
variable {P:Program} {o:Oper} {F:Nat->PV} {S:PS} {ty yt:TypeId} {x y:Operand}
theorem opb_and {k:IntKind} {a b:Int} (ho:o.op = .binOp .and ty x y yt) (hx:evP F x = .d (.v (.int k a))) (hy:evP F y = .d (.v (.int k b))):OpS P o F S (.d (.v (.int k (andZ k a b)))) S :=
 Cj ho hx hy rfl fun w=>by simp [De,binOp,Op.intBits,andZ]
theorem Nz {z:Value} {zs:Array Value} (h:zs.toList=[z]) (n:Nat):(madeCells zs n).toList=List.replicate n z:=by
 have hz:zs = #[z]:=by apply Array.ext';simpa using h
 subst hz
 apply List.ext_getElem
 ·simp [madeCells]
 ·intro j h1 h2
  simp [madeCells,Nat.mod_one]
theorem N6 {K:Kx} {w:World} {z:Value} (hz:z.oneCell'=true):∀ n:Nat,Ao K w (List.replicate n (.d (.v z))) (List.replicate n z)
 |0=>by simp [Ao]
 |n+1=>by
  simp only [List.replicate_succ,Ao]
  exact ⟨_,_,rfl,Dv hz,N6 hz n⟩
theorem Ahj {t:TypeId} {I:TyI} {n:Nat} {z:Value} {kx ky:IntKind} (ho:o.op = .makeSlice t x y) (hI:TyI.of P t=some I) (hk:I.kind=2) (hek:I.ek=1) (hez:I.ez=[z]) (hz1:z.oneCell'=true) (hx:evP F x = .d (.v (.int kx n))) (hy:evP F y = .d (.v (.int ky n)))
  (hn:I.eb*n<=281474976710656) (h63:n<=9223372036854775807):OpS P o F S (.d (.sl 1 (List.replicate n [.v z]))) S :=
 OpS.val fun K w ρ hInv h=>by
  have h1:=h x (by simp [ho,Op.operands])
  have h2:=h y (by simp [ho,Op.operands])
  rw [hx] at h1
  rw [hy] at h2
  have h1:=Br h1
  have h2:=Br h2
  obtain ⟨i,d,zz,hi,hu,hz,_,hzz,hd⟩:=TyI.inv hI
  rw [hk] at hd;simp at hd
  obtain ⟨rfl,ie,hie,ze,hze,hzs,hek2,heb,hez2⟩:=hd
  have hsz:ie.size=1:=by rw [<- hek];first|exact hek2|exact hek2.symm
  have hcl:ze.cells.toList=[z]:=by rw [<- hez];first|exact hez2.1|exact hez2.1.symm
  have hrun:=run_make (P:=P) w t I.elem ie ze hu hie hze kx ky n n (by omega) (Int.le_refl _) (by have hb:ie.bytes=I.eb:=(by first|exact heb|exact heb.symm);rw [hb];omega) (by omega)
  simp only [Int.toNat_natCast,hsz,Nat.mul_one] at hrun
  obtain ⟨g1,g2⟩:=hInv.below (w':=w.alloc (.cells (madeCells ze.cells n) I.elem)) ((Below.refl _ _).alloc (Nat.le_refl _) _)
  refine ⟨_,_,K,by simp only [execOp,ho,h1,h2,Sem.run_bind,hrun];rfl,g2,g1,?_⟩
  simp only [Rep,Ci,List.length_replicate]
  refine ⟨_,n,rfl,Nat.le_refl _,h63,fun _=>⟨w.heap.size,0,rfl,R3 hInv (by simp) _,Dw.2 ⟨fun e he=>by rw [List.eq_of_mem_replicate he];rfl,?_⟩⟩⟩
  have e1:(List.replicate n [DV.v z]).flatten=List.replicate n (.v z):=by simp
  rw [e1]
  refine G2 Abi ?_
  rw [Nz hcl n,List.map_replicate]
  exact N6 hz1 n
end
section
variable {N:Nat} {ops:Array Oper} {rest:List Oper} {o:Oper} {F:Nat->PV} {S:PS} {q:WRes->Prop}
theorem wand {k:IntKind} {a b:Int} {ty yt:TypeId} {x y:Operand} (hg:Ak ops F o=some true) (ho:o.op = .binOp .and ty x y yt) (hx:evP F x = .d (.v (.int k a))) (hy:evP F y = .d (.v (.int k b)))
  (kk:WK Tryz.prog N ops rest (B8 N o.dst (.d (.v (.int k (andZ k a b)))) F) S q):WK Tryz.prog N ops (o::rest) F S q:=D8 hg (opb_and ho hx hy) kk
theorem wivc {t:TypeId} {x y:Operand} {l:List PV} {kd:IntKind} {j:Int} {p:PV} (hg:Ak ops F o=some true) (ho:o.op = .index t x y) (hk:(A4 t&&Nat.beq (tyi t).kind 3&&A4 (tyi t).elem && !(tyi (tyi t).elem).isRow)=true) (hx:evP F x = .agg l) (hy:evP F y = .d (.v (.int kd j))) (h0:0<=j) (h1:j<(tyi t).len)
  (hp:l[j.toNat*(tyi (tyi t).elem).size]? = some p) (kk:WK Tryz.prog N ops rest (B8 N o.dst p F) S q):WK Tryz.prog N ops (o::rest) F S q:=by
 simp only [Bool.and_eq_true,Bool.not_eq_true'] at hk
 exact D8 hg (F7 ho (Fc t hk.1.1.1) (Nat.eq_of_beq_eq_true hk.1.1.2) (Fc _ hk.1.2) hx hy h0 h1 (.inr ⟨hk.2,hp⟩)) kk
theorem wmake {t:TypeId} {x y:Operand} {n:Nat} {kx ky:IntKind} (z:Value) (hg:Ak ops F o=some true) (ho:o.op = .makeSlice t x y) (hk:(A4 t&&Nat.beq (tyi t).kind 2&&Nat.beq (tyi t).ek 1)=true) (hez:(tyi t).ez=[z]) (hz1:z.oneCell'=true) (hx:evP F x = .d (.v (.int kx n))) (hy:evP F y = .d (.v (.int ky n)))
  (hn:(tyi t).eb*n<=281474976710656) (h63:n<=9223372036854775807) (kk:WK Tryz.prog N ops rest (B8 N o.dst (.d (.sl 1 (List.replicate n [.v z]))) F) S q):WK Tryz.prog N ops (o::rest) F S q:=by
 simp only [Bool.and_eq_true] at hk
 exact D8 hg (Ahj ho (Fc t hk.1.1) (Nat.eq_of_beq_eq_true hk.1.2) (Nat.eq_of_beq_eq_true hk.2) hez hz1 hx hy hn h63) kk
end
@[reducible] def D5 (l:List UInt8):PV := .d (.sl 1 (l.map fun b=>[.v (.int .u8 b.toNat)]))
def B2 (l:List UInt8) (a:Nat):Int:=if a<l.length/\a<18 then ((l.getD a 0).toNat:Int) else 0
theorem H0 (l:List UInt8) (a:Nat):0<=B2 l a/\B2 l a<256:=by
 unfold B2
 split
 ·have:=(l.getD a 0).toNat_lt
  omega
 ·omega
theorem Aeu {l:List UInt8} {a:Nat} (h:a<l.length):(l.map fun b=>[DV.v (.int .u8 b.toNat)])[((a:Nat):Int).toNat]? = some [.v (.int .u8 ((l.getD a 0).toNat:Int))]:=by
 simp [h,List.getD_eq_getElem?_getD]
@[reducible] def mkS (l:List UInt8) (a:Nat):PS:=⟨[[D5 l,Ah a]],[]⟩
theorem Agx (l:List UInt8) (a:Nat) (ha:a<=1000000):Am 73 [.ptr 0 0] (mkS l a) (.ret (Ah (B2 l a))) (mkS l (a+1)):=by
 refine Ad Tryz.func73 rfl rfl (Nat.le_of_ble_eq_true rfl) rfl (Nat.le_refl _) ?_
 repeat' (first|refine rl0 ?_|refine rs0 ?_ ?_<;>intro h|fail)
 ·rw [show B2 l a=0 from if_neg (by simp at h;omega)]
 ·rename_i g
  rw [show B2 l a=0 from if_neg (by simp at g h;omega)]
 ·rename_i g
  have hc:a<l.length/\a<18:=by simp at g h;omega
  refine T1 [.v (.int .u8 ((l.getD a 0).toNat:Int))] rfl rfl rfl rfl rfl (by rw [show ((a:Int)+1-1).toNat=((a:Nat):Int).toNat from by omega];exact Aeu hc.1) (by omega) ?_
  have hlt:=(l.getD a 0).toNat_lt
  repeat' (first|refine rl0 ?_|refine rs0 ?_ ?_<;>intro h|fail)
  refine wan rfl rfl ⟨by show (-9223372036854775808:Int)<=_;omega,by show _<=(9223372036854775807:Int);omega⟩ ?_
  repeat' (first|refine rl0 ?_|refine rs0 ?_ ?_<;>intro h|fail)
  rw [show B2 l a=((l.getD a 0).toNat:Int) from if_pos hc]
  rfl
def sXyz:ByteArray:=⟨#[120,121,122]⟩
def Ho (want n:Int):Bool:=decide (want=1)||(decide (want=0)&&decide (andZ .i64 n 128=0))
def numT:List Int:=[0,1,2,3,5,9999,7,1]
def Gv (num:Bool) (n:Int):Ex :=
 if num=false then .mk (3+n / 16 % 2) 0 ⟨#[]⟩ [] else if 1<n % 16 then .mk 2 0 (sXyz.extract (n / 16 % 3).toNat (n / 16 % 3+1).toNat) [] else .mk 1 (numT.getD (n / 16 % 8).toNat 0) ⟨#[]⟩ []
def Ch (num:Bool) (n:Int):Int×List Int :=
 if num=false then (if n % 16<10 then (11+n / 16 % 6,[1,1]) else if n % 16<11 then (6,[2]) else if n % 16<15 then (17+n / 16 % 2,[2,2]) else (19,[2,2,2]))
 else (if n % 16<7 then (5,[1]) else if n % 16<14 then (7+n / 16 % 4,[1,1]) else (19,[2,1,1]))
def Cd (g:Int->Nat->Ex×Nat):List Int->Nat->List Ex×Nat
 |[],a=>([],a)
 |t::ts,a=>((g t a).1::(Cd g ts (g t a).2).1,(Cd g ts (g t a).2).2)
def K6 (want:Int) (ts:List Int):List Int:=if want=0 then List.replicate ts.length 0 else ts
def Jm (l:List UInt8):Nat->Int->Nat->Ex×Nat
 |0,want,a=>(Gv (Ho want (B2 l a)) (B2 l a),a+1)
 |f+1,want,a=>if B2 l a % 16<5 then (Gv (Ho want (B2 l a)) (B2 l a),a+1) else
   (.mk (Ch (Ho want (B2 l a)) (B2 l a)).1 0 ⟨#[]⟩ (Cd (Jm l f) (K6 want (Ch (Ho want (B2 l a)) (B2 l a)).2) (a+1)).1,(Cd (Jm l f) (K6 want (Ch (Ho want (B2 l a)) (B2 l a)).2) (a+1)).2)
theorem Ox (num:Bool) (n:Int):1<=(Ch num n).2.length/\(Ch num n).2.length<=3:=by
 unfold Ch
 repeat' split
 all_goals simp
theorem K7 (want:Int) (ts:List Int):(K6 want ts).length=ts.length:=by unfold K6;split<;>simp
theorem Sb {g:Int->Nat->Ex×Nat} {b:Nat} (hg:∀ t a,(g t a).2<=a+b):∀ (ts:List Int) (a:Nat),(Cd g ts a).2<=a+ts.length*b
 |[],a=>by simp [Cd]
 |t::ts,a=>by
  have h1:=hg t a
  have h2:=Sb hg ts (g t a).2
  simp only [Cd,List.length_cons,Nat.succ_mul]
  omega
theorem Aha (l:List UInt8):∀ (f:Nat) (want:Int) (a:Nat),(Jm l f want a).2<=a+4 ^ f
 |0,want,a=>by simp [Jm]
 |f+1,want,a=>by
  have hp:1<=4 ^ f:=Nat.pos_of_ne_zero (by simp)
  rw [Jm]
  split
  ·simp only [Nat.pow_succ];omega
  ·have h1:=Sb (Aha l f) (K6 want (Ch (Ho want (B2 l a)) (B2 l a)).2) (a+1)
   have h2:=Ox (Ho want (B2 l a)) (B2 l a)
   rw [K7] at h1
   have h3:(Ch (Ho want (B2 l a)) (B2 l a)).2.length*4 ^ f<=3*4 ^ f:=Nat.mul_le_mul_right _ h2.2
   simp only [Nat.pow_succ];omega
theorem Qu {g:Int->Nat->Ex×Nat}:∀ {ts:List Int} {a i:Nat} {t:Int},ts[i]? = some t->Cd g (ts.take (i+1)) a=((Cd g (ts.take i) a).1++[(g t (Cd g (ts.take i) a).2).1],(g t (Cd g (ts.take i) a).2).2)
 |[],a,i,t,h=>by simp at h
 |s::ts,a,0,t,h=>by simp at h;subst h;simp [Cd]
 |s::ts,a,i+1,t,h=>by
  simp only [List.getElem?_cons_succ] at h
  have:=Qu (g:=g) (a:=(g s a).2) h
  simp only [List.take_succ_cons,Cd,this,List.cons_append]
theorem O0 {g:Int->Nat->Ex×Nat}:∀ (ts:List Int) (a:Nat),(Cd g ts a).1.length=ts.length
 |[],a=>rfl
 |t::ts,a=>by simp [Cd,O0 ts]
theorem ints_get {l:List Int} {i:Nat} {x:Int} (h:l[i]? = some x):(l.map fun n=>[DV.v (.int .i64 n)])[((i:Nat):Int).toNat]? = some [.v (.int .i64 x)]:=by simp [h]
theorem Yg (l r:List Ex):Ij (l++r)=Ij l++Ij r:=by simp [I9]
set_option maxHeartbeats 1000000 in
theorem list_do (l : List UInt8) (g : Int -> Nat -> Ex × Nat) (b : Nat) (deep : Int) (hd : 0 <= deep /\ deep <= 100) (hg : ∀ t a, (g t a).2 <= a + b) (hone : ∀ (t : Int) (a : Nat), a + b <= 1000000 -> Am 39 [.ptr 0 0, Ah t, Ah (deep + 1)] (mkS l a) (.ret (exP (g t a).1)) (mkS l (g t a).2)) (ts : List Int) (hts : ts.length <= 3) (a : Nat) (ha : a + 3 * b <= 1000000) :
    Am 109 [.ptr 0 0, Ah deep, Cu ts] (mkS l a) (.ret (.d (.sl 4 (Ij (Cd g ts a).1)))) (mkS l (Cd g ts a).2) := by
  have raw : Am 109 [.ptr 0 0, Ah deep, Cu ts] (mkS l a) (.ret (.hd 0 ts.length)) ⟨[[D5 l, Ah (Cd g ts a).2]], [⟨ts.length, 4, Ij (Cd g ts a).1, 24⟩]⟩ := by
    refine Ad Tryz.func109 rfl rfl (Nat.le_of_ble_eq_true rfl) rfl (by simp) ?_
    repeat' (first | refine rl0 ?_ | refine rs0 (fun h => ?_) (fun h => ?_) | fail)
    refine Ahy 7 4 24 rfl ?_
    refine B3 (ι := Nat) (ok := fun i => i <= ts.length) (L := fun i => [(0, .ptr 0 0), (1, Ah deep), (7, .hd 0 i), (10, Cu ts), (11, Ah (ts.map fun n => [DV.v (.int .i64 n)]).length), (12, Ah i)]) (Sx := fun i => ⟨[[D5 l, Ah (Cd g (ts.take i) a).2]], [⟨i, 4, Ij (Cd g (ts.take i) a).1, 24⟩]⟩) (μ := fun i => ts.length - i) 0 (Nat.zero_le _) (by repeat (first | exact Ag | refine Aa rfl ?_)) rfl ?_
    rintro i hi
    repeat' (first | refine rl0 ?_ | refine rs0 (fun h => ?_) (fun h => ?_) | fail)
    . have hlt : i < ts.length := by simpa using h
      obtain ⟨t, ht⟩ : ∃ t, ts[i]? = some t := ⟨_, List.getElem?_eq_getElem hlt⟩
      have hstep := Qu (g := g) (a := a) ht
      have hle := Sb hg (ts.take i) a
      rw [List.length_take, Nat.min_eq_left hi] at hle
      have hib : i * b <= 2 * b := Nat.mul_le_mul_right _ (by omega)
      have hll := O0 (g := g) (ts.take i) a
      rw [List.length_take, Nat.min_eq_left hi] at hll
      refine wix _ rfl rfl rfl rfl rfl (ints_get ht) (by omega) ?_
      repeat' (first | refine rl0 ?_ | refine rs0 (fun h => ?_) (fun h => ?_) | fail)
      refine wcb (id := 0) (hone t _ (by omega)) rfl rfl rfl rfl rfl rfl rfl rfl (by repeat (first | exact Ae | refine Ab (Ac _) ?_)) rfl ?_
      generalize hx : g t (Cd g (ts.take i) a).2 = x at hstep |-
      obtain ⟨x, a2⟩ := x
      repeat' (first | refine rl0 ?_ | refine rs0 (fun h => ?_) (fun h => ?_) | fail)
      refine T9 (news := [[.v (.int .i64 x.op), .v (.int .i64 x.n), .v (.string x.name), .sl 4 (Ij x.args)]]) (S' := ⟨[[D5 l, Ah a2]], [⟨i + 1, 4, Ij (Cd g (ts.take i) a).1 ++ [[.v (.int .i64 x.op), .v (.int .i64 x.n), .v (.string x.name), .sl 4 (Ij x.args)]], 24⟩]⟩) rfl rfl rfl rfl rfl rfl ?_ ?_ rfl ?_
      . rw [A8, hll]; show (i + 1) * 56 <= _; omega
      . rw [A8, hll]; show i + 1 <= _; omega
      repeat' (first | refine rl0 ?_ | refine rs0 (fun h => ?_) (fun h => ?_) | fail)
      refine ⟨i + 1, by omega, by omega, (by repeat (first | exact Ag | refine Aa rfl ?_)), ?_⟩
      rw [hstep, Yg]
      simp [Ij]
      cases x; rfl
    . obtain rfl : i = ts.length := by have : ¬ (i < ts.length) := by simpa using h
                                       omega
      rw [List.take_length]
      exact fin rfl rfl (.inr rfl) rfl rfl rfl rfl
  exact K5 (S' := ⟨[[D5 l, Ah (Cd g ts a).2]], [⟨ts.length, 4, Ij (Cd g ts a).1, 24⟩]⟩) 1 0 (Ed raw (Kc (Ep rfl))) (Nat.le_refl _) (Nat.le_refl _) rfl rfl
set_option maxHeartbeats 1000000 in
theorem sub_do (l:List UInt8) (g:Int->Nat->Ex×Nat) (b:Nat) (deep op:Int) (want:Int) (hd:0<=deep/\deep<=100) (hg:∀ t a,(g t a).2<=a+b) (hone:∀ (t:Int) (a:Nat),a+b<=1000000->Am 39 [.ptr 0 0,Ah t,Ah (deep+1)] (mkS l a) (.ret (exP (g t a).1)) (mkS l (g t a).2)) (ts:List Int) (hts:ts.length<=3) (a:Nat) (ha:a+3*b<=1000000) :
  Am 74 [.ptr 0 0,An (decide (want=0)),Ah deep,Ah op,Cu ts] (mkS l a) (.ret (exP (.mk op 0 ⟨#[]⟩ (Cd g (K6 want ts) a).1))) (mkS l (Cd g (K6 want ts) a).2):=by
 have hL:=list_do l g b deep hd hg hone (K6 want ts) (by rw [K7];exact hts) a ha
 unfold K6 at hL |-
 refine Ad Tryz.func74 rfl rfl (Nat.le_of_ble_eq_true rfl) rfl (Nat.le_refl _) ?_
 repeat' (first|refine rl0 ?_|refine rs0 ?_ ?_<;>intro h|fail)
 ·have hw:want=0:=by simpa using h
  rw [if_pos hw] at hL |-
  rw [show Cu (List.replicate ts.length 0) = .d (.sl 1 (List.replicate ts.length [.v (.int .i64 0)])) from by simp] at hL
  refine wmake (n:=(ts.map fun n=>[DV.v (.int .i64 n)]).length) (kx := .i64) (ky := .i64) (.int .i64 0) rfl rfl rfl rfl rfl rfl rfl (by rw [List.length_map];show 8*_<=_;omega) (by rw [List.length_map];omega) ?_
  rw [List.length_map]
  repeat' (first|refine rl0 ?_|refine rs0 ?_ ?_<;>intro h|fail)
  refine wcb (id:=0) hL rfl rfl rfl rfl rfl rfl rfl rfl (by repeat (first|exact Ae|refine Ab (Ac _) ?_)) rfl ?_
  repeat' (first|refine rl0 ?_|refine rs0 ?_ ?_<;>intro h|fail)
  rfl
 ·have hw:want≠0:=by simpa using h
  rw [if_neg hw] at hL |-
  refine wcb (id:=0) hL rfl rfl rfl rfl rfl rfl rfl rfl (by repeat (first|exact Ae|refine Ab (Ac _) ?_)) rfl ?_
  repeat' (first|refine rl0 ?_|refine rs0 ?_ ?_<;>intro h|fail)
  rfl
theorem tab8 {n:Int} (h0:0<=n) (h1:n<256):(([Ah 0,Ah 1,Ah 2,Ah 3,Ah 5,Ah 9999,Ah 7,Ah 1]:List PV)[(n / 16 % 8).toNat*1]?)=some (Ah (numT.getD (n / 16 % 8).toNat 0)):=by
 have:n / 16 % 8=0\/n / 16 % 8=1\/n / 16 % 8=2\/n / 16 % 8=3\/n / 16 % 8=4\/n / 16 % 8=5\/n / 16 % 8=6\/n / 16 % 8=7:=by omega
 rcases this with h|h|h|h|h|h|h|h<;>rw [h]<;>rfl
set_option maxHeartbeats 2000000 in
theorem Aa4 (l:List UInt8) (want deep:Int) (a:Nat) (ha:a<=1000000) (hd:0<=deep/\deep<=100) (hl:10<=deep\/B2 l a % 16<5):Am 39 [.ptr 0 0,Ah want,Ah deep] (mkS l a) (.ret (exP (Gv (Ho want (B2 l a)) (B2 l a)))) (mkS l (a+1)):=by
 have hn:=H0 l a
 have raw:Am 39 [.ptr 0 0,Ah want,Ah deep] (mkS l a) (.ret (.agg [Ah (Gv (Ho want (B2 l a)) (B2 l a)).op,Ah (Gv (Ho want (B2 l a)) (B2 l a)).n,Bf (Gv (Ho want (B2 l a)) (B2 l a)).name,.d (.v (.slice none 0 0))])) (mkS l (a+1)):=by
  refine Ad Tryz.func39 rfl rfl (Nat.le_of_ble_eq_true rfl) rfl (Nat.le_refl _) ?_
  repeat' (first|refine rl0 ?_|refine rs0 ?_ ?_<;>intro h|fail)
  refine wcb (id:=0) (Agx l a ha) rfl rfl rfl rfl rfl rfl rfl rfl (by repeat (first|exact Ae|refine Ab (Ac _) ?_)) rfl ?_
  generalize B2 l a=n at *
  refine wst rfl rfl trivial ?_
  refine Co ?_
  refine Cm ?_
  refine Wt (ι := Unit) (fun _=>True) (fun _=>[(0,.ptr 0 0),(1,Ah want),(2,Ah deep),(6,.ptr 1 0),(7,Ah n),(8,An (Ho want n))]) (fun _=>⟨[[D5 l,Ah ((a+1:Nat):Int)],[Ah 0,Ah 0,Bf ⟨#[]⟩,.d (.v (.slice none 0 0))]],[]⟩) ?_ (fun _ _=>?_)
  ·refine Ba ?_
   refine wst rfl rfl trivial ?_
   refine wst rfl rfl trivial ?_
   refine wst rfl rfl trivial ?_
   refine Pw rfl rfl rfl ⟨rfl⟩ (fun h=>?_) (fun h=>?_)
   ·repeat refine Mw rfl ?_
    refine wst rfl rfl trivial ?_
    refine wst rfl rfl trivial ?_
    refine Co ?_
    refine ⟨(),trivial,?_,rfl⟩
    have e:Ho want n=true:=by unfold Ho;rw [h];rfl
    rw [e]
    exact (by repeat (first|exact Ag|refine Aa rfl ?_))
   ·refine wst rfl rfl trivial ?_
    refine wst rfl rfl trivial ?_
    refine wst rfl rfl trivial ?_
    refine Pw rfl rfl rfl ⟨rfl⟩ (fun h2=>?_) (fun h2=>?_)
    ·refine wst rfl rfl trivial ?_
     refine wand rfl rfl rfl rfl ?_
     refine wst rfl rfl trivial ?_
     refine wst rfl rfl trivial ?_
     refine wst rfl rfl trivial ?_
     refine wst rfl rfl trivial ?_
     refine Co ?_
     refine ⟨(),trivial,?_,rfl⟩
     have e:Ho want n=decide (andZ .i64 n 128=0):=by unfold Ho;rw [h,h2];rfl
     rw [e]
     exact (by repeat (first|exact Ag|refine Aa rfl ?_))
    ·repeat refine Mw rfl ?_
     refine wst rfl rfl trivial ?_
     refine wst rfl rfl trivial ?_
     refine wst rfl rfl trivial ?_
     refine Co ?_
     refine ⟨(),trivial,?_,rfl⟩
     have e:Ho want n=false:=by unfold Ho;rw [h,h2];rfl
     rw [e]
     exact (by repeat (first|exact Ag|refine Aa rfl ?_))
  generalize Ho want n=b
  refine Cm ?_
  refine Cm ?_
  refine Wt (ι := Unit) (fun _=>True) (fun _=>[(0,.ptr 0 0),(1,Ah want),(2,Ah deep),(6,.ptr 1 0),(7,Ah n),(8,An b),(29,An true)]) (fun _=>⟨[[D5 l,Ah ((a+1:Nat):Int)],[Ah 0,Ah 0,Bf ⟨#[]⟩,.d (.v (.slice none 0 0))]],[]⟩) ?_ (fun _ _=>?_)
  ·refine Ba ?_
   refine wst rfl rfl trivial ?_
   refine wst rfl rfl trivial ?_
   refine wst rfl rfl trivial ?_
   refine Pw rfl rfl rfl ⟨rfl⟩ (fun h=>?_) (fun h=>?_)
   ·repeat refine Mw rfl ?_
    refine wst rfl rfl trivial ?_
    refine Co ?_
    exact ⟨(),trivial,(by repeat (first|exact Ag|refine Aa rfl ?_)),rfl⟩
   ·refine wst rfl rfl trivial ?_
    refine wst rfl rfl ⟨by omega,by omega⟩ ?_
    refine wst rfl rfl trivial ?_
    refine wst rfl rfl trivial ?_
    refine Co ?_
    refine ⟨(),trivial,?_,rfl⟩
    have e:decide (n % 16<5)=true:=by simp at h |-;omega
    exact Aa rfl (Aa rfl (Aa rfl (Aa rfl (Aa rfl (Aa rfl (Aa (show PV.d (.v (.bool (decide (n % 16<5))))=_ by rw [e]) Ag))))))
  cases b
  ·repeat' (first|refine rl0 ?_|refine rs0 ?_ ?_<;>intro h|fail)
   rw [show Gv false n = .mk (3+n / 16 % 2) 0 ⟨#[]⟩ [] from rfl]
   rfl
  ·repeat' (first|refine rl0 ?_|refine rs0 ?_ ?_<;>intro h|fail)
   ·have e:Gv true n = .mk 2 0 (sXyz.extract (n / 16 % 3).toNat (n / 16 % 3+1).toNat) []:=by unfold Gv;rw [if_neg (by simp),if_pos (by simpa using h)]
    refine wst rfl rfl ⟨by omega,by omega,by show _<=(3:Int);omega⟩ ?_
    repeat' (first|refine rl0 ?_|refine rs0 ?_ ?_<;>intro h|fail)
    rw [e]
    rfl
   ·have e:Gv true n = .mk 1 (numT.getD (n / 16 % 8).toNat 0) ⟨#[]⟩ []:=by unfold Gv;rw [if_neg (by simp),if_neg (by simpa using h)]
    refine wivc rfl rfl rfl rfl rfl (by omega) (by show _<8;omega) (tab8 hn.1 hn.2) ?_
    repeat' (first|refine rl0 ?_|refine rs0 ?_ ?_<;>intro h|fail)
    rw [e]
    rfl
 exact Ed raw (E0 (Ab (Ac _) (Ab (Ac _) (Ab (Ac _) (Ab (by
  have e:Ij (Gv (Ho want (B2 l a)) (B2 l a)).args=[]:=by
   unfold Gv
   split
   ·rfl
   ·split<;>rfl
  rw [e];exact Fg) Ae)))))
set_option maxHeartbeats 4000000 in
theorem one_do (l:List UInt8):∀ (f:Nat),f<=9->∀ (want:Int) (a:Nat),a+4 ^ f<=1000000->Am 39 [.ptr 0 0,Ah want,Ah (10-f)] (mkS l a) (.ret (exP (Jm l f want a).1)) (mkS l (Jm l f want a).2)
 |0,_,want,a,ha=>by
  rw [Jm]
  exact Aa4 l want _ a (by simp at ha;omega) ⟨by simp,by simp⟩ (.inl (by simp))
 |f+1,hf,want,a,ha=>by
  have hp:1<=4 ^ f:=Nat.pos_of_ne_zero (by simp)
  have hpow:4 ^ (f+1)=4*4 ^ f:=by rw [Nat.pow_succ];omega
  rw [Jm]
  by_cases hlf:B2 l a % 16<5
  ·rw [if_pos hlf]
   exact Aa4 l want _ a (by omega) ⟨by omega,by omega⟩ (.inr hlf)
  rw [if_neg hlf]
  have hdeep:(10:Int)-((f+1:Nat):Int)+1=10-(f:Nat):=by omega
  have hsub:=fun (op:Int) (ts:List Int) (hts:ts.length<=3)=>sub_do l (Jm l f) (4 ^ f) (10-((f+1:Nat):Int)) op want ⟨by omega,by omega⟩ (Aha l f) (fun t a' h'=>by rw [hdeep];exact one_do l f (by omega) t a' h') ts hts (a+1) (by omega)
  have hn:=H0 l a
  have hnx:=Agx l a (by omega)
  generalize hdp:(10:Int)-((f+1:Nat):Int)=deep at *
  have hd:0<=deep/\deep<10:=by omega
  refine Ad Tryz.func39 rfl rfl (Nat.le_of_ble_eq_true rfl) rfl (Nat.le_refl _) ?_
  repeat' (first|refine rl0 ?_|refine rs0 ?_ ?_<;>intro h|fail)
  refine wcb (id:=0) hnx rfl rfl rfl rfl rfl rfl rfl rfl (by repeat (first|exact Ae|refine Ab (Ac _) ?_)) rfl ?_
  generalize B2 l a=n at *
  refine wst rfl rfl trivial ?_
  refine Co ?_
  refine Cm ?_
  refine Wt (ι := Unit) (fun _=>True) (fun _=>[(0,.ptr 0 0),(1,Ah want),(2,Ah deep),(6,.ptr 1 0),(7,Ah n),(8,An (Ho want n))]) (fun _=>⟨[[D5 l,Ah ((a+1:Nat):Int)],[Ah 0,Ah 0,Bf ⟨#[]⟩,.d (.v (.slice none 0 0))]],[]⟩) ?_ (fun _ _=>?_)
  ·refine Ba ?_
   refine wst rfl rfl trivial ?_
   refine wst rfl rfl trivial ?_
   refine wst rfl rfl trivial ?_
   refine Pw rfl rfl rfl ⟨rfl⟩ (fun h=>?_) (fun h=>?_)
   ·repeat refine Mw rfl ?_
    refine wst rfl rfl trivial ?_
    refine wst rfl rfl trivial ?_
    refine Co ?_
    refine ⟨(),trivial,?_,rfl⟩
    have e:Ho want n=true:=by unfold Ho;rw [h];rfl
    rw [e]
    exact (by repeat (first|exact Ag|refine Aa rfl ?_))
   ·refine wst rfl rfl trivial ?_
    refine wst rfl rfl trivial ?_
    refine wst rfl rfl trivial ?_
    refine Pw rfl rfl rfl ⟨rfl⟩ (fun h2=>?_) (fun h2=>?_)
    ·refine wst rfl rfl trivial ?_
     refine wand rfl rfl rfl rfl ?_
     refine wst rfl rfl trivial ?_
     refine wst rfl rfl trivial ?_
     refine wst rfl rfl trivial ?_
     refine wst rfl rfl trivial ?_
     refine Co ?_
     refine ⟨(),trivial,?_,rfl⟩
     have e:Ho want n=decide (andZ .i64 n 128=0):=by unfold Ho;rw [h,h2];rfl
     rw [e]
     exact (by repeat (first|exact Ag|refine Aa rfl ?_))
    ·repeat refine Mw rfl ?_
     refine wst rfl rfl trivial ?_
     refine wst rfl rfl trivial ?_
     refine wst rfl rfl trivial ?_
     refine Co ?_
     refine ⟨(),trivial,?_,rfl⟩
     have e:Ho want n=false:=by unfold Ho;rw [h,h2];rfl
     rw [e]
     exact (by repeat (first|exact Ag|refine Aa rfl ?_))
  generalize Ho want n=b
  refine Cm ?_
  refine Cm ?_
  refine Wt (ι := Unit) (fun _=>True) (fun _=>[(0,.ptr 0 0),(1,Ah want),(2,Ah deep),(6,.ptr 1 0),(7,Ah n),(8,An b),(29,An false)]) (fun _=>⟨[[D5 l,Ah ((a+1:Nat):Int)],[Ah 0,Ah 0,Bf ⟨#[]⟩,.d (.v (.slice none 0 0))]],[]⟩) ?_ (fun _ _=>?_)
  ·refine Ba ?_
   refine wst rfl rfl trivial ?_
   refine wst rfl rfl trivial ?_
   refine wst rfl rfl trivial ?_
   refine Pw rfl rfl rfl ⟨rfl⟩ (fun h=>?_) (fun h=>?_)
   ·exfalso;simp at h;omega
   ·refine wst rfl rfl trivial ?_
    refine wst rfl rfl ⟨by omega,by omega⟩ ?_
    refine wst rfl rfl trivial ?_
    refine wst rfl rfl trivial ?_
    refine Co ?_
    refine ⟨(),trivial,?_,rfl⟩
    have e:decide (n % 16<5)=false:=by simp;omega
    exact Aa rfl (Aa rfl (Aa rfl (Aa rfl (Aa rfl (Aa rfl (Aa (show PV.d (.v (.bool (decide (n % 16<5))))=_ by rw [e]) Ag))))))
  cases b
  ·repeat' (first|refine rl0 ?_|refine rs0 ?_ ?_<;>intro h|fail)
   ·have e:Ch false n=(11+n / 16 % 6,[1,1]):=by unfold Ch;rw [if_pos rfl,  if_pos (by simpa using h)]
    rw [e]
    refine wcb (id:=0) (hsub (11+n / 16 % 6) [1,1] (by decide)) rfl rfl rfl rfl rfl rfl rfl rfl (by repeat (first|exact Ae|refine Ab (Ac _) ?_)) rfl ?_
    repeat' (first|refine rl0 ?_|refine rs0 ?_ ?_<;>intro h|fail)
    rfl
   ·rename_i g1
    have e:Ch false n=(6,[2]):=by unfold Ch;rw [if_pos rfl,if_neg (by simpa using g1),if_pos (by simpa using h)]
    rw [e]
    refine wcb (id:=0) (hsub (6) [2] (by decide)) rfl rfl rfl rfl rfl rfl rfl rfl (by repeat (first|exact Ae|refine Ab (Ac _) ?_)) rfl ?_
    repeat' (first|refine rl0 ?_|refine rs0 ?_ ?_<;>intro h|fail)
    rfl
   ·rename_i g1 g2
    have e:Ch false n=(17+n / 16 % 2,[2,2]):=by unfold Ch;rw [if_pos rfl,if_neg (by simpa using g1),if_neg (by simpa using g2),if_pos (by simpa using h)]
    rw [e]
    refine wcb (id:=0) (hsub (17+n / 16 % 2) [2,2] (by decide)) rfl rfl rfl rfl rfl rfl rfl rfl (by repeat (first|exact Ae|refine Ab (Ac _) ?_)) rfl ?_
    repeat' (first|refine rl0 ?_|refine rs0 ?_ ?_<;>intro h|fail)
    rfl
   ·rename_i g1 g2
    have e:Ch false n=(19,[2,2,2]):=by unfold Ch;rw [if_pos rfl,if_neg (by simpa using g1),if_neg (by simpa using g2),if_neg (by simpa using h)]
    rw [e]
    refine wcb (id:=0) (hsub (19) [2,2,2] (by decide)) rfl rfl rfl rfl rfl rfl rfl rfl (by repeat (first|exact Ae|refine Ab (Ac _) ?_)) rfl ?_
    repeat' (first|refine rl0 ?_|refine rs0 ?_ ?_<;>intro h|fail)
    rfl
  ·repeat' (first|refine rl0 ?_|refine rs0 ?_ ?_<;>intro h|fail)
   ·have e:Ch true n=(5,[1]):=by unfold Ch;rw [if_neg (by simp),  if_pos (by simpa using h)]
    rw [e]
    refine wcb (id:=0) (hsub (5) [1] (by decide)) rfl rfl rfl rfl rfl rfl rfl rfl (by repeat (first|exact Ae|refine Ab (Ac _) ?_)) rfl ?_
    repeat' (first|refine rl0 ?_|refine rs0 ?_ ?_<;>intro h|fail)
    rfl
   ·rename_i g1
    have e:Ch true n=(7+n / 16 % 4,[1,1]):=by unfold Ch;rw [if_neg (by simp),if_neg (by simpa using g1),if_pos (by simpa using h)]
    rw [e]
    refine wcb (id:=0) (hsub (7+n / 16 % 4) [1,1] (by decide)) rfl rfl rfl rfl rfl rfl rfl rfl (by repeat (first|exact Ae|refine Ab (Ac _) ?_)) rfl ?_
    repeat' (first|refine rl0 ?_|refine rs0 ?_ ?_<;>intro h|fail)
    rfl
   ·rename_i g1
    have e:Ch true n=(19,[2,1,1]):=by unfold Ch;rw [if_neg (by simp),if_neg (by simpa using g1),if_neg (by simpa using h)]
    rw [e]
    refine wcb (id:=0) (hsub (19) [2,1,1] (by decide)) rfl rfl rfl rfl rfl rfl rfl rfl (by repeat (first|exact Ae|refine Ab (Ac _) ?_)) rfl ?_
    repeat' (first|refine rl0 ?_|refine rs0 ?_ ?_<;>intro h|fail)
    rfl
def Fx:List ByteArray:=[⟨#[120]⟩,⟨#[121]⟩,⟨#[122]⟩]
theorem vars_do:Am 7 [] ⟨[],[]⟩ (.ret (Db Fx)) ⟨[],[]⟩:=by
 refine Ad Tryz.func7 rfl rfl (Nat.le_of_ble_eq_true rfl) rfl (Nat.le_refl _) ?_
 repeat' (first|refine rl0 ?_|refine rs0 ?_ ?_<;>intro h|fail)
 rfl
def Sf (l:List UInt8) (want:Int):Ex:=(Jm l 9 want 0).1
theorem Agl (l:List UInt8) (want:Int):Am 13 [D5 l,Ah want] ⟨[],[]⟩ (.ret (exP (Sf l want))) ⟨[],[]⟩:=by
 refine Ad Tryz.func13 rfl rfl (Nat.le_of_ble_eq_true rfl) rfl (Nat.le_refl _) ?_
 repeat' (first|refine rl0 ?_|refine rs0 ?_ ?_<;>intro h|fail)
 refine wcb (id:=1) (one_do l 9 (by omega) want 0 (by decide)) rfl rfl rfl rfl rfl rfl rfl rfl (by repeat (first|exact Ae|refine Ab (Ac _) ?_)) rfl ?_
 repeat' (first|refine rl0 ?_|refine rs0 ?_ ?_<;>intro h|fail)
 rfl
def T5 (zs:List ByteArray) (x:ByteArray):Bool:=zs.any fun y=>x.toList==y.toList
theorem memB_hit (zs:List ByteArray) (x:ByteArray) (k:Nat) (hk:k<zs.length) (h:x.toList=(zs[k]?.getD ByteArray.empty).toList):T5 zs x=true:=by
 unfold T5
 rw [List.any_eq_true]
 rw [List.getElem?_eq_getElem hk] at h
 exact ⟨zs[k],List.getElem_mem hk,by simpa using h⟩
theorem Agm (zs:List ByteArray) (x:ByteArray) (k:Nat) (hk:k<zs.length) (h:T5 (zs.take k) x=false) (h1:¬ x.toList=(zs[k]?.getD ByteArray.empty).toList):T5 (zs.take (k+1)) x=false:=by
 rw [List.getElem?_eq_getElem hk] at h1
 unfold T5 at *
 rw [List.take_succ_eq_append_getElem hk,List.any_append,h]
 simpa using h1
def IntIs (P:Int->Prop) (e:Ending):Prop:=∃ n:Int,e = .returned (.int .i64 n)/\P n
def Em:List (List UInt8):=[[109,111,100,117,108,101],[101,110,100],[118,97,114],[109,105,110],[119,104,101,110],[103,97,105,110],[108,97,98,101,108],[115,116,97,121],[97,110,100],[111,114],[110,111,116],[105,102],[116,104,101,110],[101,108,115,101],[116,114,117,101],[102,97,108,115,101],[109,97,120],[118,97,108,117,101],[114,101,97,99,104],[117,110,116,105,108],[119,105,116,104,105,110],[116,111,116,97,108],[109,101,97,110]]
def Ek:List (List UInt8):=[[40],[41],[91],[93],[58],[59],[44],[124],[43],[45],[42],[47],[61],[39],[60],[62],[33,61],[60,61],[62,61],[45,62],[46,46]]
def C0:List ByteArray:=Em.map fun l=>⟨l.toArray⟩
def Dn:List ByteArray:=Ek.map fun l=>⟨l.toArray⟩
def Fd:Array Value:=(C0.map Value.string).toArray
def Fa:Array Value:=(Dn.map Value.string).toArray
def D1 (c:UInt8):Bool:=decide (97<=(c.toNat:Int))&&decide ((c.toNat:Int)<=122)
def Gb (c:UInt8):Bool:=decide (48<=(c.toNat:Int))&&decide ((c.toNat:Int)<=57)
def Xe (c:UInt8):Bool:=decide (95<=(c.toNat:Int))&&decide ((c.toNat:Int)<=95)
def Dh (c:UInt8):Bool:=D1 c||Gb c||Xe c
def Nn (l:List UInt8):Bool:=l.all Dh&&(l.head?.map D1).getD false
theorem Mh {c:UInt8} (h:97<=(c.toNat:Int)/\(c.toNat:Int)<=122):D1 c=true:=by simp [D1,h.1,h.2]
theorem Kf {c:UInt8} (h:(c.toNat:Int)<97\/122<(c.toNat:Int)):D1 c=false:=by simp [D1];omega
theorem Ol {c:UInt8} (h:48<=(c.toNat:Int)/\(c.toNat:Int)<=57):Gb c=true:=by simp [Gb,h.1,h.2]
theorem Mc {c:UInt8} (h:(c.toNat:Int)<48\/57<(c.toNat:Int)):Gb c=false:=by simp [Gb];omega
theorem Xf {c:UInt8} (h:95<=(c.toNat:Int)/\(c.toNat:Int)<=95):Xe c=true:=by simp [Xe,h.1,h.2]
theorem Rh {c:UInt8} (h:(c.toNat:Int)<95\/95<(c.toNat:Int)):Xe c=false:=by simp [Xe];omega
def T6 (zs:List (List UInt8)) (l:List UInt8):Bool:=zs.any fun y=>l==y
theorem V0 (zs:List (List UInt8)) (s:ByteArray):T5 (zs.map fun l=>⟨l.toArray⟩) s=T6 zs s.data.toList:=by
 unfold T5 T6
 rw [List.any_map]
 congr 1
 funext y
 show (s.toList==(ByteArray.mk y.toArray).toList)=_
 rw [ByteArray.toList_eq,ByteArray.toList_eq]
theorem F6 (s:ByteArray):T5 C0 s=T6 Em s.data.toList:=V0 _ _
theorem Hb (s:ByteArray):T5 Dn s=T6 Ek s.data.toList:=V0 _ _
theorem Pq (zs:List ByteArray) (j:Nat) (h:j<zs.length):((zs.map Value.string).toArray)[j]? = some (.string (zs.getD j ByteArray.empty)):=by
 simp [h]
theorem Xn (j:Nat) (h:j<23):Fd[j]? = some (.string (C0.getD j ByteArray.empty)):=by
 exact Pq C0 j h
theorem Wy (j:Nat) (h:j<21):Fa[j]? = some (.string (Dn.getD j ByteArray.empty)):=by
 exact Pq Dn j h
def Kg (l:List UInt8):Bool:=Nn l&&decide (l.length<=12) && !T6 Em l
def Eg (l:List UInt8):Bool:=l.all Gb&&(l==[48]||(!l.isEmpty&&l.head? != some 48&&decide (l.length<=4)))
def Cx (kind:Int) (l:List UInt8):Bool :=
 if kind=1 then Kg l else if kind=2 then T6 Em l else if kind=3 then Eg l else if kind=4 then T6 Ek l else false
def Ds (kind:Int) (l:List UInt8) (at_:Int):Int:=if at_<0\/20000<=at_\/Cx kind l=false then 340 else 0
set_option maxHeartbeats 400000 in
theorem R4 (lo hi b:Int) (w:World) :
  Calls Tryz.prog 190 #[.agg #[.int .u8 lo,.int .u8 hi],.int .u8 b] w fun e w'=>e = .returned (.bool (decide (lo<=b)&&decide (b<=hi)))/\w.alloc (.cells #[.int .u8 lo,.int .u8 hi] 252)=w':=by
 by_cases h1:lo<=b
 ·go_enter Tryz.func190,Tryz.ntmps190
  go_wp2
  go_ret
  exact ⟨by simp [h1],rfl⟩
 ·go_enter Tryz.func190,Tryz.ntmps190
  go_wp2
  go_ret
  exact ⟨by simp;omega,rfl⟩
theorem Hn (w:World) :
  Calls Tryz.prog 154 #[] w fun e w'=>e = .returned (.slice (some ⟨w.heap.size,0,none⟩) 23 23)/\w.alloc (.cells Fd 9)=w':=by
 go_enter Tryz.func154,Tryz.ntmps154
 go_wp2
 go_ret
 exact ⟨rfl,rfl⟩
theorem Iz (w:World) :
  Calls Tryz.prog 156 #[] w fun e w'=>e = .returned (.slice (some ⟨w.heap.size,0,none⟩) 21 21)/\w.alloc (.cells Fa 9)=w':=by
 go_enter Tryz.func156,Tryz.ntmps156
 go_wp2
 go_ret
 exact ⟨rfl,rfl⟩
def C2:Array Value := #[.func (.func 190) #[.agg #[.int .u8 97,.int .u8 122]] #[],.func (.func 190) #[.agg #[.int .u8 48,.int .u8 57]] #[],.func (.func 190) #[.agg #[.int .u8 95,.int .u8 95]] #[]]
theorem Ow (w:World) :
  Calls Tryz.prog 169 #[] w fun e w'=>e = .returned (.agg C2)/\w.alloc (.cells C2 229)=w':=by
 have hmf:∀ (fn:Fn) (first cap:Array Value) (w:World),(Instr.makeFunc fn first cap).run Tryz.prog w = .ok (.func fn first cap) w:=fun _ _ _ _=>rfl
 go_enter Tryz.func169,Tryz.ntmps169
 go_wp2
 exact bodyPost_ret (v := .agg C2) (by simp [results,Tryz.results169,go_sem,C2]) rfl ⟨rfl,rfl⟩
set_option maxHeartbeats 400000 in
theorem Af8 (b n c:Nat) (zs:List ByteArray) (x:ByteArray) (w:World) (hz:zs.length=n) (hbig:n<=1000000)
  (hc:∀ j,j<n->w.cell? ⟨b,j,none⟩=some (.string (zs.getD j ByteArray.empty))) :
  Calls Tryz.prog 59 #[.slice (some ⟨b,0,none⟩) n c,.string x] w fun e w'=>IntIs (fun i=>decide (0<=i)=T5 zs x) e/\w=w':=by
 have HZ:=Lib.hid hz
 have hz':n<=zs.length:=by omega
 clear hz
 go_enter Tryz.func59,Tryz.ntmps59
 go_wp2
 go_loop [5,8] (fun _ i=>∃ k:Nat,k<=n/\i = .int .i64 k/\T5 (zs.take k) x=false) (fun _ i=>n-(intOf i).toNat)
 case atStart=>exact ⟨0,Nat.zero_le _,rfl,by simp [T5]⟩
 case round =>
  obtain ⟨k,hk,rfl,hm⟩:=hrel
  have hcell:k<n->w.cell? ⟨b,k,none⟩=some (.string (zs.getD k ByteArray.empty)):=fun h=>hc k h
  have HM:=Lib.hid hm
  clear hm hc
  go_wp2
  ·rename_i hlt _ _ heq _
   go_ret
   refine ⟨⟨_,rfl,?_⟩,rfl⟩
   rw [memB_hit zs x k (by omega) (by simpa using heq)]
   simp
  ·rename_i hlt hne
   refine ⟨⟨k+1,by omega,by simp,?_⟩,by simp [intOf];omega⟩
   exact Agm zs x k (by omega) HM.out (by simpa using hne)
  ·rename_i hge _
   go_ret
   refine ⟨⟨_,rfl,?_⟩,rfl⟩
   have:k=zs.length:=by have:=HZ.out;omega
   have h:=HM.out
   rw [this,List.take_length] at h
   rw [h];rfl
def Aec (w:World) (b:Nat):Prop:=w.cell? ⟨b,0,none⟩=some (.func (.func 190) #[.agg #[.int .u8 97,.int .u8 122]] #[])/\w.cell? ⟨b,1,none⟩=some (.func (.func 190) #[.agg #[.int .u8 48,.int .u8 57]] #[])/\w.cell? ⟨b,2,none⟩=some (.func (.func 190) #[.agg #[.int .u8 95,.int .u8 95]] #[])
theorem Gu (lo hi b:Int) (w:World) (h:lo<=b/\b<=hi) :
  Calls Tryz.prog 190 #[.agg #[.int .u8 lo,.int .u8 hi],.int .u8 b] w fun e w'=>e = .returned (.bool true)/\Below w.heap.size w w' :=
 (R4 lo hi b w).mono fun e w' ⟨he,hw⟩=>⟨by rw [he];simp [h.1,h.2],by rw [<- hw];exact (Below.refl _ _).alloc (Nat.le_refl _) _⟩
theorem G9 (lo hi b:Int) (w:World) (h:b<lo\/hi<b) :
  Calls Tryz.prog 190 #[.agg #[.int .u8 lo,.int .u8 hi],.int .u8 b] w fun e w'=>e = .returned (.bool false)/\Below w.heap.size w w' :=
 (R4 lo hi b w).mono fun e w' ⟨he,hw⟩=>⟨by rw [he];simp;omega,by rw [<- hw];exact (Below.refl _ _).alloc (Nat.le_refl _) _⟩
theorem kinds_at (w:World):Aec ((w.alloc (.cells C2 229)).alloc (.cells C2 229)) (w.heap.size+1) :=
 ⟨(World.cell?_alloc_at (hn:=by simp) ..).trans rfl,(World.cell?_alloc_at (hn:=by simp) ..).trans rfl,(World.cell?_alloc_at (hn:=by simp) ..).trans rfl⟩
set_option maxHeartbeats 1000000 in
theorem T4 (s:ByteArray) (w:World) (hs:s.size<=9223372036854775807) :
  Calls Tryz.prog 153 #[.string s] w fun e w'=>e = .returned (.bool (Nn s.data.toList))/\Below w.heap.size w w':=by
 have hks:=kinds_at w
 go_enter Tryz.func153,Tryz.ntmps153
 go_wp2_with (go_at_call 169;refine (Ow _).mono ?_;rintro e w' ⟨rfl,rfl⟩;unfold C2)
 go_loopw [4,8] (fun _ i wr=>∃ k:Nat,k<=s.size/\i = .int .i64 k/\(s.data.toList.take k).all Dh=true/\Aec wr (w.heap.size+1)/\Below w.heap.size w wr) (fun _ i _=>s.size-(intOf i).toNat)
 case atStart =>
  exact ⟨0,by omega,rfl,by simp,hks,((Below.refl _ _).alloc (Nat.le_refl _) _).alloc (by simp) _⟩
 case round =>
  obtain ⟨k,hk,rfl,hm,hK,hB⟩:=hrel
  clear hks
  obtain ⟨hK0,hK1,hK2⟩:=hK
  have k0:=Bj hK0
  have k1:=Bj hK1
  have k2:=Bj hK2
  have hBs:=hB.size
  have HM:=Lib.hid hm
  clear hm
  by_cases hlt:k<s.size
  ·have hl:k<s.data.toList.length:=by simpa using hlt
   have hcase:(97<=(s[k].toNat:Int)/\(s[k].toNat:Int)<=122)\/((s[k].toNat:Int)<97\/122<(s[k].toNat:Int)):=by omega
   have hcase2:(48<=(s[k].toNat:Int)/\(s[k].toNat:Int)<=57)\/((s[k].toNat:Int)<48\/57<(s[k].toNat:Int)):=by omega
   have hcase3:(95<=(s[k].toNat:Int)/\(s[k].toNat:Int)<=95)\/((s[k].toNat:Int)<95\/95<(s[k].toNat:Int)):=by omega
   have HP:Hid ((97<=(s[k].toNat:Int)/\(s[k].toNat:Int)<=122)\/(48<=(s[k].toNat:Int)/\(s[k].toNat:Int)<=57)\/(95<=(s[k].toNat:Int)/\(s[k].toNat:Int)<=95)->Dh s[k]=true):=by
    rintro (h|h|h)
    ·simp [Dh,Mh h]
    ·simp [Dh,Ol h]
    ·simp [Dh,Xf h]
   have HN:Hid (((s[k].toNat:Int)<97\/122<(s[k].toNat:Int))->((s[k].toNat:Int)<48\/57<(s[k].toNat:Int))->((s[k].toNat:Int)<95\/95<(s[k].toNat:Int))->Dh s[k]=false):=by
    intro h1 h2 h3
    simp [Dh,Kf h1,Mc h2,Rh h3]
   rcases hcase with hc|hc
   case inl =>
    clear hcase2 hcase3
    go_wp2_with fail
    refine Au (by kernel_rfl) (by kernel_rfl) ?_
    repeat (go_big_quiet_step ((go_at_call 190;first|exact Calls.later_of (Gu _ _ _ _ (by omega))|exact Calls.later_of (G9 _ _ _ _ (by omega)))))
    refine wpQuiet_nil ?_
    intro w1 hb1
    go_wp2
    go_roundw
    case rel=>exact ⟨k+1,by omega,by go_num,Pv hl HM.out (HP.out (by omega)),⟨Bc hb1 hK0,Bc hb1 hK1,Bc hb1 hK2⟩,hB.trans (hb1.mono hBs)⟩
    case measure=>simp [intOf];omega
   case inr =>
    rcases hcase2 with hd|hd
    case inl =>
     clear hcase3
     go_wp2_with fail
     refine Au (by kernel_rfl) (by kernel_rfl) ?_
     repeat (go_big_quiet_step ((go_at_call 190;first|exact Calls.later_of (Gu _ _ _ _ (by omega))|exact Calls.later_of (G9 _ _ _ _ (by omega)))))
     refine wpQuiet_nil ?_
     intro w1 hb1
     go_wp2
     go_roundw
     case rel=>exact ⟨k+1,by omega,by go_num,Pv hl HM.out (HP.out (by omega)),⟨Bc hb1 hK0,Bc hb1 hK1,Bc hb1 hK2⟩,hB.trans (hb1.mono hBs)⟩
     case measure=>simp [intOf];omega
    case inr =>
     rcases hcase3 with hu|hu
     case inl =>
      go_wp2_with fail
      refine Au (by kernel_rfl) (by kernel_rfl) ?_
      repeat (go_big_quiet_step ((go_at_call 190;first|exact Calls.later_of (Gu _ _ _ _ (by omega))|exact Calls.later_of (G9 _ _ _ _ (by omega)))))
      refine wpQuiet_nil ?_
      intro w1 hb1
      go_wp2
      go_roundw
      case rel=>exact ⟨k+1,by omega,by go_num,Pv hl HM.out (HP.out (by omega)),⟨Bc hb1 hK0,Bc hb1 hK1,Bc hb1 hK2⟩,hB.trans (hb1.mono hBs)⟩
      case measure=>simp [intOf];omega
     case inr =>
      have HF:Hid (Nn s.data.toList=false):=Lib.hid (by simp [Nn,M0 hl (HN.out hc hd hu)])
      go_wp2_with fail
      refine Au (by kernel_rfl) (by kernel_rfl) ?_
      repeat (go_big_quiet_step ((go_at_call 190;first|exact Calls.later_of (Gu _ _ _ _ (by omega))|exact Calls.later_of (G9 _ _ _ _ (by omega)))))
      refine wpQuiet_nil ?_
      intro w1 hb1
      go_wp2
      go_ret
      exact ⟨By HF.out.symm,hB.trans (hb1.mono hBs)⟩
  ·have HA:Hid (s.data.toList.all Dh=true):=Lib.hid (Abt (by simp;omega) HM.out)
   by_cases h0:s.size=0
   ·have hz:s.toList=[]:=Gg h0
    have HF:Hid (Nn s.data.toList=false):=Lib.hid (by simp [Nn,<- Cn,hz])
    go_wp2_with fail
    refine Au (by kernel_rfl) (by kernel_rfl) ?_
    repeat (go_big_quiet_step (fail))
    refine wpQuiet_nil ?_
    intro w1 hb1
    go_wp2
    go_ret
    exact ⟨By HF.out.symm,hB.trans (hb1.mono hBs)⟩
   ·have hz:s.toList.isEmpty=false:=Gq (by omega)
    have hp:0<s.size:=by omega
    have hcase:(97<=(s[0].toNat:Int)/\(s[0].toNat:Int)<=122)\/((s[0].toNat:Int)<97\/122<(s[0].toNat:Int)):=by omega
    have HH:Hid (Nn s.data.toList=D1 s[0]):=Lib.hid (by rw [Nn,HA.out,Af6 hp];simp)
    rcases hcase with hc|hc
    case inl =>
     have HF:Hid (Nn s.data.toList=true):=Lib.hid (HH.out.trans (Mh hc))
     go_wp2_with fail
     refine Au (by kernel_rfl) (by kernel_rfl) ?_
     repeat (go_big_quiet_step ((go_at_call 190;first|exact Calls.later_of (Gu _ _ _ _ (by omega))|exact Calls.later_of (G9 _ _ _ _ (by omega)))))
     refine wpQuiet_nil ?_
     intro w1 hb1
     go_wp2
     go_ret
     exact ⟨By HF.out.symm,hB.trans (hb1.mono hBs)⟩
    case inr =>
     have HF:Hid (Nn s.data.toList=false):=Lib.hid (HH.out.trans (Kf hc))
     go_wp2_with fail
     refine Au (by kernel_rfl) (by kernel_rfl) ?_
     repeat (go_big_quiet_step ((go_at_call 190;first|exact Calls.later_of (Gu _ _ _ _ (by omega))|exact Calls.later_of (G9 _ _ _ _ (by omega)))))
     refine wpQuiet_nil ?_
     intro w1 hb1
     go_wp2
     go_ret
     exact ⟨By HF.out.symm,hB.trans (hb1.mono hBs)⟩
theorem Bz (b n c:Nat) (zs:List ByteArray) (x:ByteArray) (w:World) (hz:zs.length=n) (hbig:n<=1000000)
  (hc:∀ j,j<n->w.cell? ⟨b,j,none⟩=some (.string (zs.getD j ByteArray.empty))) :
  Calls Tryz.prog 41 #[.slice (some ⟨b,0,none⟩) n c,.string x] w fun e w'=>e = .returned (.bool (T5 zs x))/\w=w':=by
 have hi:=Af8 b n c zs x w hz hbig hc
 have HI:=Lib.hid hi
 have HZ:=Lib.hid hz
 clear hi hc hz
 go_enter Tryz.func41,Tryz.ntmps41
 go_wp2_with fail
 refine HI.out.mono ?_
 rintro e w' ⟨⟨i,rfl,hi⟩,rfl⟩
 have HH:=Lib.hid hi
 clear hi
 go_wp2
 go_ret
 exact ⟨By HH.out,rfl⟩
set_option maxHeartbeats 1000000 in
theorem Acs (s:ByteArray) (w:World) (hs:s.size<=9223372036854775807) :
  Calls Tryz.prog 155 #[.string s] w fun e w'=>e = .returned (.bool (Eg s.data.toList))/\Below w.heap.size w w':=by
 have i1:∀ w,(Instr.index 229 (.agg C2) (.int .i64 1)).run Tryz.prog w = .ok (.func (.func 190) #[.agg #[.int .u8 48,.int .u8 57]] #[]) w:=fun _=>by kernel_rfl
 go_enter Tryz.func155,Tryz.ntmps155
 go_wp2_with (go_at_call 169;refine (Ow _).mono ?_;rintro e w' ⟨rfl,rfl⟩)
 clear i1
 go_loopw [4,9] (fun _ i wr=>∃ k:Nat,k<=s.size/\i = .int .i64 k/\(s.data.toList.take k).all Gb=true/\Below w.heap.size w wr) (fun _ i _=>s.size-(intOf i).toNat)
 case atStart =>
  exact ⟨0,by omega,rfl,by simp,(Below.refl _ _).alloc (Nat.le_refl _) _⟩
 case round =>
  obtain ⟨k,hk,rfl,hm,hB⟩:=hrel
  have hBs:=hB.size
  have HM:=Lib.hid hm
  clear hm
  by_cases hlt:k<s.size
  ·have hl:k<s.data.toList.length:=by simpa using hlt
   have hcase2:(48<=(s[k].toNat:Int)/\(s[k].toNat:Int)<=57)\/((s[k].toNat:Int)<48\/57<(s[k].toNat:Int)):=by omega
   rcases hcase2 with hc|hc
   case inl =>
    have HP:Hid (Gb s[k]=true):=Lib.hid (Ol hc)
    go_wp2_with (go_at_call 190;refine (Gu _ _ _ _ (by omega)).mono ?_;rintro e w1 ⟨rfl,hb1⟩)
    go_roundw
    case rel=>exact ⟨k+1,by omega,by go_num,Pv hl HM.out HP.out,hB.trans (hb1.mono hBs)⟩
    case measure=>simp [intOf];omega
   case inr =>
    have HF:Hid (Eg s.data.toList=false):=Lib.hid (by simp [Eg,M0 hl (Mc hc)])
    go_wp2_with (go_at_call 190;refine (G9 _ _ _ _ (by omega)).mono ?_;rintro e w1 ⟨rfl,hb1⟩)
    go_ret
    exact ⟨By HF.out.symm,hB.trans (hb1.mono hBs)⟩
  ·have HA:Hid (s.data.toList.all Gb=true):=Lib.hid (Abt (by simp;omega) HM.out)
   by_cases h0:s.toList=[48]
   ·have HF:Hid (Eg s.data.toList=true):=Lib.hid (by rw [Eg,HA.out,<- Cn,h0];rfl)
    go_wp2
    go_ret
    exact ⟨By HF.out.symm,hB⟩
   ·have HN:Hid ((s.data.toList==[48])=false):=Lib.hid (by rw [<- Cn];simpa using h0)
    have h0':(s.toList==[48])=false:=by simpa using h0
    clear h0
    by_cases hz0:s.size=0
    ·have hz:s.toList=[]:=Gg hz0
     have HF:Hid (Eg s.data.toList=false):=Lib.hid (by rw [Eg,HN.out,<- Cn,hz];rfl)
     go_wp2
     go_ret
     exact ⟨By HF.out.symm,hB⟩
    ·have hz:s.toList.isEmpty=false:=Gq (by omega)
     have hp:0<s.size:=by omega
     have HF:Hid (Eg s.data.toList=((!(s[0]==48))&&decide (s.size<=4))):=Lib.hid (by
      rw [Eg,HA.out,HN.out,Af6 hp,<- Cn,hz]
      simp [Cn,bne])
     clear hz0
     by_cases h48:s[0]=48
     ·have h1:((s[0].toNat:Int) != 48)=false:=by rw [h48];rfl
      have HG:Hid (Eg s.data.toList=false):=Lib.hid (by rw [HF.out,h48];rfl)
      clear h48
      go_wp2
      go_ret
      exact ⟨By HG.out.symm,hB⟩
     ·have h1:((s[0].toNat:Int) != 48)=true:=by
       rw [bne_iff_ne];intro h;apply h48;exact UInt8.toNat_inj.1 (by simpa using Int.ofNat.inj h)
      have HG:Hid (Eg s.data.toList=decide (s.size<=4)):=Lib.hid (by rw [HF.out,beq_eq_false_iff_ne.2 h48];rfl)
      clear h48
      go_wp2
      go_ret
      exact ⟨By (by rw [HG.out,Bool.eq_iff_iff];simp;omega),hB⟩
theorem Kk (w:World) (j:Nat) (h:j<23):(w.alloc (.cells Fd 9)).cell? ⟨w.heap.size,j,none⟩=some (.string (C0.getD j ByteArray.empty)) :=
 (World.cell?_alloc_new _ _ _ _).trans (Xn j h)
theorem Pi (w:World) (j:Nat) (h:j<21):(w.alloc (.cells Fa 9)).cell? ⟨w.heap.size,j,none⟩=some (.string (Dn.getD j ByteArray.empty)) :=
 (World.cell?_alloc_new _ _ _ _).trans (Wy j h)
theorem Acr (l:List UInt8):Kg l=(l.all Dh&&(l.head?.map D1).getD false&&decide (l.length<=12) && !T6 Em l):=rfl
theorem Jt (kind:Int) (l:List UInt8):Cx kind l=if kind=1 then Kg l else if kind=2 then T6 Em l else if kind=3 then Eg l else if kind=4 then T6 Ek l else false:=rfl
set_option maxHeartbeats 1000000 in
theorem Hg (kind:Int) (s:ByteArray) (w:World) (hs:s.size<=9223372036854775807) :
  Calls Tryz.prog 122 #[.int .i64 kind,.string s] w fun e w'=>e = .returned (.bool (Cx kind s.data.toList))/\Below w.heap.size w w':=by
 have hlen:s.data.toList.length=s.size:=by simp
 have HL:=Lib.hid hlen
 clear hlen
 by_cases h1:kind=1
 ·subst h1
  cases h2:Nn s.data.toList
  ·go_enter Tryz.func122,Tryz.ntmps122
   go_wp2_with (go_at_call 153;refine (T4 _ _ hs).mono ?_;rintro e w1 ⟨rfl,hb1⟩)
   go_ret
   exact ⟨By (by rw [Jt,if_pos rfl,Kg,h2];rfl),hb1⟩
  ·by_cases h3:s.size<=12
   ·have HM:Hid (Kg s.data.toList = !T5 C0 s):=Lib.hid (by rw [Kg,h2,F6,decide_eq_true (by rw [HL.out];exact h3)];rfl)
    go_enter Tryz.func122,Tryz.ntmps122
    go_wp2_with (first|(go_at_call 153;refine (T4 _ _ hs).mono ?_;rintro e w1 ⟨rfl,hb1⟩)|(go_at_call 154;refine (Hn _).mono ?_;rintro e w' ⟨rfl,rfl⟩)|(go_at_call 41;refine (Bz _ 23 _ C0 _ _ rfl (by omega) (Kk _)).mono ?_;rintro e w' ⟨rfl,rfl⟩))
    go_ret
    exact ⟨By (by rw [Jt,if_pos rfl,HM.out]),hb1.alloc hb1.size _⟩
   ·go_enter Tryz.func122,Tryz.ntmps122
    go_wp2_with (go_at_call 153;refine (T4 _ _ hs).mono ?_;rintro e w1 ⟨rfl,hb1⟩)
    go_ret
    exact ⟨By (by rw [Jt,if_pos rfl,Kg,decide_eq_false (by rw [HL.out];exact h3)];simp),hb1⟩
 ·by_cases h2:kind=2
  ·subst h2
   go_enter Tryz.func122,Tryz.ntmps122
   go_wp2_with (first|(go_at_call 154;refine (Hn _).mono ?_;rintro e w' ⟨rfl,rfl⟩)|(go_at_call 41;refine (Bz _ 23 _ C0 _ _ rfl (by omega) (Kk _)).mono ?_;rintro e w' ⟨rfl,rfl⟩))
   go_ret
   exact ⟨By (by rw [Jt,F6];rfl),(Below.refl _ _).alloc (Nat.le_refl _) _⟩
  ·by_cases h3:kind=3
   ·subst h3
    go_enter Tryz.func122,Tryz.ntmps122
    go_wp2_with (go_at_call 155;refine (Acs _ _ hs).mono ?_;rintro e w1 ⟨rfl,hb1⟩)
    go_ret
    exact ⟨By rfl,hb1⟩
   ·by_cases h4:kind=4
    ·subst h4
     go_enter Tryz.func122,Tryz.ntmps122
     go_wp2_with (first|(go_at_call 156;refine (Iz _).mono ?_;rintro e w' ⟨rfl,rfl⟩)|(go_at_call 41;refine (Bz _ 21 _ Dn _ _ rfl (by omega) (Pi _)).mono ?_;rintro e w' ⟨rfl,rfl⟩))
     go_ret
     exact ⟨By (by rw [Jt,Hb];rfl),(Below.refl _ _).alloc (Nat.le_refl _) _⟩
    ·have HF:Hid (Cx kind s.data.toList=false):=Lib.hid (by rw [Jt,if_neg h1,if_neg h2,if_neg h3,if_neg h4])
     go_enter Tryz.func122,Tryz.ntmps122
     go_wp2
     go_ret
     exact ⟨By HF.out.symm,Below.refl _ _⟩
set_option maxHeartbeats 1000000 in
theorem Up (kind:Int) (s:ByteArray) (a:Int) (w:World) (hs:s.size<=9223372036854775807) :
  Calls Tryz.prog 85 #[.agg #[.int .i64 kind,.string s,.int .i64 a]] w fun e w'=>e = .returned (.int .i64 (Ds kind s.data.toList a))/\Below w.heap.size w w':=by
 by_cases h1:a<0
 ·have HF:Hid (Ds kind s.data.toList a=340):=Lib.hid (if_pos (.inl h1))
  go_enter Tryz.func85,Tryz.ntmps85
  go_wp2
  go_ret
  exact ⟨S9 HF.out.symm,(Below.refl _ _).alloc (Nat.le_refl _) _⟩
 ·by_cases h2:20000<=a
  ·have HF:Hid (Ds kind s.data.toList a=340):=Lib.hid (if_pos (.inr (.inl h2)))
   go_enter Tryz.func85,Tryz.ntmps85
   go_wp2
   go_ret
   exact ⟨S9 HF.out.symm,(Below.refl _ _).alloc (Nat.le_refl _) _⟩
  ·cases h3:Cx kind s.data.toList
   ·have HF:Hid (Ds kind s.data.toList a=340):=Lib.hid (if_pos (.inr (.inr h3)))
    go_enter Tryz.func85,Tryz.ntmps85
    go_wp2_with (go_at_call 122;refine (Hg _ _ _ hs).mono ?_;rintro e w1 ⟨rfl,hb1⟩)
    go_ret
    exact ⟨S9 HF.out.symm,((Below.refl _ _).alloc (Nat.le_refl _) _).trans (hb1.mono (by simp))⟩
   ·have HF:Hid (Ds kind s.data.toList a=0):=Lib.hid (if_neg (by rw [h3];simp;omega))
    go_enter Tryz.func85,Tryz.ntmps85
    go_wp2_with (go_at_call 122;refine (Hg _ _ _ hs).mono ?_;rintro e w1 ⟨rfl,hb1⟩)
    go_ret
    exact ⟨S9 HF.out.symm,((Below.refl _ _).alloc (Nat.le_refl _) _).trans (hb1.mono (by simp))⟩
def A5:Bool->List UInt8->List UInt8
 |_,[]=>[]
 |true,c::t=>if c=10 then A5 false t else A5 true t
 |false,c::t=>if c=32\/c=10 then A5 false t else if c=35 then A5 true t else c::t
theorem Ti (b:Bool) (l:List UInt8):(A5 b l).length<=l.length:=by
 induction l generalizing b with
 |nil=>cases b<;>simp [A5]
 |cons c t ih =>
  cases b
  ·simp only [A5]
   split
   ·have:=ih false;simp;omega
   ·split
    ·have:=ih true;simp;omega
    ·simp
  ·simp only [A5]
   split
   ·have:=ih false;simp;omega
   ·have:=ih true;simp;omega
theorem W4 (b:Bool) (l:List UInt8):A5 b l=l.drop (l.length-(A5 b l).length):=by
 induction l generalizing b with
 |nil=>cases b<;>simp [A5]
 |cons c t ih =>
  have key:∀ b',A5 b' t=(c::t).drop ((c::t).length-(A5 b' t).length):=by
   intro b'
   have h:=Ti b' t
   rw [show (c::t).length-(A5 b' t).length=(t.length-(A5 b' t).length)+1 from by simp;omega,List.drop_succ_cons]
   exact ih b'
  cases b
  ·simp only [A5]
   split
   ·exact key false
   ·split
    ·exact key true
    ·simp
  ·simp only [A5]
   split
   ·exact key false
   ·exact key true
theorem Pl (l:List UInt8):(Lib.indexByte l 10 = -1/\A5 true l=[])\/∃ j:Nat,Lib.indexByte l 10=j/\j<l.length/\A5 true l=A5 false (l.drop j):=by
 induction l with
 |nil=>exact .inl ⟨rfl,rfl⟩
 |cons c t ih =>
  by_cases h:c=10
  ·refine .inr ⟨0,by simp [Lib.indexByte,h],by simp,?_⟩
   simp [A5,h]
  ·rcases ih with ⟨h1,h2⟩|⟨j,h1,h2,h3⟩
   ·exact .inl ⟨by simp [Lib.indexByte,h,h1],by simp [A5,h,h2]⟩
   ·refine .inr ⟨j+1,?_,by simp;omega,?_⟩
    ·have hne:¬ ((j:Int) = -1):=by omega
     simp [Lib.indexByte,h,h1,hne]
    ·simp [A5,h,h3]
theorem G5 {l:List UInt8} {k:Nat} (h:k<l.length):l.drop k=l[k]::l.drop (k+1):=List.drop_eq_getElem_cons h
theorem Q9 {l:List UInt8} {k:Nat} (h:k<l.length) (hc:l[k]=32\/l[k]=10):A5 false (l.drop k)=A5 false (l.drop (k+1)):=by
 rw [G5 h];simp [A5,hc]
theorem M9 {l:List UInt8} {k:Nat} (h:k<l.length) (hc:l[k]=35):A5 false (l.drop k)=A5 true (l.drop (k+1)):=by
 rw [G5 h];simp [A5,hc]
theorem Adk {l:List UInt8} {k:Nat} (h:k<l.length) (h1:l[k]≠32) (h2:l[k]≠10) (h3:l[k]≠35):A5 false (l.drop k)=l.drop k:=by
 rw [G5 h];simp [A5,h1,h2,h3]
theorem Mp {l:List UInt8} {k:Nat} (h:k<l.length) (hc:l[k]=35) (hi:Lib.indexByte (l.drop k) 10 = -1):A5 false (l.drop k)=A5 false (l.drop l.length):=by
 rw [M9 h hc]
 have e:Lib.indexByte (l.drop k) 10=if Lib.indexByte (l.drop (k+1)) 10 == -1 then -1 else Lib.indexByte (l.drop (k+1)) 10+1:=by
  rw [G5 h,hc];rfl
 rcases Pl (l.drop (k+1)) with ⟨_,h2⟩|⟨j,h1,_,_⟩
 ·rw [h2];simp [A5]
 ·rw [e,h1] at hi
  have:¬ ((j:Int) == -1)=true:=by simp
  rw [if_neg this] at hi;omega
theorem Mq {l:List UInt8} {k:Nat} (h:k<l.length) (hc:l[k]=35) (hi:¬ Lib.indexByte (l.drop k) 10<0) :
  ∃ j:Nat,Lib.indexByte (l.drop k) 10=j/\1<=j/\k+j<l.length/\A5 false (l.drop k)=A5 false (l.drop (k+j)):=by
 rw [M9 h hc]
 have e:Lib.indexByte (l.drop k) 10=if Lib.indexByte (l.drop (k+1)) 10 == -1 then -1 else Lib.indexByte (l.drop (k+1)) 10+1:=by
  rw [G5 h,hc];rfl
 rcases Pl (l.drop (k+1)) with ⟨h1,_⟩|⟨j,h1,h2,h3⟩
 ·rw [e,h1] at hi;simp at hi
 ·have hne:¬ ((j:Int) == -1)=true:=by simp
  refine ⟨j+1,?_,by omega,?_,?_⟩
  ·rw [e,h1,if_neg hne];omega
  ·simp at h2;omega
  ·rw [h3,List.drop_drop];congr 2;omega
theorem R6 {l:List UInt8} {c:UInt8} (h:Lib.indexByte l c<0):Lib.indexByte l c = -1:=by
 induction l with
 |nil=>rfl
 |cons b t ih =>
  simp only [Lib.indexByte] at h |-
  split
  ·rename_i h1;rw [if_pos h1] at h;simp at h
  ·rename_i h1
   rw [if_neg h1] at h
   split
   ·rfl
   ·rename_i h2
    rw [if_neg h2] at h
    have:=ih (by omega)
    exact absurd (by simpa using this) h2
def Nl (l:List UInt8) (k:Nat):Nat:=l.length-(A5 false (l.drop k)).length
theorem Abn (l:List UInt8) (k:Nat) (h:k<=l.length):k<=Nl l k/\Nl l k<=l.length:=by
 have:=Ti false (l.drop k)
 unfold Nl
 simp at this
 omega
theorem Abo {l:List UInt8} {k k':Nat} (h:A5 false (l.drop k')=A5 false (l.drop k)) (he:A5 false (l.drop k')=l.drop k') (hk:k'<=l.length):Nl l k=k':=by
 unfold Nl
 rw [<- h,he];simp;omega
theorem Ju (l:List UInt8) (k:Nat):l.drop (Nl l k)=A5 false (l.drop k):=by
 unfold Nl
 have h:=W4 false (l.drop k)
 have hle:=Ti false (l.drop k)
 rw [List.drop_drop] at h
 rcases Nat.lt_or_ge l.length k with hk|hk
 ·have e:l.drop k=[]:=List.drop_eq_nil_of_le (by omega)
  rw [e];simp [A5]
 ·rw [List.length_drop] at h hle
  rw [show l.length-(A5 false (l.drop k)).length=k+(l.length-k-(A5 false (l.drop k)).length) from by omega]
  exact h.symm
def Eo (l:List UInt8):Int×List UInt8 :=
 if (l.head?.map D1).getD false then (if T6 Em (l.takeWhile Dh) then 2 else 1,l.takeWhile Dh)
 else if (l.head?.map Gb).getD false then (3,l.takeWhile Dh)
 else (4,if T6 Ek (l.take 2) then l.take 2 else l.take 1)
theorem Xa {l:List UInt8} {p:UInt8->Bool} {n:Nat} (hn:n<=l.length) (h:(l.take n).all p=true) (he:∀ h':n<l.length,p l[n]=false):l.takeWhile p=l.take n:=by
 induction l generalizing n with
 |nil=>simp
 |cons c t ih =>
  cases n with
  |zero =>
   have:=he (by simp)
   simp at this
   simp [this]
  |succ n =>
   simp only [List.take_succ_cons,List.all_cons,Bool.and_eq_true] at h
   rw [List.takeWhile_cons,if_pos h.1,List.take_succ_cons,ih (by simpa using hn) h.2 (fun h'=>he (Nat.succ_lt_succ h'))]
theorem Df (s:ByteArray) (i j:Nat):s.extract i j=⟨((s.data.toList.drop i).take (j-i)).toArray⟩:=by
 apply ByteArray.ext
 apply Array.toList_inj.1
 rw [ByteArray.data_extract,Array.toList_extract]
end Go.Proofs.YtjagmmmcibdibaaGreatDoor
namespace Go.Proofs
open Go.Shelf
def Tryz.lays169_ren:Go.Shelf.Ren:=⟨fun|169=>93|n=>n,fun|70=>149|9=>9|0=>0|72=>151|37=>25|127=>186|3=>3|5=>5|n=>n,fun|n=>n⟩
theorem Tryz.lays169:Go.Proofs.Lays.n169 Tryz.prog Tryz.lays169_ren:={
 mixed:=by kernel_rfl
 f169:=Tryz.func93.trans (congrArg some (by kernel_rfl))
 t0:=Tryz.underlying0
 a0:=Tryz.isAgg0
 z0:=Tryz.sizeOf0
 v0:=Tryz.zeroValue0
 t3:=Tryz.underlying3
 a3:=Tryz.isAgg3
 z3:=Tryz.sizeOf3
 v3:=Tryz.zeroValue3
 t9:=Tryz.underlying9
 a9:=Tryz.isAgg9
 z9:=Tryz.sizeOf9
 v9:=Tryz.zeroValue9
 t37:=Tryz.underlying25
 a37:=Tryz.isAgg25
 z37:=Tryz.sizeOf25
 v37:=Tryz.zeroValue25
 t70:=Tryz.underlying149
 a70:=Tryz.isAgg149
 z70:=Tryz.sizeOf149
 v70:=Tryz.zeroValue149
 t72:=Tryz.underlying151
 a72:=Tryz.isAgg151
 z72:=Tryz.sizeOf151
 v72:=Tryz.zeroValue151
 t127:=Tryz.underlying186
 a127:=Tryz.isAgg186
 z127:=Tryz.sizeOf186
 v127:=Tryz.zeroValue186 }
theorem Tryz.Builder_Extra_169:Builder.Extra Tryz.prog Tryz.lays169_ren:={
 sizeBuilder:=by kernel_rfl
 liesBuilder:=by kernel_rfl
 t5:=Tryz.underlying5
 a5:=Tryz.isAgg5
 z5:=Tryz.sizeOf5
 v5:=Tryz.zeroValue5
 infoByte:=by kernel_rfl
 cellsByte:=by kernel_rfl
 sizeByte:=by kernel_rfl
 neB5:=by decide }
open Go.RowKit in
theorem Tryz.Builder_String_any (B b:Nat) (l:List UInt8) (w:World) (h:Lib.IsBuilder 151 5 B b (Lib.byteCells l) w) (hBw:B<=w.heap.size) :
  Calls Tryz.prog 93 #[.pointer (some ⟨b,0,none⟩)] w fun e w'=>e = .returned (.string ⟨l.toArray⟩)/\Below B w w':=Any.Builder_String_any Tryz.lays169 Tryz.Builder_Extra_169 B b l w h hBw
def Tryz.lays137_ren:Go.Shelf.Ren:=⟨fun|137=>191|217=>196|266=>211|n=>n,fun|9=>9|5=>5|3=>3|n=>n,fun|n=>n⟩
theorem Tryz.lays137:Go.Proofs.Lays.n137 Tryz.prog Tryz.lays137_ren:={
 mixed:=by kernel_rfl
 f137:=Tryz.func191.trans (congrArg some (by kernel_rfl))
 f217:=Tryz.func196.trans (congrArg some (by kernel_rfl))
 f266:=Tryz.func211.trans (congrArg some (by kernel_rfl))
 t3:=Tryz.underlying3
 a3:=Tryz.isAgg3
 z3:=Tryz.sizeOf3
 v3:=Tryz.zeroValue3
 t5:=Tryz.underlying5
 a5:=Tryz.isAgg5
 z5:=Tryz.sizeOf5
 v5:=Tryz.zeroValue5
 t9:=Tryz.underlying9
 a9:=Tryz.isAgg9
 z9:=Tryz.sizeOf9
 v9:=Tryz.zeroValue9 }
open Go.RowKit in
theorem Tryz.strings_IndexByte (s:ByteArray) (c:Int) (w:World) :
  Calls Tryz.prog 191 #[.string s,.int .u8 c] w fun e w'=>e = .returned (.int .i64 (Lib.indexByte s.data.toList c.toNat.toUInt8))/\w'=w:=Any.strings_IndexByte Tryz.lays137 s c w
def Tryz.lays172_ren:Go.Shelf.Ren:=⟨fun|172=>189|244=>208|245=>202|247=>221|279=>215|280=>216|281=>217|282=>218|287=>201|316=>222|171=>91|205=>223|321=>213|322=>214|243=>124|246=>158|283=>185|284=>186|285=>187|286=>188|129=>204|317=>203|318=>205|319=>206|320=>207|337=>219|338=>220|n=>n,fun|9=>9|3=>3|75=>153|76=>156|4=>4|5=>5|167=>266|37=>25|0=>0|85=>272|2=>2|168=>268|53=>175|175=>244|46=>257|210=>275|127=>186|145=>281|143=>279|21=>21|171=>246|173=>249|212=>261|51=>148|20=>20|213=>262|232=>277|233=>278|80=>119|n=>n,fun|15=>2|16=>3|17=>1|18=>4|19=>5|n=>n⟩
theorem Tryz.lays172:Go.Proofs.Lays.n172 Tryz.prog Tryz.lays172_ren:={
 mixed:=by kernel_rfl
 f129:=Tryz.func204.trans (congrArg some (by kernel_rfl))
 f171:=Tryz.func91.trans (congrArg some (by kernel_rfl))
 f172:=Tryz.func189.trans (congrArg some (by kernel_rfl))
 f205:=Tryz.func223.trans (congrArg some (by kernel_rfl))
 f243:=Tryz.func124.trans (congrArg some (by kernel_rfl))
 f244:=Tryz.func208.trans (congrArg some (by kernel_rfl))
 f245:=Tryz.func202.trans (congrArg some (by kernel_rfl))
 f246:=Tryz.func158.trans (congrArg some (by kernel_rfl))
 f247:=Tryz.func221.trans (congrArg some (by kernel_rfl))
 f279:=Tryz.func215.trans (congrArg some (by kernel_rfl))
 f280:=Tryz.func216.trans (congrArg some (by kernel_rfl))
 f281:=Tryz.func217.trans (congrArg some (by kernel_rfl))
 f282:=Tryz.func218.trans (congrArg some (by kernel_rfl))
 f283:=Tryz.func185.trans (congrArg some (by kernel_rfl))
 f284:=Tryz.func186.trans (congrArg some (by kernel_rfl))
 f285:=Tryz.func187.trans (congrArg some (by kernel_rfl))
 f286:=Tryz.func188.trans (congrArg some (by kernel_rfl))
 f287:=Tryz.func201.trans (congrArg some (by kernel_rfl))
 f316:=Tryz.func222.trans (congrArg some (by kernel_rfl))
 f317:=Tryz.func203.trans (congrArg some (by kernel_rfl))
 f318:=Tryz.func205.trans (congrArg some (by kernel_rfl))
 f319:=Tryz.func206.trans (congrArg some (by kernel_rfl))
 f320:=Tryz.func207.trans (congrArg some (by kernel_rfl))
 f321:=Tryz.func213.trans (congrArg some (by kernel_rfl))
 f322:=Tryz.func214.trans (congrArg some (by kernel_rfl))
 f337:=Tryz.func219.trans (congrArg some (by kernel_rfl))
 f338:=Tryz.func220.trans (congrArg some (by kernel_rfl))
 t0:=Tryz.underlying0
 a0:=Tryz.isAgg0
 z0:=Tryz.sizeOf0
 v0:=Tryz.zeroValue0
 t2:=Tryz.underlying2
 a2:=Tryz.isAgg2
 z2:=Tryz.sizeOf2
 v2:=Tryz.zeroValue2
 t3:=Tryz.underlying3
 a3:=Tryz.isAgg3
 z3:=Tryz.sizeOf3
 v3:=Tryz.zeroValue3
 t4:=Tryz.underlying4
 a4:=Tryz.isAgg4
 z4:=Tryz.sizeOf4
 v4:=Tryz.zeroValue4
 t5:=Tryz.underlying5
 a5:=Tryz.isAgg5
 z5:=Tryz.sizeOf5
 v5:=Tryz.zeroValue5
 t9:=Tryz.underlying9
 a9:=Tryz.isAgg9
 z9:=Tryz.sizeOf9
 v9:=Tryz.zeroValue9
 t20:=Tryz.underlying20
 a20:=Tryz.isAgg20
 z20:=Tryz.sizeOf20
 v20:=Tryz.zeroValue20
 t21:=Tryz.underlying21
 a21:=Tryz.isAgg21
 z21:=Tryz.sizeOf21
 v21:=Tryz.zeroValue21
 t37:=Tryz.underlying25
 a37:=Tryz.isAgg25
 z37:=Tryz.sizeOf25
 v37:=Tryz.zeroValue25
 t46:=Tryz.underlying257
 a46:=Tryz.isAgg257
 z46:=Tryz.sizeOf257
 v46:=Tryz.zeroValue257
 t51:=Tryz.underlying148
 a51:=Tryz.isAgg148
 z51:=Tryz.sizeOf148
 v51:=Tryz.zeroValue148
 t53:=Tryz.underlying175
 a53:=Tryz.isAgg175
 z53:=Tryz.sizeOf175
 v53:=Tryz.zeroValue175
 t75:=Tryz.underlying153
 a75:=Tryz.isAgg153
 z75:=Tryz.sizeOf153
 v75:=Tryz.zeroValue153
 t76:=Tryz.underlying156
 a76:=Tryz.isAgg156
 z76:=Tryz.sizeOf156
 v76:=Tryz.zeroValue156
 t85:=Tryz.underlying272
 a85:=Tryz.isAgg272
 z85:=Tryz.sizeOf272
 v85:=Tryz.zeroValue272
 t127:=Tryz.underlying186
 a127:=Tryz.isAgg186
 z127:=Tryz.sizeOf186
 v127:=Tryz.zeroValue186
 t143:=Tryz.underlying279
 a143:=Tryz.isAgg279
 z143:=Tryz.sizeOf279
 v143:=Tryz.zeroValue279
 t145:=Tryz.underlying281
 a145:=Tryz.isAgg281
 z145:=Tryz.sizeOf281
 v145:=Tryz.zeroValue281
 t167:=Tryz.underlying266
 a167:=Tryz.isAgg266
 z167:=Tryz.sizeOf266
 v167:=Tryz.zeroValue266
 t168:=Tryz.underlying268
 a168:=Tryz.isAgg268
 z168:=Tryz.sizeOf268
 v168:=Tryz.zeroValue268
 t171:=Tryz.underlying246
 a171:=Tryz.isAgg246
 z171:=Tryz.sizeOf246
 v171:=Tryz.zeroValue246
 t173:=Tryz.underlying249
 a173:=Tryz.isAgg249
 z173:=Tryz.sizeOf249
 v173:=Tryz.zeroValue249
 t175:=Tryz.underlying244
 a175:=Tryz.isAgg244
 z175:=Tryz.sizeOf244
 v175:=Tryz.zeroValue244
 t210:=Tryz.underlying275
 a210:=Tryz.isAgg275
 z210:=Tryz.sizeOf275
 v210:=Tryz.zeroValue275
 t212:=Tryz.underlying261
 a212:=Tryz.isAgg261
 z212:=Tryz.sizeOf261
 v212:=Tryz.zeroValue261
 t213:=Tryz.underlying262
 a213:=Tryz.isAgg262
 z213:=Tryz.sizeOf262
 t232:=Tryz.underlying277
 a232:=Tryz.isAgg277
 z232:=Tryz.sizeOf277
 v232:=Tryz.zeroValue277
 t233:=Tryz.underlying278
 a233:=Tryz.isAgg278
 z233:=Tryz.sizeOf278
 v233:=Tryz.zeroValue278
 g15:=by kernel_rfl
 g16:=by kernel_rfl
 g17:=by kernel_rfl
 g18:=by kernel_rfl
 g19:=by kernel_rfl }
open Go.RowKit in
theorem Tryz.strconv_Atoi (s:ByteArray) (n:Int) (hl:s.size<=18) (h:Lib.atoi s.data.toList=some n) (w:World) :
  Calls Tryz.prog 189 #[.string s] w fun e w'=>e = .returned (.tuple #[.int .i64 n,.nilIface])/\∃ t,w'=Lib.bytesWorld w 5 t:=Any.strconv_Atoi Tryz.lays172 s n hl h w
def Tryz.laysM246_ren:Go.Shelf.Ren:=⟨fun|246=>158|283=>185|284=>186|285=>187|286=>188|129=>204|317=>203|318=>205|319=>206|320=>207|337=>219|338=>220|n=>n,fun|2=>2|3=>3|9=>9|4=>4|171=>246|0=>0|53=>175|37=>25|5=>5|173=>249|212=>261|51=>148|20=>20|213=>262|46=>257|232=>277|233=>278|n=>n,fun|17=>1|18=>4|19=>5|n=>n⟩
def Tryz.laysM243_ren:Go.Shelf.Ren:=⟨fun|243=>124|246=>158|283=>185|284=>186|285=>187|286=>188|129=>204|317=>203|318=>205|319=>206|320=>207|337=>219|338=>220|n=>n,fun|3=>3|9=>9|2=>2|4=>4|171=>246|0=>0|53=>175|37=>25|5=>5|173=>249|212=>261|51=>148|20=>20|213=>262|46=>257|232=>277|233=>278|n=>n,fun|17=>1|18=>4|19=>5|n=>n⟩
def Tryz.laysM171_ren:Go.Shelf.Ren:=⟨fun|171=>91|243=>124|246=>158|283=>185|284=>186|285=>187|286=>188|129=>204|317=>203|318=>205|319=>206|320=>207|337=>219|338=>220|n=>n,fun|3=>3|9=>9|2=>2|4=>4|171=>246|0=>0|53=>175|37=>25|5=>5|173=>249|212=>261|51=>148|20=>20|213=>262|46=>257|232=>277|233=>278|n=>n,fun|17=>1|18=>4|19=>5|n=>n⟩
theorem Tryz.laysM171:Go.Proofs.LaysM.n171 Tryz.prog Tryz.laysM171_ren:={
 mixed:=by kernel_rfl
 f129:=Tryz.func204.trans (congrArg some (by kernel_rfl))
 f171:=Tryz.func91.trans (congrArg some (by kernel_rfl))
 f243:=Tryz.func124.trans (congrArg some (by kernel_rfl))
 f246:=Tryz.func158.trans (congrArg some (by kernel_rfl))
 f283:=Tryz.func185.trans (congrArg some (by kernel_rfl))
 f284:=Tryz.func186.trans (congrArg some (by kernel_rfl))
 f285:=Tryz.func187.trans (congrArg some (by kernel_rfl))
 f286:=Tryz.func188.trans (congrArg some (by kernel_rfl))
 f317:=Tryz.func203.trans (congrArg some (by kernel_rfl))
 f318:=Tryz.func205.trans (congrArg some (by kernel_rfl))
 f319:=Tryz.func206.trans (congrArg some (by kernel_rfl))
 f320:=Tryz.func207.trans (congrArg some (by kernel_rfl))
 f337:=Tryz.func219.trans (congrArg some (by kernel_rfl))
 f338:=Tryz.func220.trans (congrArg some (by kernel_rfl))
 t0:=Tryz.underlying0
 a0:=Tryz.isAgg0
 z0:=Tryz.sizeOf0
 v0:=Tryz.zeroValue0
 t2:=Tryz.underlying2
 a2:=Tryz.isAgg2
 z2:=Tryz.sizeOf2
 v2:=Tryz.zeroValue2
 t3:=Tryz.underlying3
 a3:=Tryz.isAgg3
 z3:=Tryz.sizeOf3
 v3:=Tryz.zeroValue3
 t4:=Tryz.underlying4
 a4:=Tryz.isAgg4
 z4:=Tryz.sizeOf4
 v4:=Tryz.zeroValue4
 t5:=Tryz.underlying5
 a5:=Tryz.isAgg5
 z5:=Tryz.sizeOf5
 v5:=Tryz.zeroValue5
 t9:=Tryz.underlying9
 a9:=Tryz.isAgg9
 z9:=Tryz.sizeOf9
 v9:=Tryz.zeroValue9
 t20:=Tryz.underlying20
 a20:=Tryz.isAgg20
 z20:=Tryz.sizeOf20
 v20:=Tryz.zeroValue20
 t37:=Tryz.underlying25
 a37:=Tryz.isAgg25
 z37:=Tryz.sizeOf25
 v37:=Tryz.zeroValue25
 t46:=Tryz.underlying257
 a46:=Tryz.isAgg257
 z46:=Tryz.sizeOf257
 v46:=Tryz.zeroValue257
 t51:=Tryz.underlying148
 a51:=Tryz.isAgg148
 z51:=Tryz.sizeOf148
 v51:=Tryz.zeroValue148
 t53:=Tryz.underlying175
 a53:=Tryz.isAgg175
 z53:=Tryz.sizeOf175
 v53:=Tryz.zeroValue175
 t171:=Tryz.underlying246
 a171:=Tryz.isAgg246
 z171:=Tryz.sizeOf246
 v171:=Tryz.zeroValue246
 t173:=Tryz.underlying249
 a173:=Tryz.isAgg249
 z173:=Tryz.sizeOf249
 v173:=Tryz.zeroValue249
 t212:=Tryz.underlying261
 a212:=Tryz.isAgg261
 z212:=Tryz.sizeOf261
 v212:=Tryz.zeroValue261
 t213:=Tryz.underlying262
 a213:=Tryz.isAgg262
 z213:=Tryz.sizeOf262
 t232:=Tryz.underlying277
 a232:=Tryz.isAgg277
 z232:=Tryz.sizeOf277
 v232:=Tryz.zeroValue277
 t233:=Tryz.underlying278
 a233:=Tryz.isAgg278
 z233:=Tryz.sizeOf278
 v233:=Tryz.zeroValue278
 g17:=by kernel_rfl
 g18:=by kernel_rfl
 g19:=by kernel_rfl
 i0:=by kernel_rfl
 i2:=by kernel_rfl
 i3:=by kernel_rfl
 i4:=by kernel_rfl
 i5:=by kernel_rfl
 i9:=by kernel_rfl
 i20:=by kernel_rfl
 i37:=by kernel_rfl
 i46:=by kernel_rfl
 i51:=by kernel_rfl
 i53:=by kernel_rfl
 i171:=by kernel_rfl
 i173:=by kernel_rfl
 i212:=by kernel_rfl
 i232:=by kernel_rfl
 i233:=by kernel_rfl
 m17:=by kernel_rfl
 m18:=by kernel_rfl
 m19:=by kernel_rfl }
open Go.RowKit Go.Sort Go.Lib in
theorem Tryz.strconv_Itoa (n:Int) (h0 : -9223372036854775808<=n) (h1:n<=9223372036854775807) (w:World) (htab:Lib.TabIs Tryz.prog w "internal/strconv.uint64pow10" .u64 Lib.pow10Tab) :
  Calls Tryz.prog 91 #[.int .i64 n] w fun e w'=>e = .returned (.string ⟨(Lib.itoa n).toArray⟩)/\∃ k os,w'=grow (w.drewN k) os:=Any.strconv_Itoa Tryz.laysM171 n h0 h1 w htab
def Tryz.laysPu14_ren:Go.Shelf.Ren:=⟨fun|14=>184|16=>201|17=>202|19=>213|20=>214|21=>215|22=>216|23=>217|24=>218|25=>222|27=>91|26=>223|28=>124|29=>158|30=>185|31=>186|32=>187|33=>188|35=>204|34=>203|36=>205|37=>206|38=>207|39=>219|40=>220|n=>n,fun|9=>9|3=>3|22=>175|24=>153|25=>244|4=>4|34=>266|5=>5|36=>257|37=>25|0=>0|39=>268|21=>21|44=>275|47=>186|50=>281|48=>279|2=>2|52=>246|55=>249|59=>261|60=>148|20=>20|61=>262|65=>277|66=>278|67=>119|n=>n,fun|0=>2|1=>3|2=>1|3=>4|4=>5|n=>n⟩
theorem Tryz.laysPu14:Go.Proofs.LaysPu.n14 Tryz.prog Tryz.laysPu14_ren:={
 mixed:=by kernel_rfl
 f14:=Tryz.func184.trans (congrArg some (by kernel_rfl))
 f16:=Tryz.func201.trans (congrArg some (by kernel_rfl))
 f17:=Tryz.func202.trans (congrArg some (by kernel_rfl))
 f19:=Tryz.func213.trans (congrArg some (by kernel_rfl))
 f20:=Tryz.func214.trans (congrArg some (by kernel_rfl))
 f21:=Tryz.func215.trans (congrArg some (by kernel_rfl))
 f22:=Tryz.func216.trans (congrArg some (by kernel_rfl))
 f23:=Tryz.func217.trans (congrArg some (by kernel_rfl))
 f24:=Tryz.func218.trans (congrArg some (by kernel_rfl))
 f25:=Tryz.func222.trans (congrArg some (by kernel_rfl))
 f26:=Tryz.func223.trans (congrArg some (by kernel_rfl))
 f27:=Tryz.func91.trans (congrArg some (by kernel_rfl))
 f28:=Tryz.func124.trans (congrArg some (by kernel_rfl))
 f29:=Tryz.func158.trans (congrArg some (by kernel_rfl))
 f30:=Tryz.func185.trans (congrArg some (by kernel_rfl))
 f31:=Tryz.func186.trans (congrArg some (by kernel_rfl))
 f32:=Tryz.func187.trans (congrArg some (by kernel_rfl))
 f33:=Tryz.func188.trans (congrArg some (by kernel_rfl))
 f34:=Tryz.func203.trans (congrArg some (by kernel_rfl))
 f35:=Tryz.func204.trans (congrArg some (by kernel_rfl))
 f36:=Tryz.func205.trans (congrArg some (by kernel_rfl))
 f37:=Tryz.func206.trans (congrArg some (by kernel_rfl))
 f38:=Tryz.func207.trans (congrArg some (by kernel_rfl))
 f39:=Tryz.func219.trans (congrArg some (by kernel_rfl))
 f40:=Tryz.func220.trans (congrArg some (by kernel_rfl))
 t0:=Tryz.underlying0
 a0:=Tryz.isAgg0
 z0:=Tryz.sizeOf0
 v0:=Tryz.zeroValue0
 i0:=by kernel_rfl
 t2:=Tryz.underlying2
 a2:=Tryz.isAgg2
 z2:=Tryz.sizeOf2
 v2:=Tryz.zeroValue2
 i2:=by kernel_rfl
 t3:=Tryz.underlying3
 a3:=Tryz.isAgg3
 z3:=Tryz.sizeOf3
 v3:=Tryz.zeroValue3
 i3:=by kernel_rfl
 t4:=Tryz.underlying4
 a4:=Tryz.isAgg4
 z4:=Tryz.sizeOf4
 v4:=Tryz.zeroValue4
 i4:=by kernel_rfl
 t5:=Tryz.underlying5
 a5:=Tryz.isAgg5
 z5:=Tryz.sizeOf5
 v5:=Tryz.zeroValue5
 i5:=by kernel_rfl
 t9:=Tryz.underlying9
 a9:=Tryz.isAgg9
 z9:=Tryz.sizeOf9
 v9:=Tryz.zeroValue9
 i9:=by kernel_rfl
 t20:=Tryz.underlying20
 a20:=Tryz.isAgg20
 z20:=Tryz.sizeOf20
 v20:=Tryz.zeroValue20
 i20:=by kernel_rfl
 t21:=Tryz.underlying21
 a21:=Tryz.isAgg21
 z21:=Tryz.sizeOf21
 v21:=Tryz.zeroValue21
 i21:=by kernel_rfl
 t22:=Tryz.underlying175
 a22:=Tryz.isAgg175
 z22:=Tryz.sizeOf175
 v22:=Tryz.zeroValue175
 i22:=by kernel_rfl
 t24:=Tryz.underlying153
 a24:=Tryz.isAgg153
 z24:=Tryz.sizeOf153
 v24:=Tryz.zeroValue153
 i24:=by kernel_rfl
 t25:=Tryz.underlying244
 a25:=Tryz.isAgg244
 z25:=Tryz.sizeOf244
 v25:=Tryz.zeroValue244
 i25:=by kernel_rfl
 t34:=Tryz.underlying266
 a34:=Tryz.isAgg266
 z34:=Tryz.sizeOf266
 v34:=Tryz.zeroValue266
 i34:=by kernel_rfl
 c34:=by kernel_rfl
 t36:=Tryz.underlying257
 a36:=Tryz.isAgg257
 z36:=Tryz.sizeOf257
 v36:=Tryz.zeroValue257
 i36:=by kernel_rfl
 t37:=Tryz.underlying25
 a37:=Tryz.isAgg25
 z37:=Tryz.sizeOf25
 v37:=Tryz.zeroValue25
 i37:=by kernel_rfl
 t39:=Tryz.underlying268
 a39:=Tryz.isAgg268
 z39:=Tryz.sizeOf268
 v39:=Tryz.zeroValue268
 i39:=by kernel_rfl
 t44:=Tryz.underlying275
 a44:=Tryz.isAgg275
 z44:=Tryz.sizeOf275
 v44:=Tryz.zeroValue275
 i44:=by kernel_rfl
 t47:=Tryz.underlying186
 a47:=Tryz.isAgg186
 z47:=Tryz.sizeOf186
 v47:=Tryz.zeroValue186
 i47:=by kernel_rfl
 t48:=Tryz.underlying279
 a48:=Tryz.isAgg279
 z48:=Tryz.sizeOf279
 v48:=Tryz.zeroValue279
 i48:=by kernel_rfl
 t50:=Tryz.underlying281
 a50:=Tryz.isAgg281
 z50:=Tryz.sizeOf281
 v50:=Tryz.zeroValue281
 i50:=by kernel_rfl
 t52:=Tryz.underlying246
 a52:=Tryz.isAgg246
 z52:=Tryz.sizeOf246
 v52:=Tryz.zeroValue246
 i52:=by kernel_rfl
 t55:=Tryz.underlying249
 a55:=Tryz.isAgg249
 z55:=Tryz.sizeOf249
 v55:=Tryz.zeroValue249
 i55:=by kernel_rfl
 t59:=Tryz.underlying261
 a59:=Tryz.isAgg261
 z59:=Tryz.sizeOf261
 v59:=Tryz.zeroValue261
 i59:=by kernel_rfl
 t60:=Tryz.underlying148
 a60:=Tryz.isAgg148
 z60:=Tryz.sizeOf148
 v60:=Tryz.zeroValue148
 i60:=by kernel_rfl
 t61:=Tryz.underlying262
 a61:=Tryz.isAgg262
 z61:=Tryz.sizeOf262
 t65:=Tryz.underlying277
 a65:=Tryz.isAgg277
 z65:=Tryz.sizeOf277
 v65:=Tryz.zeroValue277
 i65:=by kernel_rfl
 t66:=Tryz.underlying278
 a66:=Tryz.isAgg278
 z66:=Tryz.sizeOf278
 v66:=Tryz.zeroValue278
 i66:=by kernel_rfl
 t67:=Tryz.underlying119
 a67:=Tryz.isAgg119
 z67:=Tryz.sizeOf119
 v67:=Tryz.zeroValue119
 i67:=by kernel_rfl
 g0:=by kernel_rfl
 m0:=by kernel_rfl
 g1:=by kernel_rfl
 m1:=by kernel_rfl
 g2:=by kernel_rfl
 m2:=by kernel_rfl
 g3:=by kernel_rfl
 m3:=by kernel_rfl
 g4:=by kernel_rfl
 m4:=by kernel_rfl }
open Go.RowKit in
theorem Tryz.strconv_ParseUint_10_at32_ok (s:ByteArray) (hmax:s.size<=9223372036854775806) (u:Nat) (h:Lib.parseUintB 32 s.data.toList = .ok u) (w:World) :
  Calls Tryz.prog 184 #[.string s,.int .i64 10,.int .i64 32] w fun e w'=>e = .returned (.tuple #[.int .u64 u,.nilIface])/\(w'=w\/w'=Lib.bytesWorld w 5 s):=Any.strconv_ParseUint_10_at32_ok Tryz.laysPu14 s hmax u h w
def Tryz.lays219_ren:Go.Shelf.Ren:=⟨fun|219=>182|217=>196|225=>197|224=>198|267=>199|266=>211|314=>212|n=>n,fun|9=>9|3=>3|4=>4|5=>5|46=>257|146=>264|51=>148|n=>n,fun|1=>0|n=>n⟩
theorem Tryz.lays219:Go.Proofs.Lays.n219 Tryz.prog Tryz.lays219_ren:={
 mixed:=by kernel_rfl
 f217:=Tryz.func196.trans (congrArg some (by kernel_rfl))
 f219:=Tryz.func182.trans (congrArg some (by kernel_rfl))
 f224:=Tryz.func198.trans (congrArg some (by kernel_rfl))
 f225:=Tryz.func197.trans (congrArg some (by kernel_rfl))
 f266:=Tryz.func211.trans (congrArg some (by kernel_rfl))
 f267:=Tryz.func199.trans (congrArg some (by kernel_rfl))
 f314:=Tryz.func212.trans (congrArg some (by kernel_rfl))
 t3:=Tryz.underlying3
 a3:=Tryz.isAgg3
 z3:=Tryz.sizeOf3
 v3:=Tryz.zeroValue3
 t4:=Tryz.underlying4
 a4:=Tryz.isAgg4
 z4:=Tryz.sizeOf4
 v4:=Tryz.zeroValue4
 t5:=Tryz.underlying5
 a5:=Tryz.isAgg5
 z5:=Tryz.sizeOf5
 v5:=Tryz.zeroValue5
 t9:=Tryz.underlying9
 a9:=Tryz.isAgg9
 z9:=Tryz.sizeOf9
 v9:=Tryz.zeroValue9
 t46:=Tryz.underlying257
 a46:=Tryz.isAgg257
 z46:=Tryz.sizeOf257
 v46:=Tryz.zeroValue257
 t51:=Tryz.underlying148
 a51:=Tryz.isAgg148
 z51:=Tryz.sizeOf148
 v51:=Tryz.zeroValue148
 t146:=Tryz.underlying264
 a146:=Tryz.isAgg264
 z146:=Tryz.sizeOf264
 v146:=Tryz.zeroValue264
 g1:=by kernel_rfl }
open Go.RowKit Go.Lib in
theorem Tryz.stringslite_Index_one (s:ByteArray) (c:UInt8) (w:World) :
  Calls Tryz.prog 182 #[.string s,.string ⟨#[c]⟩] w fun e w'=>e = .returned (.int .i64 (Lib.indexByte s.data.toList c))/\w'=w:=Any.stringslite_Index_one Tryz.lays219 s c w
def Tryz.lays206_ren:Go.Shelf.Ren:=⟨fun|206=>200|n=>n,fun|9=>9|4=>4|3=>3|n=>n,fun|n=>n⟩
def Tryz.lays101_ren:Go.Shelf.Ren:=⟨fun|101=>150|208=>183|206=>200|n=>n,fun|9=>9|4=>4|3=>3|n=>n,fun|n=>n⟩
theorem Tryz.lays101:Go.Proofs.Lays.n101 Tryz.prog Tryz.lays101_ren:={
 mixed:=by kernel_rfl
 f101:=Tryz.func150.trans (congrArg some (by kernel_rfl))
 f206:=Tryz.func200.trans (congrArg some (by kernel_rfl))
 f208:=Tryz.func183.trans (congrArg some (by kernel_rfl))
 t3:=Tryz.underlying3
 a3:=Tryz.isAgg3
 z3:=Tryz.sizeOf3
 v3:=Tryz.zeroValue3
 t4:=Tryz.underlying4
 a4:=Tryz.isAgg4
 z4:=Tryz.sizeOf4
 v4:=Tryz.zeroValue4
 t9:=Tryz.underlying9
 a9:=Tryz.isAgg9
 z9:=Tryz.sizeOf9
 v9:=Tryz.zeroValue9 }
open Go.RowKit Go.Lib in
theorem Tryz.strings_TrimPrefix (s p:ByteArray) (w:World) :
  Calls Tryz.prog 150 #[.string s,.string p] w fun e w'=>e = .returned (.string ⟨(Lib.trimPrefix s.data.toList p.data.toList).toArray⟩)/\w'=w:=Any.strings_TrimPrefix Tryz.lays101 s p w
end Go.Proofs
namespace Go.Proofs.YtjagmmmcibdibaaGreatDoor
open Go.RowKit
def S6 (s:ByteArray) (k:Int):Array Value := #[.string s,.int .i64 k,.func (.func 190) #[.agg #[.int .u8 97,.int .u8 122]] #[],.func (.func 190) #[.agg #[.int .u8 48,.int .u8 57]] #[],.func (.func 190) #[.agg #[.int .u8 95,.int .u8 95]] #[]]
def Kl (w:World) (b:Nat) (s:ByteArray) (k:Int):Prop:=w.heap[b]? = some (.cells (S6 s k) 232 (0,0))
theorem Dd {w:World} {b:Nat} {C:Array Value} {t:TypeId} {fr:Nat×Nat} (h:w.heap[b]? = some (.cells C t fr)) (i:Nat):w.cell? ⟨b,i,none⟩=C[i]? := by
 simp [World.cell?,h]
theorem Fp {w:World} {b:Nat} {C:Array Value} {t:TypeId} (h:w.heap[b]? = some (.cells C t (0,0))) (i:Nat):w.frozen? ⟨b,i,none⟩=false:=by
 simp [World.frozen?,h]
theorem B6 {w:World} {b:Nat} {o:Obj} (h:w.heap[b]? = some o):b<w.heap.size:=by
 rcases Nat.lt_or_ge b w.heap.size with h1|h1
 ·exact h1
 ·rw [Array.getElem?_eq_none h1] at h;cases h
theorem Kl.cells {w:World} {b:Nat} {s:ByteArray} {k:Int} (h:Kl w b s k) :
  w.cell? ⟨b,0,none⟩=some (.string s)/\w.cell? ⟨b,1,none⟩=some (.int .i64 k)/\w.frozen? ⟨b,1,none⟩=false :=
 ⟨Dd h 0,Dd h 1,Fp h 1⟩
theorem Kl.tests {w:World} {b:Nat} {s:ByteArray} {k:Int} (h:Kl w b s k) :
  w.cell? ⟨b,2,none⟩=some (.func (.func 190) #[.agg #[.int .u8 97,.int .u8 122]] #[])/\w.cell? ⟨b,3,none⟩=some (.func (.func 190) #[.agg #[.int .u8 48,.int .u8 57]] #[])/\w.cell? ⟨b,4,none⟩=some (.func (.func 190) #[.agg #[.int .u8 95,.int .u8 95]] #[]) :=
 ⟨Dd h 2,Dd h 3,Dd h 4⟩
theorem Kl.below {W w1:World} {b:Nat} {s:ByteArray} {k:Int} (hb:Below W.heap.size W w1) (h:Kl W b s k):Kl w1 b s k:=(hb.block b (B6 h)).trans h
theorem Kl.set {w:World} {b:Nat} {s:ByteArray} {k:Int} (h:Kl w b s k) (k':Int):Kl (w.setCell ⟨b,1,none⟩ (.int .i64 k')) b s k':=by
 have h':=h
 unfold Kl at h h' |-
 simp only [World.setCell,Array.getElem?_modify,h',if_true,Option.map_some]
 rfl
theorem Hf {a w w1:World} {b:Nat} (h:a.grownBy w (some b)) (hb:Below w.heap.size w w1):a.grownBy w1 (some b) :=
 ⟨hb.os.trans h.os,hb.tape.trans h.tape,hb.output.trans h.output,Nat.le_trans h.size hb.size,fun i hi hn=>(hb.block i (Nat.lt_of_lt_of_le hi h.size)).trans (h.block i hi hn)⟩
theorem Jo {a w:World} {b:Nat} (h:a.grownBy w (some b)) (o:Nat) (u:Value):a.grownBy (w.setCell ⟨b,o,none⟩ u) (some b) :=
 ⟨h.os,h.tape,h.output,by simpa [World.setCell] using h.size,fun i hi hne=>(Below.heap_setCell w ⟨b,o,none⟩ u i (by rintro rfl;exact hne rfl)).trans (h.block i hi hne)⟩
theorem Ahd (w:World) (r:Option Nat):w.grownBy w r:=World.grownBy.refl w _
def Ac6 (w:World) (b:Nat):Nat:=match w.cell? ⟨b,1,none⟩ with|some (.int _ n)=>n.toNat|_=>0
theorem Sz {w:World} {b:Nat} {s:ByteArray} {k:Nat} (h:Kl w b s k):Ac6 w b=k:=by
 unfold Ac6;rw [h.cells.2.1];simp
set_option maxHeartbeats 1000000 in
theorem Aht (b:Nat) (s:ByteArray) (k:Int) (c:UInt8) (w:World) (hR:Kl w b s k) :
  Calls Tryz.prog 192 #[.pointer (some ⟨b,0,none⟩),.int .u8 (c.toNat:Int)] w fun e w'=>e = .returned (.bool (Dh c))/\Below w.heap.size w w':=by
 obtain ⟨t0,t1,t2⟩:=hR.tests
 have hcase:(97<=(c.toNat:Int)/\(c.toNat:Int)<=122)\/((c.toNat:Int)<97\/122<(c.toNat:Int)):=by omega
 have hcase2:(48<=(c.toNat:Int)/\(c.toNat:Int)<=57)\/((c.toNat:Int)<48\/57<(c.toNat:Int)):=by omega
 have hcase3:(95<=(c.toNat:Int)/\(c.toNat:Int)<=95)\/((c.toNat:Int)<95\/95<(c.toNat:Int)):=by omega
 have hlt:=B6 hR
 rcases hcase with hc|hc
 ·have HF:Hid (Dh c=true):=Lib.hid (by simp [Dh,Mh hc])
  go_enter Tryz.func192,Tryz.ntmps192
  go_wp2_with (go_at_call 190;refine (Gu _ _ _ _ (by omega)).mono ?_;rintro e w1 ⟨rfl,hb1⟩)
  go_ret
  exact ⟨By HF.out.symm,hb1⟩
 ·rcases hcase2 with hd|hd
  ·have HF:Hid (Dh c=true):=Lib.hid (by simp [Dh,Ol hd])
   go_enter Tryz.func192,Tryz.ntmps192
   go_wp2_with fail
   refine (G9 _ _ _ _ (by omega)).mono ?_
   rintro e w1 ⟨rfl,hb1⟩
   have u1:=Bc hb1 t1
   go_wp2_with fail
   refine (Gu _ _ _ _ (by omega)).mono ?_
   rintro e w2 ⟨rfl,hb2⟩
   go_wp2
   go_ret
   exact ⟨By HF.out.symm,hb1.trans (hb2.mono hb1.size)⟩
  ·rcases hcase3 with hu|hu
   ·have HF:Hid (Dh c=true):=Lib.hid (by simp [Dh,Xf hu])
    go_enter Tryz.func192,Tryz.ntmps192
    go_wp2_with fail
    refine (G9 _ _ _ _ (by omega)).mono ?_
    rintro e w1 ⟨rfl,hb1⟩
    have u1:=Bc hb1 t1
    have u2:=Bc hb1 t2
    go_wp2_with fail
    refine (G9 _ _ _ _ (by omega)).mono ?_
    rintro e w2 ⟨rfl,hb2⟩
    have v2:=Bc hb2 u2
    go_wp2_with fail
    refine (Gu _ _ _ _ (by omega)).mono ?_
    rintro e w3 ⟨rfl,hb3⟩
    go_wp2
    go_ret
    have h2:=hb1.trans (hb2.mono hb1.size)
    exact ⟨By HF.out.symm,h2.trans (hb3.mono h2.size)⟩
   ·have HF:Hid (Dh c=false):=Lib.hid (by simp [Dh,Kf hc,Mc hd,Rh hu])
    go_enter Tryz.func192,Tryz.ntmps192
    go_wp2_with fail
    refine (G9 _ _ _ _ (by omega)).mono ?_
    rintro e w1 ⟨rfl,hb1⟩
    have u1:=Bc hb1 t1
    have u2:=Bc hb1 t2
    go_wp2_with fail
    refine (G9 _ _ _ _ (by omega)).mono ?_
    rintro e w2 ⟨rfl,hb2⟩
    have v2:=Bc hb2 u2
    go_wp2_with fail
    refine (G9 _ _ _ _ (by omega)).mono ?_
    rintro e w3 ⟨rfl,hb3⟩
    go_wp2
    go_ret
    have h2:=hb1.trans (hb2.mono hb1.size)
    exact ⟨By HF.out.symm,h2.trans (hb3.mono h2.size)⟩
theorem X1 {a b:UInt8} (h:a≠b):((a.toNat:Int)==(b.toNat:Int))=false:=by rw [byte_beq];exact beq_eq_false_iff_ne.2 h
theorem skip_end {l:List UInt8} {k:Nat} (h:l.length<=k):A5 false (l.drop k)=l.drop k:=by
 rw [List.drop_eq_nil_of_le h];rfl
theorem Li {w:World} {b:Nat} {s:ByteArray} {k:Int} (h:Kl w b s k) (n:Int):Ac6 (w.setCell ⟨b,1,none⟩ (.int .i64 n)) b=n.toNat:=by
 unfold Ac6;rw [(h.set n).cells.2.1]
theorem index_nl (s:ByteArray) (k:Nat) (j:Int) (w:World) (hj:Lib.indexByte (s.data.toList.drop k) 10=j) :
  Calls Tryz.prog 191 #[.string (s.extract k s.size),.int .u8 10] w fun e w'=>e = .returned (.int .i64 j)/\Below w.heap.size w w' :=
 (Tryz.strings_IndexByte (s.extract k s.size) 10 w).mono fun e w' ⟨he,hw⟩=>⟨by rw [he,Lib.extract_to_end,<- hj];rfl,by rw [hw];exact Below.refl _ _⟩
def SkipPost (b:Nat) (s:ByteArray) (k:Nat) (w:World) (e:Ending) (w':World):Prop :=
 e = .returned (.tuple #[])/\Kl w' b s (Nl s.data.toList k)/\w.grownBy w' (some b)
def Aee (b:Nat) (s:ByteArray) (k:Nat) (w:World) (wr:World):Prop :=
 ∃ k':Nat,k<=k'/\k'<=s.size/\Kl wr b s k'/\A5 false (s.data.toList.drop k')=A5 false (s.data.toList.drop k)/\w.grownBy wr (some b)
set_option maxRecDepth 100000 in
set_option maxHeartbeats 4000000 in
theorem Abp (b:Nat) (s:ByteArray) (k:Nat) (w:World) (hs:s.size<=1000000) (hk:k<=s.size) (hR:Kl w b s k) :
  Calls Tryz.prog 170 #[.pointer (some ⟨b,0,none⟩)] w (SkipPost b s k w):=by
 have hstart:Aee b s k w w:=⟨k,Nat.le_refl _,hk,hR,rfl,Ahd _ _⟩
 have HS:=Lib.hid hstart
 clear hR hk hstart
 go_enter Tryz.func170,Tryz.ntmps170
 go_wp2
 go_loopw [2] (fun _ wr=>Aee b s k w wr) (fun _ wr=>s.size-Ac6 wr b)
 case atStart=>exact HS.out
 case round =>
  clear HS
  obtain ⟨k',hk1,hk2,hR,hsk,hO⟩:=hrel
  have HK:=Lib.hid hsk
  have HR:=Lib.hid hR
  have HP:=Lib.hid (Sz hR)
  have c0:∀ x:Later wr,x.world.cell? ⟨b,0,none⟩=some (.string s):=Bj hR.cells.1
  have c1:∀ x:Later wr,x.world.cell? ⟨b,1,none⟩=some (.int .i64 (k':Int)):=Bj hR.cells.2.1
  clear hsk hR
  by_cases hlt:k'<s.size
  ·go_wp2_with fail
   refine Au (by kernel_rfl) (by kernel_rfl) ?_
   repeat (go_big_quiet_step (fail))
   refine wpQuiet_nil ?_
   intro w1 hb1
   have HR1:=Lib.hid (HR.out.below hb1)
   clear c0 c1
   have d0:∀ x:Later w1,x.world.cell? ⟨b,0,none⟩=some (.string s):=Bj HR1.out.cells.1
   have d1:∀ x:Later w1,x.world.cell? ⟨b,1,none⟩=some (.int .i64 (k':Int)):=Bj HR1.out.cells.2.1
   go_wp2_with fail
   refine Au (by kernel_rfl) (by kernel_rfl) ?_
   repeat (go_big_quiet_step (fail))
   refine wpQuiet_nil ?_
   intro w2 hb2
   have HR2:=Lib.hid (HR1.out.below hb2)
   have HO2:Hid (w.grownBy w2 (some b)):=Lib.hid (Hf (Hf hO hb1) hb2)
   clear d0 d1 HR HR1 hb1 hb2 hO
   have e0:=HR2.out.cells.1
   have e1:=HR2.out.cells.2.1
   have e2:=HR2.out.cells.2.2
   have hl:k'<s.data.toList.length:=by simpa using hlt
   have g1:(k':Int)+1<=9223372036854775807:=by omega
   by_cases h32:s[k']=32
   ·have f1:((s[k'].toNat:Int)==32)=true:=by rw [h32];rfl
    have HN:Hid (A5 false (s.data.toList.drop (k'+1))=A5 false (s.data.toList.drop k)):=Lib.hid ((Q9 hl (.inl h32)).symm.trans HK.out)
    clear h32
    go_wp2
    go_roundw
    case rel=>exact ⟨k'+1,by omega,by omega,HR2.out.set _,HN.out,Jo HO2.out _ _⟩
    case measure=>rw [Li HR2.out,HP.out];omega
   ·have f1:((s[k'].toNat:Int)==32)=false:=X1 h32
    by_cases h10:s[k']=10
    ·have f2:((s[k'].toNat:Int)==10)=true:=by rw [h10];rfl
     have HN:Hid (A5 false (s.data.toList.drop (k'+1))=A5 false (s.data.toList.drop k)):=Lib.hid ((Q9 hl (.inr h10)).symm.trans HK.out)
     clear h32 h10
     go_wp2
     go_roundw
     case rel=>exact ⟨k'+1,by omega,by omega,HR2.out.set _,HN.out,Jo HO2.out _ _⟩
     case measure=>rw [Li HR2.out,HP.out];omega
    ·have f2:((s[k'].toNat:Int)==10)=false:=X1 h10
     by_cases h35:s[k']=35
     ·have f3:((s[k'].toNat:Int)==35)=true:=by rw [h35];rfl
      have HC:=Lib.hid h35
      clear h32 h10 h35
      obtain ⟨j,hj⟩:∃ j,Lib.indexByte (s.data.toList.drop k') 10=j:=⟨_,rfl⟩
      have HJ:=Lib.hid hj
      clear hj
      have d0:∀ x:Later w2,x.world.cell? ⟨b,0,none⟩=some (.string s):=Bj HR2.out.cells.1
      have d1:∀ x:Later w2,x.world.cell? ⟨b,1,none⟩=some (.int .i64 (k':Int)):=Bj HR2.out.cells.2.1
      go_wp2_with fail
      refine Au (by kernel_rfl) (by kernel_rfl) ?_
      repeat (go_big_quiet_step ((go_at_call 191;exact Calls.later_of (index_nl _ _ _ _ HJ.out))))
      refine wpQuiet_nil ?_
      intro w3 hb3
      have HR3:=Lib.hid (HR2.out.below hb3)
      have HO3:Hid (w.grownBy w3 (some b)):=Lib.hid (Hf HO2.out hb3)
      clear d0 d1 e0 e1 e2 HO2 hb3
      by_cases hneg:j<0
      ·have HN:Hid (A5 false (s.data.toList.drop s.size)=A5 false (s.data.toList.drop k)):=Lib.hid (by
        have h:=Mp hl HC.out (R6 (by rw [HJ.out];exact hneg))
        have e:s.data.toList.length=s.size:=by simp
        rw [e] at h
        exact h.symm.trans HK.out)
       have d0:∀ x:Later w3,x.world.cell? ⟨b,0,none⟩=some (.string s):=Bj HR3.out.cells.1
       have d1:∀ x:Later w3,x.world.cell? ⟨b,1,none⟩=some (.int .i64 (k':Int)):=Bj HR3.out.cells.2.1
       go_wp2_with fail
       refine Au (by kernel_rfl) (by kernel_rfl) ?_
       repeat (go_big_quiet_step (fail))
       refine wpQuiet_nil ?_
       intro w4 hb4
       have HR4:=Lib.hid (HR3.out.below hb4)
       have HO4:Hid (w.grownBy w4 (some b)):=Lib.hid (Hf HO3.out hb4)
       clear d0 d1 hb4 HO3 HR3 HR2
       have e0:=HR4.out.cells.1
       have e1:=HR4.out.cells.2.1
       have e2:=HR4.out.cells.2.2
       have hz:(k':Int)+((s.size:Int)-(k':Int))=s.size:=by omega
       go_wp2
       go_roundw
       case rel=>exact ⟨s.size,by omega,by omega,HR4.out.set _,HN.out,Jo HO4.out _ _⟩
       case measure=>rw [Li HR4.out,HP.out];omega
      ·have hx:=Mq hl HC.out (by rw [HJ.out];exact hneg)
       obtain ⟨jn,hj1,hj2,hj3,hj4⟩:=hx
       have HN:=Lib.hid (hj4.symm.trans HK.out)
       have hj5:s.data.toList.length=s.size:=by simp
       rw [hj5] at hj3
       have HE:Hid (j=jn):=Lib.hid (HJ.out.symm.trans hj1)
       have hb1:(k':Int)+j<s.size:=by have:=HE.out;omega
       have hb2:0<j:=by have:=HE.out;omega
       have HT:Hid ((k':Int)+j=((k'+jn:Nat):Int)):=Lib.hid (by have:=HE.out;omega)
       clear hj1 hj4 hj5 HJ
       have e0:=HR3.out.cells.1
       have e1:=HR3.out.cells.2.1
       have e2:=HR3.out.cells.2.2
       go_wp2
       go_roundw
       case rel=>exact ⟨k'+jn,by omega,by omega,by rw [HT.out];exact HR3.out.set _,HN.out,Jo HO3.out _ _⟩
       case measure=>rw [Li HR3.out,HP.out];omega
     ·have f3:((s[k'].toNat:Int)==35)=false:=X1 h35
      have HN:Hid (Nl s.data.toList k=k'):=Lib.hid (Abo HK.out (Adk hl h32 h10 h35) (by omega))
      clear h32 h10 h35
      go_wp2
      go_end0
      exact ⟨rfl,by rw [HN.out];exact HR2.out,HO2.out⟩
  ·have HN:Hid (Nl s.data.toList k=k'):=Lib.hid (Abo HK.out (skip_end (by simp;omega)) (by simp;omega))
   go_wp2_with fail
   refine Au (by kernel_rfl) (by kernel_rfl) ?_
   repeat (go_big_quiet_step (fail))
   refine wpQuiet_nil ?_
   intro w1 hb1
   go_wp2
   go_end0
   exact ⟨rfl,by rw [HN.out];exact HR.out.below hb1,Hf hO hb1⟩
structure Tok where
 kind:Int
 text:List UInt8
 pos:Nat
deriving DecidableEq
def Dr (n:Nat):Nat->List UInt8->List Tok->List Tok×Nat×Int
 |0,_,acc=>(acc,0,0)
 |f+1,l,acc =>
  if A5 false l=[] then (acc,0,0)
  else if Cx (Eo (A5 false l)).1 (Eo (A5 false l)).2=false then ([],n-(A5 false l).length,340)
  else if acc.length=2000 then ([],n-(A5 false l).length,3)
  else Dr n f ((A5 false l).drop (Eo (A5 false l)).2.length) (acc++[⟨(Eo (A5 false l)).1,(Eo (A5 false l)).2,n-(A5 false l).length⟩])
def Gz (l:List UInt8):List Tok×Nat×Int:=if 20000<l.length then ([],0,3) else Dr l.length (l.length+1) l []
theorem Mo (b:Bool) (l:List UInt8):A5 false (A5 b l)=A5 b l:=by
 induction l generalizing b with
 |nil=>cases b<;>simp [A5]
 |cons c t ih =>
  cases b
  ·simp only [A5]
   split
   ·exact ih false
   ·split
    ·exact ih true
    ·rename_i h1 h2
     simp [A5,h1,h2]
  ·simp only [A5]
   split
   ·exact ih false
   ·exact ih true
theorem Q7 (n f:Nat) (l:List UInt8) (acc:List Tok):Dr n (f+1) (A5 false l) acc=Dr n (f+1) l acc:=by
 simp only [Dr,Mo]
theorem Ah7 {kd:Int} {tx:List UInt8} (h:Cx kd tx=true):tx≠[]:=by
 rintro rfl
 unfold Cx at h
 split at h
 ·simp [Kg,Nn] at h
 ·split at h
  ·revert h;decide
  ·split at h
   ·revert h;decide
   ·split at h
    ·revert h;decide
    ·cases h
theorem Aif {n f:Nat} {l:List UInt8} {acc:List Tok} (hs:A5 false l=l) (hl:l≠[]) (h:Cx (Eo l).1 (Eo l).2=false):Dr n (f+1) l acc=([],n-l.length,340):=by
 rw [Dr,hs,if_neg hl,if_pos h]
theorem Ade {n f:Nat} {l:List UInt8} {acc:List Tok} (hs:A5 false l=l) (hl:l≠[]) (h:Cx (Eo l).1 (Eo l).2=true) (ha:acc.length=2000):Dr n (f+1) l acc=([],n-l.length,3):=by
 rw [Dr,hs,if_neg hl,if_neg (by rw [h];simp),if_pos ha]
theorem Adf {n f:Nat} {l:List UInt8} {acc:List Tok} (hs:A5 false l=l) (hl:l≠[]) (h:Cx (Eo l).1 (Eo l).2=true) (ha:acc.length≠2000) :
  Dr n (f+1) l acc=Dr n f (l.drop (Eo l).2.length) (acc++[⟨(Eo l).1,(Eo l).2,n-l.length⟩]):=by
 rw [Dr,hs,if_neg hl,if_neg (by rw [h];simp),if_neg ha]
theorem Aig {n f:Nat} {acc:List Tok}:Dr n (f+1) [] acc=(acc,0,0):=by
 rw [Dr];simp [A5]
def Cr (l:List UInt8):ByteArray:=⟨l.toArray⟩
theorem Ui (s:ByteArray):Cr s.data.toList=s:=by
 apply ByteArray.ext;simp [Cr]
theorem Vt (l:List UInt8):(Cr l).data.toList=l:=by simp [Cr]
theorem Ack {s:ByteArray} {l:List UInt8} (h:s.data.toList=l):s=Cr l:=by rw [<- h,Ui]
def Tok.cells (t:Tok):List Value:=[.int .i64 t.kind,.string (Cr t.text),.int .i64 (t.pos:Int)]
def Tok.val (t:Tok):Value := .agg #[.int .i64 t.kind,.string (Cr t.text),.int .i64 (t.pos:Int)]
def El (l:List Tok):List Value:=l.flatMap Tok.cells
theorem Ts (l:List Tok) (t:Tok):El (l++[t])=El l++t.cells:=by simp [El]
theorem Afb {s:ByteArray} {k e:Nat} (h:e<s.size) (hk:k<=e) {h':e-k<(s.data.toList.drop k).length}:(s.data.toList.drop k)[e-k]=s[e]:=by
 rw [List.getElem_drop]
 simp only [show k+(e-k)=e from by omega]
 rfl
def Dj (w:World) (t:Nat) (kd:Int) (tx:ByteArray) (k:Int):Prop:=w.heap[t]? = some (.cells #[.int .i64 kd,.string tx,.int .i64 k] 141 (0,0))
theorem Dj.cells {w:World} {t:Nat} {kd k:Int} {tx:ByteArray} (h:Dj w t kd tx k) :
  w.cell? ⟨t,0,none⟩=some (.int .i64 kd)/\w.cell? ⟨t,1,none⟩=some (.string tx)/\w.cell? ⟨t,2,none⟩=some (.int .i64 k) :=
 ⟨Dd h 0,Dd h 1,Dd h 2⟩
theorem Dj.free {w:World} {t:Nat} {kd k:Int} {tx:ByteArray} (h:Dj w t kd tx k) :
  w.frozen? ⟨t,0,none⟩=false/\w.frozen? ⟨t,1,none⟩=false/\w.frozen? ⟨t,2,none⟩=false :=
 ⟨Fp h 0,Fp h 1,Fp h 2⟩
theorem Dj.below {W w1:World} {t:Nat} {kd k:Int} {tx:ByteArray} (hb:Below W.heap.size W w1) (h:Dj W t kd tx k):Dj w1 t kd tx k:=(hb.block t (B6 h)).trans h
theorem Tt (w:World) (kd:Int) (tx:ByteArray) (k:Int):Dj (w.alloc (.cells #[.int .i64 kd,.string tx,.int .i64 k] 141)) w.heap.size kd tx k:=heap_alloc_new w _
theorem Qt (c:UInt8) (w:World):Calls Tryz.prog 190 #[.agg #[.int .u8 97,.int .u8 122],.int .u8 (c.toNat:Int)] w fun e w'=>e = .returned (.bool (D1 c))/\Below w.heap.size w w' :=
 (R4 97 122 _ w).mono fun e w' ⟨he,hw⟩=>⟨he,by rw [<- hw];exact (Below.refl _ _).alloc (Nat.le_refl _) _⟩
theorem Vh (c:UInt8) (w:World):Calls Tryz.prog 190 #[.agg #[.int .u8 48,.int .u8 57],.int .u8 (c.toNat:Int)] w fun e w'=>e = .returned (.bool (Gb c))/\Below w.heap.size w w' :=
 (R4 48 57 _ w).mono fun e w' ⟨he,hw⟩=>⟨he,by rw [<- hw];exact (Below.refl _ _).alloc (Nat.le_refl _) _⟩
theorem Dj.set0 {w:World} {t:Nat} {kd k:Int} {tx:ByteArray} (h:Dj w t kd tx k) (kd':Int):Dj (w.setCell ⟨t,0,none⟩ (.int .i64 kd')) t kd' tx k:=by
 have h':=h
 unfold Dj at h h' |-
 simp only [World.setCell,Array.getElem?_modify,h',if_true,Option.map_some]
 rfl
theorem Dj.set1 {w:World} {t:Nat} {kd k:Int} {tx:ByteArray} (h:Dj w t kd tx k) (tx':ByteArray):Dj (w.setCell ⟨t,1,none⟩ (.string tx')) t kd tx' k:=by
 have h':=h
 unfold Dj at h h' |-
 simp only [World.setCell,Array.getElem?_modify,h',if_true,Option.map_some]
 rfl
theorem L5 {P:Program} {c:Code} {Q:Exit->Act->World->Prop} {a:Act} {W:World} (F:World->Prop) (h:F W) (k:∀ w',F w'->c.wp P Q a w'):c.wp P Q a W:=k W h
theorem Fy (w:World) (j:Nat) (h:j<23):(w.alloc (.cells Fd 9)).drew.cell? ⟨w.heap.size,j,none⟩=some (.string (C0.getD j ByteArray.empty)):=Kk w j h
theorem Fq (w:World) (j:Nat) (h:j<21):(w.alloc (.cells Fa 9)).drew.cell? ⟨w.heap.size,j,none⟩=some (.string (Dn.getD j ByteArray.empty)):=Pi w j h
theorem H1 {s:ByteArray} {k:Nat} (hk:k<s.size) (h:D1 s[k]=true) :
  Eo (s.data.toList.drop k)=(if T6 Em ((s.data.toList.drop k).takeWhile Dh) then 2 else 1,(s.data.toList.drop k).takeWhile Dh):=by
 have hh:(s.data.toList.drop k).head? = some s[k]:=by rw [List.head?_drop,List.getElem?_eq_getElem (by simpa using hk)];rfl
 rw [Eo,hh,if_pos (by simpa using h)]
theorem Q2 {s:ByteArray} {k:Nat} (hk:k<s.size) (h:D1 s[k]=false) (h2:Gb s[k]=true) :
  Eo (s.data.toList.drop k)=(3,(s.data.toList.drop k).takeWhile Dh):=by
 have hh:(s.data.toList.drop k).head? = some s[k]:=by rw [List.head?_drop,List.getElem?_eq_getElem (by simpa using hk)];rfl
 rw [Eo,hh,if_neg (by simp [h]),if_pos (by simpa using h2)]
theorem V8 {s:ByteArray} {k:Nat} (hk:k<s.size) (h:D1 s[k]=false) (h2:Gb s[k]=false) :
  Eo (s.data.toList.drop k)=(4,if T6 Ek ((s.data.toList.drop k).take 2) then (s.data.toList.drop k).take 2 else (s.data.toList.drop k).take 1):=by
 have hh:(s.data.toList.drop k).head? = some s[k]:=by rw [List.head?_drop,List.getElem?_eq_getElem (by simpa using hk)];rfl
 rw [Eo,hh,if_neg (by simp [h]),if_neg (by simp [h2])]
theorem On {s:ByteArray} {k:Nat} (hk:k<s.size):(s.extract k (min ((k:Int)+2) s.size).toNat).data.toList=(s.data.toList.drop k).take 2:=by
 rw [Df]
 show (s.data.toList.drop k).take _=_
 rcases Nat.lt_or_ge s.size (k+2) with h|h
 ·rw [List.take_of_length_le (by simp;omega),List.take_of_length_le (by simp;omega)]
 ·rw [show (min ((k:Int)+2) s.size).toNat-k=2 from by omega]
theorem Abw {s x:ByteArray} {k:Nat} (hk:k<s.size) (h:x.data.toList=(s.data.toList.drop k).take 2):1<=x.size:=by
 have h1:x.data.toList.length=x.size:=by simp
 rw [h] at h1
 simp at h1
 omega
theorem Sm {s tx:ByteArray} {k:Nat} (h:tx.data.toList=(Eo (s.data.toList.drop k)).2):tx.size<=s.size-k:=by
 have h1:tx.data.toList.length=tx.size:=by simp
 have h2:(Eo (s.data.toList.drop k)).2.length<=(s.data.toList.drop k).length:=by
  have h3:((s.data.toList.drop k).takeWhile Dh).length<=(s.data.toList.drop k).length:=(List.takeWhile_sublist _).length_le
  have h4:∀ n,((s.data.toList.drop k).take n).length<=(s.data.toList.drop k).length:=fun n=>List.length_take_le' _ _
  unfold Eo
  split
  ·exact h3
  ·split
   ·exact h3
   ·split
    ·exact h4 2
    ·exact h4 1
 rw [<- h,h1] at h2
 simpa using h2
def CutRel (s:ByteArray) (k:Nat) (w1 w':World):Prop :=
 ∃ tx:ByteArray,Dj w' w1.heap.size (Eo (s.data.toList.drop k)).1 tx k/\tx.data.toList=(Eo (s.data.toList.drop k)).2/\Below w1.heap.size w1 w'
def NextPost (b:Nat) (s:ByteArray) (k:Nat) (w:World) (e:Ending) (w':World):Prop :=
 (Cx (Eo (s.data.toList.drop k)).1 (Eo (s.data.toList.drop k)).2=true/\∃ tx:ByteArray,tx.data.toList=(Eo (s.data.toList.drop k)).2 /\
  e = .returned (.agg #[.int .i64 (Eo (s.data.toList.drop k)).1,.string tx,.int .i64 k])/\Kl w' b s ((k:Int)+(Eo (s.data.toList.drop k)).2.length)/\w.grownBy w' (some b)) \/
 (Cx (Eo (s.data.toList.drop k)).1 (Eo (s.data.toList.drop k)).2=false/\e = .panicked [{ v := .iface 196 (.agg #[.int .i64 k]),recovered:=false }]/\w.grownBy w' (some b))
theorem Kl.far {w:World} {b t:Nat} {s:ByteArray} {k:Int} (h:Kl w b s k) (hne:¬ b=t) (o:Nat) (u:Value):Kl (w.setCell ⟨t,o,none⟩ u) b s k:=(Below.heap_setCell w ⟨t,o,none⟩ u b hne).trans h
theorem Dj.far {w:World} {b t:Nat} {kd k:Int} {tx:ByteArray} (h:Dj w b kd tx k) (hne:¬ b=t) (o:Nat) (u:Value):Dj (w.setCell ⟨t,o,none⟩ u) b kd tx k:=(Below.heap_setCell w ⟨t,o,none⟩ u b hne).trans h
theorem Dj.set2 {w:World} {t:Nat} {kd k:Int} {tx:ByteArray} (h:Dj w t kd tx k) (k':Int):Dj (w.setCell ⟨t,2,none⟩ (.int .i64 k')) t kd tx k':=by
 have h':=h
 unfold Dj at h h' |-
 simp only [World.setCell,Array.getElem?_modify,h',if_true,Option.map_some]
 rfl
theorem N1 {w w1:World} (h:Below w.heap.size w w1) (b:Nat):w.grownBy w1 (some b):=⟨h.os,h.tape,h.output,h.size,fun i hi _=>h.block i hi⟩
theorem Jn {a w:World} {b t:Nat} (h:a.grownBy w (some b)) (ht:a.heap.size<=t) (o:Nat) (u:Value):a.grownBy (w.setCell ⟨t,o,none⟩ u) (some b) :=
 ⟨h.os,h.tape,h.output,by simpa [World.setCell] using h.size,fun i hi hne=>(Below.heap_setCell w ⟨t,o,none⟩ u i (by intro e;simp at e;omega)).trans (h.block i hi hne)⟩
theorem Wa {a w:World} {row:Option Nat} (h:a.grownBy w row):a.grownBy w.drew row:=⟨h.os,h.tape,h.output,h.size,h.block⟩
theorem Hp {w w1:World} {o:Obj} (h:Below (w.alloc o).heap.size (w.alloc o) w1):Below w.heap.size w w1 :=
 ((Below.refl w.heap.size w).alloc (Nat.le_refl _) o).trans (h.mono (by simp))
theorem Np {w w1:World} {o:Obj} (h:Below (w.alloc o).heap.size (w.alloc o) w1):w.heap.size<=w1.heap.size:=by have:=h.size;simp at this;omega
theorem Wz (s:ByteArray):(s.size:Int)=(s.data.toList.length:Int):=by simp
def NextRel (s:ByteArray) (k:Nat) (w1:World) (e:Value) (wr:World):Prop :=
 ∃ e':Nat,k<=e'/\e'<=s.size/\e = .int .i64 e'/\((s.data.toList.drop k).take (e'-k)).all Dh=true/\Below w1.heap.size w1 wr
set_option maxRecDepth 100000 in
set_option maxHeartbeats 4000000 in
theorem next_any (b:Nat) (s:ByteArray) (k:Nat) (w:World) (hs:s.size<=1000000) (hk:k<s.size) (hR:Kl w b s k) :
  Calls Tryz.prog 171 #[.pointer (some ⟨b,0,none⟩)] w (NextPost b s k w):=by
 have hlb:=B6 hR
 have HR:=Lib.hid hR
 have e0:=hR.cells.1
 have e1:=hR.cells.2.1
 clear hR
 go_enter Tryz.func171,Tryz.ntmps171
 go_wp2
 have HR1:Hid (Kl (w.alloc (.cells #[.int .i64 0,.string ⟨#[]⟩,.int .i64 0] 141)) b s k):=Lib.hid (HR.out.below ((Below.refl _ _).alloc (Nat.le_refl _) _))
 clear e0 e1
 go_loopw [3] (fun e wr=>NextRel s k (w.alloc (.cells #[.int .i64 0,.string ⟨#[]⟩,.int .i64 0] 141)) e wr) (fun e _=>s.size-(intOf e).toNat)
 case atStart=>exact ⟨k,Nat.le_refl _,by omega,rfl,by simp,Below.refl _ _⟩
 case round =>
  obtain ⟨e,he1,he2,rfl,hall,hB⟩:=hrel
  have HRr:=Lib.hid (HR1.out.below hB)
  have HA:=Lib.hid hall
  have HB:=Lib.hid hB
  have hBs:=hB.size
  have e0:=HRr.out.cells.1
  have e1:=HRr.out.cells.2.1
  have ht:=HRr.out.tests
  have HT:=Lib.hid ht
  clear hall hB ht HR1 HR
  by_cases hmore:∃ h:e<s.size,Dh s[e]=true
  ·obtain ⟨hlt,hp⟩:=hmore
   have HP:=Lib.hid hp
   go_wp2_with (go_at_call 192;refine (Aht _ _ _ _ _ HRr.out).mono ?_;rintro e' w1 ⟨rfl,hb1⟩)
   go_roundw
   case rel =>
    refine ⟨e+1,by omega,by omega,by go_num,?_,HB.out.trans (hb1.mono hBs)⟩
    rw [show e+1-k=(e-k)+1 from by omega]
    exact Pv (by simp;omega) HA.out (by rw [Afb hlt he1];exact HP.out)
   case measure=>simp [intOf];omega
  ·have HW:Hid ((s.data.toList.drop k).takeWhile Dh=(s.data.toList.drop k).take (e-k)):=Lib.hid (Xa (by simp;omega) HA.out (fun h'=>by
    have hlt:e<s.size:=by simp at h';omega
    have:Dh s[e]=false:=by
     cases hp:Dh s[e]
     ·rfl
     ·exact absurd ⟨hlt,hp⟩ hmore
    rw [Afb hlt he1];exact this))
   clear HT
   by_cases hlt:e<s.size
   ·have hp:Dh s[e]=false:=by
     cases hp:Dh s[e]
     ·rfl
     ·exact absurd ⟨hlt,hp⟩ hmore
    clear hmore
    go_wp2_with fail
    refine (Aht _ _ _ _ _ HRr.out).mono ?_
    rintro e' w1 ⟨rfl,hb1⟩
    have hrr:=HRr.out.below hb1
    have hbb:=HB.out.trans (hb1.mono hBs)
    clear HRr HB e0 e1 hb1
    have HRr:=Lib.hid hrr
    have HB:=Lib.hid hbb
    have e0:=hrr.cells.1
    have e1:=hrr.cells.2.1
    clear hrr hbb
    go_wp2_with fail
    have HT:=Lib.hid (Tt w1 4 ⟨#[]⟩ k)
    have HR2:=Lib.hid (HRr.out.below ((Below.refl _ _).alloc (Nat.le_refl _) (.cells #[.int .i64 4,.string ⟨#[]⟩,.int .i64 (k:Int)] 141)))
    obtain ⟨w2,hw2⟩:∃ x,x=w1.alloc (.cells #[.int .i64 4,.string ⟨#[]⟩,.int .i64 (k:Int)] 141):=⟨_,rfl⟩
    rw [<- hw2] at HT HR2 |-
    have HB2:Hid (Below w1.heap.size w1 w2):=Lib.hid (by rw [hw2];exact (Below.refl _ _).alloc (Nat.le_refl _) _)
    clear hw2 e0 e1
    have d0:∀ x:Later w2,x.world.cell? ⟨b,0,none⟩=some (.string s):=Bj HR2.out.cells.1
    have d1:∀ x:Later w2,x.world.cell? ⟨b,1,none⟩=some (.int .i64 (k:Int)):=Bj HR2.out.cells.2.1
    go_wp2_with fail
    refine Au (by kernel_rfl) (by kernel_rfl) ?_
    repeat (go_big_quiet_step (fail))
    refine wpQuiet_nil ?_
    intro w3 hb3
    have HR3:=Lib.hid (HR2.out.below hb3)
    have HT3:=Lib.hid (HT.out.below hb3)
    have HB3:=Lib.hid (HB2.out.trans (hb3.mono HB2.out.size))
    clear d0 d1 hb3
    go_upto_block 2 with (fail)
    go_cut [] (fun w'=>CutRel s k w1 w')
    case first =>
     have e0:=HR3.out.cells.1
     have e1:=HR3.out.cells.2.1
     have t0:=HR3.out.tests.1
     go_upto_if 83 with (go_at_call 190;refine (Qt _ _).mono ?_;rintro e' w4 ⟨rfl,hb4⟩)
     have HR4:=Lib.hid (HR3.out.below hb4)
     have HT4:=Lib.hid (HT3.out.below hb4)
     have HB4:=Lib.hid (HB3.out.trans (hb4.mono HB3.out.size))
     clear e0 e1 t0 hb4
     cases hlet:D1 s[k]
     ·have t1:=HR4.out.tests.2.1
      go_upto_if 110 with (go_at_call 190;refine (Vh _ _).mono ?_;rintro e' w5 ⟨rfl,hb5⟩)
      have HR5:=Lib.hid (HR4.out.below hb5)
      have HT5:=Lib.hid (HT4.out.below hb5)
      have HB5:=Lib.hid (HB4.out.trans (hb5.mono HB4.out.size))
      clear t1 hb5 HR4 HT4 HB4
      have d0:=HR5.out.cells.1
      have d1:=HR5.out.cells.2.1
      have d2:=HT5.out.free
      have d3:=HT5.out.cells
      have hbT:=B6 HRr.out
      have hne:¬ b=w1.heap.size:=by omega
      cases hdig:Gb s[k]
      ·have HS:Hid (Eo (s.data.toList.drop k)=(4,if T6 Ek ((s.data.toList.drop k).take 2) then (s.data.toList.drop k).take 2 else (s.data.toList.drop k).take 1)):=Lib.hid (V8 hk hlet hdig)
       clear hlet
       go_wp2_with fail
       go_region
       go_wp2_with fail
       refine L5 (F:=fun w'=>∃ x:ByteArray,x.data.toList=(s.data.toList.drop k).take 2/\Dj w' w1.heap.size 4 x k/\Below w1.heap.size w1 w') ⟨s.extract k (min ((k:Int)+2) s.size).toNat,On hk,HT5.out.set1 _,(HB5.out.setCell (p:=⟨w1.heap.size,1,none⟩) (Nat.le_refl _) _).drew⟩ ?_
       rintro w6 ⟨x,hx,hT6,hB6⟩
       have HX:=Lib.hid hx
       have HT6:=Lib.hid hT6
       have HB6:=Lib.hid hB6
       have c1:=hT6.cells.2.1
       have c2:=B6 hT6
       have hx1:1<=x.size:=Abw hk hx
       clear hx hT6 hB6 d0 d1 d2 d3 HT5 HB5
       cases hm:T5 Dn x
       ·have HO:Hid (Eo (s.data.toList.drop k)=(4,(x.extract 0 1).data.toList)):=Lib.hid (by
         rw [HS.out,<- HX.out,<- Hb,hm,Df,HX.out];simp [List.take_take])
        have c3:=HT6.out.free.2.1
        go_region_held3 (fun w'=>w'.cell? ⟨w1.heap.size,1,none⟩=some (.string x)) (go_keep) (first|(go_at_call 156;refine (Iz _).mono ?_;rintro e w' ⟨rfl,rfl⟩)|(go_at_call 41;refine (Bz _ 21 _ Dn _ _ rfl (by omega) (Fq _)).mono ?_;rintro e w' ⟨rfl,rfl⟩))
        go_wp2_with fail
        go_meet
        case rel =>
         have hT7:=HT6.out.set1 (x.extract 0 1)
         have hB7:=HB6.out.setCell (p:=⟨w1.heap.size,1,none⟩) (Nat.le_refl _) (.string (x.extract 0 1))
         have hb7:=((Below.refl (w6.setCell ⟨w1.heap.size,1,none⟩ (.string (x.extract 0 1))).heap.size (w6.setCell ⟨w1.heap.size,1,none⟩ (.string (x.extract 0 1)))).alloc (Nat.le_refl _) (.cells Fa 9)).drew
         exact ⟨x.extract 0 1,by rw [HO.out];exact hT7.below hb7,by rw [HO.out],hB7.trans (hb7.mono hB7.size)⟩
       ·have HO:Hid (Eo (s.data.toList.drop k)=(4,x.data.toList)):=Lib.hid (by
         rw [HS.out,<- HX.out,<- Hb,hm];rfl)
        go_region_held3 (fun w'=>w'.cell? ⟨w1.heap.size,1,none⟩=some (.string x)) (go_keep) (first|(go_at_call 156;refine (Iz _).mono ?_;rintro e w' ⟨rfl,rfl⟩)|(go_at_call 41;refine (Bz _ 21 _ Dn _ _ rfl (by omega) (Fq _)).mono ?_;rintro e w' ⟨rfl,rfl⟩))
        go_wp2_with fail
        go_meet
        case rel =>
         have hb7:Below w6.heap.size w6 (w6.alloc (.cells Fa 9)).drew:=((Below.refl _ _).alloc (Nat.le_refl _) _).drew
         exact ⟨x,by rw [HO.out];exact HT6.out.below hb7,by rw [HO.out],HB6.out.trans (hb7.mono HB6.out.size)⟩
      ·have HO:Hid (Eo (s.data.toList.drop k)=(3,(s.extract k e).data.toList)):=Lib.hid (by rw [Q2 hk hlet hdig,Df,<- HW.out])
       clear hlet
       go_wp2_with fail
       go_region
       go_wp2_with fail
       go_meet
       case rel =>
        exact ⟨s.extract k e,by rw [HO.out];exact (HT5.out.set0 3).set1 (s.extract k e),by rw [HO.out],((HB5.out.setCell (p:=⟨w1.heap.size,0,none⟩) (Nat.le_refl _) _).setCell (p:=⟨w1.heap.size,1,none⟩) (Nat.le_refl _) _).drew⟩
     ·have d0:=HR4.out.cells.1
      have d1:=HR4.out.cells.2.1
      have d2:=HT4.out.free
      have d3:=HT4.out.cells
      have hbT:=B6 HRr.out
      have hne:¬ b=w1.heap.size:=by omega
      go_wp2_with fail
      go_region
      go_wp2_with fail
      refine L5 (F:=fun w'=>Dj w' w1.heap.size 1 (s.extract k e) k/\Below w1.heap.size w1 w') ⟨(HT4.out.set0 1).set1 (s.extract k e),((HB4.out.setCell (p:=⟨w1.heap.size,0,none⟩) (Nat.le_refl _) _).setCell (p:=⟨w1.heap.size,1,none⟩) (Nat.le_refl _) _).drew⟩ ?_
      rintro w5 ⟨hT5,hB5⟩
      have HT5:=Lib.hid hT5
      have HB5:=Lib.hid hB5
      have c1:=hT5.cells.2.1
      have c2:=B6 hT5
      clear hT5 hB5 d0 d1 d2 d3 HT4 HB4
      have HX:Hid ((s.extract k e).data.toList=(s.data.toList.drop k).takeWhile Dh):=Lib.hid (by rw [HW.out,Df])
      cases hm:T5 C0 (s.extract k e)
      ·have HO:Hid (Eo (s.data.toList.drop k)=(1,(s.extract k e).data.toList)):=Lib.hid (by rw [H1 hk hlet,HX.out,<- HX.out,<- F6,hm];rfl)
       clear hlet
       go_region_held3 (fun w'=>w'.cell? ⟨w1.heap.size,1,none⟩=some (.string (s.extract k e))) (go_keep) (first|(go_at_call 154;refine (Hn _).mono ?_;rintro e w' ⟨rfl,rfl⟩)|(go_at_call 41;refine (Bz _ 23 _ C0 _ _ rfl (by omega) (Fy _)).mono ?_;rintro e w' ⟨rfl,rfl⟩))
       go_wp2_with fail
       go_meet
       case rel =>
        have hb5:Below w5.heap.size w5 (w5.alloc (.cells Fd 9)).drew:=((Below.refl _ _).alloc (Nat.le_refl _) _).drew
        exact ⟨s.extract k e,by rw [HO.out];exact HT5.out.below hb5,by rw [HO.out],HB5.out.trans (hb5.mono HB5.out.size)⟩
      ·have HO:Hid (Eo (s.data.toList.drop k)=(2,(s.extract k e).data.toList)):=Lib.hid (by rw [H1 hk hlet,HX.out,<- HX.out,<- F6,hm];rfl)
       clear hlet
       have c0:=HT5.out.cells.1
       have c3:=HT5.out.free.1
       go_region_held3 (fun w'=>w'.cell? ⟨w1.heap.size,1,none⟩=some (.string (s.extract k e))) (go_keep) (first|(go_at_call 154;refine (Hn _).mono ?_;rintro e w' ⟨rfl,rfl⟩)|(go_at_call 41;refine (Bz _ 23 _ C0 _ _ rfl (by omega) (Fy _)).mono ?_;rintro e w' ⟨rfl,rfl⟩))
       go_wp2_with fail
       go_meet
       case rel =>
        have hT6:=HT5.out.set0 2
        have hB6:=HB5.out.setCell (p:=⟨w1.heap.size,0,none⟩) (Nat.le_refl _) (.int .i64 2)
        have hb6:=((Below.refl (w5.setCell ⟨w1.heap.size,0,none⟩ (.int .i64 2)).heap.size (w5.setCell ⟨w1.heap.size,0,none⟩ (.int .i64 2))).alloc (Nat.le_refl _) (.cells Fd 9)).drew
        exact ⟨s.extract k e,by rw [HO.out];exact hT6.below hb6,by rw [HO.out],hB6.trans (hb6.mono hB6.size)⟩
    case rest =>
     obtain ⟨tx,hTc,htx,hBc⟩:=hcut
     have HTc:=Lib.hid hTc
     have HBc:=Lib.hid hBc
     have HX:=Lib.hid htx
     have HRc:=Lib.hid (HRr.out.below hBc)
     have HZ1:Hid (Dj w1 w.heap.size 0 ⟨#[]⟩ 0):=Lib.hid ((Tt w 0 ⟨#[]⟩ 0).below HB.out)
     have HZ:=Lib.hid (HZ1.out.below hBc)
     have hbT:=B6 HRr.out
     have hZT:=B6 HZ1.out
     have htl:tx.size<=s.size-k:=Sm htx
     obtain ⟨kd,hkd⟩:∃ kd,kd=(Eo (s.data.toList.drop k)).1:=⟨_,rfl⟩
     rw [<- hkd] at HTc
     have HKD:=Lib.hid hkd
     have d3:=HTc.out.cells
     clear hTc hBc htx hkd HR3 HT3 HB3 HR2 HT HB2
     cases hri:Cx kd tx.data.toList
     ·have HRI:Hid (Cx (Eo (s.data.toList.drop k)).1 (Eo (s.data.toList.drop k)).2=false):=Lib.hid (by rw [<- HKD.out,<- HX.out];exact hri)
      go_wp2_with fail
      refine (Hg _ _ _ (by omega)).mono ?_
      rintro e' w5 ⟨rfl,hb5⟩
      have e0:=(HRc.out.below hb5).cells.1
      have e1:=(HRc.out.below hb5).cells.2.1
      go_wp2
      exact ⟨rfl,.inr ⟨HRI.out,rfl,N1 ((Hp HB.out).trans ((HBc.out.trans (hb5.mono HBc.out.size)).mono (Np HB.out))) b⟩⟩
     ·have HRI:Hid (Cx (Eo (s.data.toList.drop k)).1 (Eo (s.data.toList.drop k)).2=true):=Lib.hid (by rw [<- HKD.out,<- HX.out];exact hri)
      go_wp2_with fail
      refine (Hg _ _ _ (by omega)).mono ?_
      rintro e' w5 ⟨rfl,hb5⟩
      have HR5:=Lib.hid (HRc.out.below hb5)
      have HT5:=Lib.hid (HTc.out.below hb5)
      have HZ5:=Lib.hid (HZ.out.below hb5)
      have HB5:=Lib.hid (HBc.out.trans (hb5.mono HBc.out.size))
      clear d3 hb5
      have e0:=HR5.out.cells
      have d3:=HT5.out.cells
      have hne:¬ b=w1.heap.size:=by omega
      have hne2:¬ b=w.heap.size:=by omega
      have hne3:¬ w1.heap.size=w.heap.size:=by omega
      have hsum:(k:Int)+tx.size<=1000000:=by omega
      have z0:=HZ5.out.cells
      have z1:=HZ5.out.free
      go_wp2_with fail
      go_region
      go_wp2
      have HN:Hid (Kl (((((w5.setCell ⟨b,1,none⟩ (.int .i64 ((k:Int)+(tx.size:Int)))).setCell ⟨w.heap.size,0,none⟩ (.int .i64 kd)).setCell ⟨w.heap.size,1,none⟩ (.string tx)).setCell ⟨w.heap.size,2,none⟩ (.int .i64 (k:Int))).drew) b s ((k:Int)+(tx.size:Int))):=Lib.hid ((((HR5.out.set _).far hne2 _ _).far hne2 _ _).far hne2 _ _)
      have HE:Hid (Dj (((((w5.setCell ⟨b,1,none⟩ (.int .i64 ((k:Int)+(tx.size:Int)))).setCell ⟨w.heap.size,0,none⟩ (.int .i64 kd)).setCell ⟨w.heap.size,1,none⟩ (.string tx)).setCell ⟨w.heap.size,2,none⟩ (.int .i64 (k:Int))).drew) w.heap.size kd tx k):=Lib.hid ((((HZ5.out.far (fun h=>hne2 h.symm) _ _).set0 kd).set1 tx).set2 k)
      have HO5:Hid (w.grownBy w5 (some b)):=Lib.hid (N1 ((Hp HB.out).trans (HB5.out.mono (Np HB.out))) b)
      have HG:Hid (w.grownBy (((((w5.setCell ⟨b,1,none⟩ (.int .i64 ((k:Int)+(tx.size:Int)))).setCell ⟨w.heap.size,0,none⟩ (.int .i64 kd)).setCell ⟨w.heap.size,1,none⟩ (.string tx)).setCell ⟨w.heap.size,2,none⟩ (.int .i64 (k:Int))).drew) (some b)):=Lib.hid (Wa (Jn (Jn (Jn (Jo HO5.out _ _) (Nat.le_refl _) _ _) (Nat.le_refl _) _ _) (Nat.le_refl _) _ _))
      generalize (((((w5.setCell ⟨b,1,none⟩ (.int .i64 ((k:Int)+(tx.size:Int)))).setCell ⟨w.heap.size,0,none⟩ (.int .i64 kd)).setCell ⟨w.heap.size,1,none⟩ (.string tx)).setCell ⟨w.heap.size,2,none⟩ (.int .i64 (k:Int))).drew)=w9 at HN HE HG |-
      have q:=HE.out.cells
      exact bodyPost_ret (v := .agg #[.int .i64 kd,.string tx,.int .i64 k]) (by simp [results,Tryz.results171,go_sem,q.1,q.2.1,q.2.2]) rfl (.inl ⟨HRI.out,tx,HX.out,by rw [<- HKD.out],by rw [<- HX.out];exact (Wz tx)▸HN.out,HG.out⟩)
   ·clear hmore
    go_wp2_with fail
    obtain ⟨w1,hw1⟩:∃ x,x=wr:=⟨_,rfl⟩
    subst hw1
    have HT:=Lib.hid (Tt w1 4 ⟨#[]⟩ k)
    have HR2:=Lib.hid (HRr.out.below ((Below.refl _ _).alloc (Nat.le_refl _) (.cells #[.int .i64 4,.string ⟨#[]⟩,.int .i64 (k:Int)] 141)))
    obtain ⟨w2,hw2⟩:∃ x,x=w1.alloc (.cells #[.int .i64 4,.string ⟨#[]⟩,.int .i64 (k:Int)] 141):=⟨_,rfl⟩
    rw [<- hw2] at HT HR2 |-
    have HB2:Hid (Below w1.heap.size w1 w2):=Lib.hid (by rw [hw2];exact (Below.refl _ _).alloc (Nat.le_refl _) _)
    clear hw2 e0 e1
    have d0:∀ x:Later w2,x.world.cell? ⟨b,0,none⟩=some (.string s):=Bj HR2.out.cells.1
    have d1:∀ x:Later w2,x.world.cell? ⟨b,1,none⟩=some (.int .i64 (k:Int)):=Bj HR2.out.cells.2.1
    go_wp2_with fail
    refine Au (by kernel_rfl) (by kernel_rfl) ?_
    repeat (go_big_quiet_step (fail))
    refine wpQuiet_nil ?_
    intro w3 hb3
    have HR3:=Lib.hid (HR2.out.below hb3)
    have HT3:=Lib.hid (HT.out.below hb3)
    have HB3:=Lib.hid (HB2.out.trans (hb3.mono HB2.out.size))
    clear d0 d1 hb3
    go_upto_block 2 with (fail)
    go_cut [] (fun w'=>CutRel s k w1 w')
    case first =>
     have e0:=HR3.out.cells.1
     have e1:=HR3.out.cells.2.1
     have t0:=HR3.out.tests.1
     go_upto_if 83 with (go_at_call 190;refine (Qt _ _).mono ?_;rintro e' w4 ⟨rfl,hb4⟩)
     have HR4:=Lib.hid (HR3.out.below hb4)
     have HT4:=Lib.hid (HT3.out.below hb4)
     have HB4:=Lib.hid (HB3.out.trans (hb4.mono HB3.out.size))
     clear e0 e1 t0 hb4
     cases hlet:D1 s[k]
     ·have t1:=HR4.out.tests.2.1
      go_upto_if 110 with (go_at_call 190;refine (Vh _ _).mono ?_;rintro e' w5 ⟨rfl,hb5⟩)
      have HR5:=Lib.hid (HR4.out.below hb5)
      have HT5:=Lib.hid (HT4.out.below hb5)
      have HB5:=Lib.hid (HB4.out.trans (hb5.mono HB4.out.size))
      clear t1 hb5 HR4 HT4 HB4
      have d0:=HR5.out.cells.1
      have d1:=HR5.out.cells.2.1
      have d2:=HT5.out.free
      have d3:=HT5.out.cells
      have hbT:=B6 HRr.out
      have hne:¬ b=w1.heap.size:=by omega
      cases hdig:Gb s[k]
      ·have HS:Hid (Eo (s.data.toList.drop k)=(4,if T6 Ek ((s.data.toList.drop k).take 2) then (s.data.toList.drop k).take 2 else (s.data.toList.drop k).take 1)):=Lib.hid (V8 hk hlet hdig)
       clear hlet
       go_wp2_with fail
       go_region
       go_wp2_with fail
       refine L5 (F:=fun w'=>∃ x:ByteArray,x.data.toList=(s.data.toList.drop k).take 2/\Dj w' w1.heap.size 4 x k/\Below w1.heap.size w1 w') ⟨s.extract k (min ((k:Int)+2) s.size).toNat,On hk,HT5.out.set1 _,(HB5.out.setCell (p:=⟨w1.heap.size,1,none⟩) (Nat.le_refl _) _).drew⟩ ?_
       rintro w6 ⟨x,hx,hT6,hB6⟩
       have HX:=Lib.hid hx
       have HT6:=Lib.hid hT6
       have HB6:=Lib.hid hB6
       have c1:=hT6.cells.2.1
       have c2:=B6 hT6
       have hx1:1<=x.size:=Abw hk hx
       clear hx hT6 hB6 d0 d1 d2 d3 HT5 HB5
       cases hm:T5 Dn x
       ·have HO:Hid (Eo (s.data.toList.drop k)=(4,(x.extract 0 1).data.toList)):=Lib.hid (by
         rw [HS.out,<- HX.out,<- Hb,hm,Df,HX.out];simp [List.take_take])
        have c3:=HT6.out.free.2.1
        go_region_held3 (fun w'=>w'.cell? ⟨w1.heap.size,1,none⟩=some (.string x)) (go_keep) (first|(go_at_call 156;refine (Iz _).mono ?_;rintro e w' ⟨rfl,rfl⟩)|(go_at_call 41;refine (Bz _ 21 _ Dn _ _ rfl (by omega) (Fq _)).mono ?_;rintro e w' ⟨rfl,rfl⟩))
        go_wp2_with fail
        go_meet
        case rel =>
         have hT7:=HT6.out.set1 (x.extract 0 1)
         have hB7:=HB6.out.setCell (p:=⟨w1.heap.size,1,none⟩) (Nat.le_refl _) (.string (x.extract 0 1))
         have hb7:=((Below.refl (w6.setCell ⟨w1.heap.size,1,none⟩ (.string (x.extract 0 1))).heap.size (w6.setCell ⟨w1.heap.size,1,none⟩ (.string (x.extract 0 1)))).alloc (Nat.le_refl _) (.cells Fa 9)).drew
         exact ⟨x.extract 0 1,by rw [HO.out];exact hT7.below hb7,by rw [HO.out],hB7.trans (hb7.mono hB7.size)⟩
       ·have HO:Hid (Eo (s.data.toList.drop k)=(4,x.data.toList)):=Lib.hid (by
         rw [HS.out,<- HX.out,<- Hb,hm];rfl)
        go_region_held3 (fun w'=>w'.cell? ⟨w1.heap.size,1,none⟩=some (.string x)) (go_keep) (first|(go_at_call 156;refine (Iz _).mono ?_;rintro e w' ⟨rfl,rfl⟩)|(go_at_call 41;refine (Bz _ 21 _ Dn _ _ rfl (by omega) (Fq _)).mono ?_;rintro e w' ⟨rfl,rfl⟩))
        go_wp2_with fail
        go_meet
        case rel =>
         have hb7:Below w6.heap.size w6 (w6.alloc (.cells Fa 9)).drew:=((Below.refl _ _).alloc (Nat.le_refl _) _).drew
         exact ⟨x,by rw [HO.out];exact HT6.out.below hb7,by rw [HO.out],HB6.out.trans (hb7.mono HB6.out.size)⟩
      ·have HO:Hid (Eo (s.data.toList.drop k)=(3,(s.extract k e).data.toList)):=Lib.hid (by rw [Q2 hk hlet hdig,Df,<- HW.out])
       clear hlet
       go_wp2_with fail
       go_region
       go_wp2_with fail
       go_meet
       case rel =>
        exact ⟨s.extract k e,by rw [HO.out];exact (HT5.out.set0 3).set1 (s.extract k e),by rw [HO.out],((HB5.out.setCell (p:=⟨w1.heap.size,0,none⟩) (Nat.le_refl _) _).setCell (p:=⟨w1.heap.size,1,none⟩) (Nat.le_refl _) _).drew⟩
     ·have d0:=HR4.out.cells.1
      have d1:=HR4.out.cells.2.1
      have d2:=HT4.out.free
      have d3:=HT4.out.cells
      have hbT:=B6 HRr.out
      have hne:¬ b=w1.heap.size:=by omega
      go_wp2_with fail
      go_region
      go_wp2_with fail
      refine L5 (F:=fun w'=>Dj w' w1.heap.size 1 (s.extract k e) k/\Below w1.heap.size w1 w') ⟨(HT4.out.set0 1).set1 (s.extract k e),((HB4.out.setCell (p:=⟨w1.heap.size,0,none⟩) (Nat.le_refl _) _).setCell (p:=⟨w1.heap.size,1,none⟩) (Nat.le_refl _) _).drew⟩ ?_
      rintro w5 ⟨hT5,hB5⟩
      have HT5:=Lib.hid hT5
      have HB5:=Lib.hid hB5
      have c1:=hT5.cells.2.1
      have c2:=B6 hT5
      clear hT5 hB5 d0 d1 d2 d3 HT4 HB4
      have HX:Hid ((s.extract k e).data.toList=(s.data.toList.drop k).takeWhile Dh):=Lib.hid (by rw [HW.out,Df])
      cases hm:T5 C0 (s.extract k e)
      ·have HO:Hid (Eo (s.data.toList.drop k)=(1,(s.extract k e).data.toList)):=Lib.hid (by rw [H1 hk hlet,HX.out,<- HX.out,<- F6,hm];rfl)
       clear hlet
       go_region_held3 (fun w'=>w'.cell? ⟨w1.heap.size,1,none⟩=some (.string (s.extract k e))) (go_keep) (first|(go_at_call 154;refine (Hn _).mono ?_;rintro e w' ⟨rfl,rfl⟩)|(go_at_call 41;refine (Bz _ 23 _ C0 _ _ rfl (by omega) (Fy _)).mono ?_;rintro e w' ⟨rfl,rfl⟩))
       go_wp2_with fail
       go_meet
       case rel =>
        have hb5:Below w5.heap.size w5 (w5.alloc (.cells Fd 9)).drew:=((Below.refl _ _).alloc (Nat.le_refl _) _).drew
        exact ⟨s.extract k e,by rw [HO.out];exact HT5.out.below hb5,by rw [HO.out],HB5.out.trans (hb5.mono HB5.out.size)⟩
      ·have HO:Hid (Eo (s.data.toList.drop k)=(2,(s.extract k e).data.toList)):=Lib.hid (by rw [H1 hk hlet,HX.out,<- HX.out,<- F6,hm];rfl)
       clear hlet
       have c0:=HT5.out.cells.1
       have c3:=HT5.out.free.1
       go_region_held3 (fun w'=>w'.cell? ⟨w1.heap.size,1,none⟩=some (.string (s.extract k e))) (go_keep) (first|(go_at_call 154;refine (Hn _).mono ?_;rintro e w' ⟨rfl,rfl⟩)|(go_at_call 41;refine (Bz _ 23 _ C0 _ _ rfl (by omega) (Fy _)).mono ?_;rintro e w' ⟨rfl,rfl⟩))
       go_wp2_with fail
       go_meet
       case rel =>
        have hT6:=HT5.out.set0 2
        have hB6:=HB5.out.setCell (p:=⟨w1.heap.size,0,none⟩) (Nat.le_refl _) (.int .i64 2)
        have hb6:=((Below.refl (w5.setCell ⟨w1.heap.size,0,none⟩ (.int .i64 2)).heap.size (w5.setCell ⟨w1.heap.size,0,none⟩ (.int .i64 2))).alloc (Nat.le_refl _) (.cells Fd 9)).drew
        exact ⟨s.extract k e,by rw [HO.out];exact hT6.below hb6,by rw [HO.out],hB6.trans (hb6.mono hB6.size)⟩
    case rest =>
     obtain ⟨tx,hTc,htx,hBc⟩:=hcut
     have HTc:=Lib.hid hTc
     have HBc:=Lib.hid hBc
     have HX:=Lib.hid htx
     have HRc:=Lib.hid (HRr.out.below hBc)
     have HZ1:Hid (Dj w1 w.heap.size 0 ⟨#[]⟩ 0):=Lib.hid ((Tt w 0 ⟨#[]⟩ 0).below HB.out)
     have HZ:=Lib.hid (HZ1.out.below hBc)
     have hbT:=B6 HRr.out
     have hZT:=B6 HZ1.out
     have htl:tx.size<=s.size-k:=Sm htx
     obtain ⟨kd,hkd⟩:∃ kd,kd=(Eo (s.data.toList.drop k)).1:=⟨_,rfl⟩
     rw [<- hkd] at HTc
     have HKD:=Lib.hid hkd
     have d3:=HTc.out.cells
     clear hTc hBc htx hkd HR3 HT3 HB3 HR2 HT HB2
     cases hri:Cx kd tx.data.toList
     ·have HRI:Hid (Cx (Eo (s.data.toList.drop k)).1 (Eo (s.data.toList.drop k)).2=false):=Lib.hid (by rw [<- HKD.out,<- HX.out];exact hri)
      go_wp2_with fail
      refine (Hg _ _ _ (by omega)).mono ?_
      rintro e' w5 ⟨rfl,hb5⟩
      have e0:=(HRc.out.below hb5).cells.1
      have e1:=(HRc.out.below hb5).cells.2.1
      go_wp2
      exact ⟨rfl,.inr ⟨HRI.out,rfl,N1 ((Hp HB.out).trans ((HBc.out.trans (hb5.mono HBc.out.size)).mono (Np HB.out))) b⟩⟩
     ·have HRI:Hid (Cx (Eo (s.data.toList.drop k)).1 (Eo (s.data.toList.drop k)).2=true):=Lib.hid (by rw [<- HKD.out,<- HX.out];exact hri)
      go_wp2_with fail
      refine (Hg _ _ _ (by omega)).mono ?_
      rintro e' w5 ⟨rfl,hb5⟩
      have HR5:=Lib.hid (HRc.out.below hb5)
      have HT5:=Lib.hid (HTc.out.below hb5)
      have HZ5:=Lib.hid (HZ.out.below hb5)
      have HB5:=Lib.hid (HBc.out.trans (hb5.mono HBc.out.size))
      clear d3 hb5
      have e0:=HR5.out.cells
      have d3:=HT5.out.cells
      have hne:¬ b=w1.heap.size:=by omega
      have hne2:¬ b=w.heap.size:=by omega
      have hne3:¬ w1.heap.size=w.heap.size:=by omega
      have hsum:(k:Int)+tx.size<=1000000:=by omega
      have z0:=HZ5.out.cells
      have z1:=HZ5.out.free
      go_wp2_with fail
      go_region
      go_wp2
      have HN:Hid (Kl (((((w5.setCell ⟨b,1,none⟩ (.int .i64 ((k:Int)+(tx.size:Int)))).setCell ⟨w.heap.size,0,none⟩ (.int .i64 kd)).setCell ⟨w.heap.size,1,none⟩ (.string tx)).setCell ⟨w.heap.size,2,none⟩ (.int .i64 (k:Int))).drew) b s ((k:Int)+(tx.size:Int))):=Lib.hid ((((HR5.out.set _).far hne2 _ _).far hne2 _ _).far hne2 _ _)
      have HE:Hid (Dj (((((w5.setCell ⟨b,1,none⟩ (.int .i64 ((k:Int)+(tx.size:Int)))).setCell ⟨w.heap.size,0,none⟩ (.int .i64 kd)).setCell ⟨w.heap.size,1,none⟩ (.string tx)).setCell ⟨w.heap.size,2,none⟩ (.int .i64 (k:Int))).drew) w.heap.size kd tx k):=Lib.hid ((((HZ5.out.far (fun h=>hne2 h.symm) _ _).set0 kd).set1 tx).set2 k)
      have HO5:Hid (w.grownBy w5 (some b)):=Lib.hid (N1 ((Hp HB.out).trans (HB5.out.mono (Np HB.out))) b)
      have HG:Hid (w.grownBy (((((w5.setCell ⟨b,1,none⟩ (.int .i64 ((k:Int)+(tx.size:Int)))).setCell ⟨w.heap.size,0,none⟩ (.int .i64 kd)).setCell ⟨w.heap.size,1,none⟩ (.string tx)).setCell ⟨w.heap.size,2,none⟩ (.int .i64 (k:Int))).drew) (some b)):=Lib.hid (Wa (Jn (Jn (Jn (Jo HO5.out _ _) (Nat.le_refl _) _ _) (Nat.le_refl _) _ _) (Nat.le_refl _) _ _))
      generalize (((((w5.setCell ⟨b,1,none⟩ (.int .i64 ((k:Int)+(tx.size:Int)))).setCell ⟨w.heap.size,0,none⟩ (.int .i64 kd)).setCell ⟨w.heap.size,1,none⟩ (.string tx)).setCell ⟨w.heap.size,2,none⟩ (.int .i64 (k:Int))).drew)=w9 at HN HE HG |-
      have q:=HE.out.cells
      exact bodyPost_ret (v := .agg #[.int .i64 kd,.string tx,.int .i64 k]) (by simp [results,Tryz.results171,go_sem,q.1,q.2.1,q.2.2]) rfl (.inl ⟨HRI.out,tx,HX.out,by rw [<- HKD.out],by rw [<- HX.out];exact (Wz tx)▸HN.out,HG.out⟩)
attribute [local go_sem] Oper.semAt_some
def Aeb (W W':World):Prop:=∀ (b:Nat) (s:ByteArray) (k:Int),Kl W b s k->Kl W' b s k
def Aed (s:ByteArray) (J:List Tok->World->Prop) (Jx:Nat->World->Prop) (e:Ending) (W':World):Prop :=
 ((Dr s.data.toList.length (s.data.toList.length+1) s.data.toList []).2.2=0/\e = .returned (.tuple #[])/\J (Dr s.data.toList.length (s.data.toList.length+1) s.data.toList []).1 W') \/
 ((Dr s.data.toList.length (s.data.toList.length+1) s.data.toList []).2.2=3/\(Dr s.data.toList.length (s.data.toList.length+1) s.data.toList []).1=[]/\e = .returned (.tuple #[])/\Jx (Dr s.data.toList.length (s.data.toList.length+1) s.data.toList []).2.1 W') \/
 ((Dr s.data.toList.length (s.data.toList.length+1) s.data.toList []).2.2=340/\(Dr s.data.toList.length (s.data.toList.length+1) s.data.toList []).1=[] /\
  e = .panicked [{ v := .iface 196 (.agg #[.int .i64 ((Dr s.data.toList.length (s.data.toList.length+1) s.data.toList []).2.1:Int)]),recovered:=false }]/\∃ acc,J acc W')
def SeqRel (s:ByteArray) (J:List Tok->World->Prop) (B:Nat) (wr:World):Prop :=
 ∃ (k f:Nat) (acc:List Tok),k<=s.size/\Kl wr B s k/\J acc wr/\A5 false (s.data.toList.drop k)=s.data.toList.drop k/\s.size-k<f /\
  Dr s.data.toList.length f (s.data.toList.drop k) acc=Dr s.data.toList.length (s.data.toList.length+1) s.data.toList []
set_option maxRecDepth 100000 in
set_option maxHeartbeats 4000000 in
theorem Zi (n l TB:Nat) (s:ByteArray) (J:List Tok->World->Prop) (Jx:Nat->World->Prop) (W0:World) (hs:s.size<=20000) (hT:W0.cell? ⟨TB,0,none⟩=some (.string s))
  (hJb:∀ acc W W',J acc W->Below W.heap.size W W'->J acc W')
  (hJr:∀ acc W W' b k,W0.heap.size<=b->J acc W->Kl W b s k->W.grownBy W' (some b)->J acc W')
  (hY:∀ acc t W,J acc W->YieldAt Fence.wide n Tryz.prog l #[t.val] W fun e W'=>(acc.length≠2000/\e = .returned (.bool true)/\J (acc++[t]) W'/\Aeb W W')\/(acc.length=2000/\e = .returned (.bool false)/\Jx t.pos W'))
  (h0:J [] W0) :
  CallsIn Fence.wide (n+1) Tryz.prog 168 #[.func (.yield l) #[] #[],.pointer (some ⟨TB,0,none⟩)] W0 (Aed s J Jx):=by
 refine callsIn_of_wp Tryz.func168 rfl trivial ?_ rfl
 simp only [Tryz.ntmps168,List.size_toArray,List.length_cons,List.length_nil,Nat.reduceAdd,Nat.reduceSub,Array.replicate_succ,Array.replicate_zero,List.push_toArray,List.append_toArray,List.nil_append,List.cons_append]
 gi_wp2
 refine wpIn_wide.2 ?_
 go_region_held3 (fun w'=>w'.cell? ⟨TB,0,none⟩=some (.string s)) (go_keep) (first|(go_at_call 169;refine (Ow _).mono ?_;rintro e w' ⟨rfl,rfl⟩;unfold C2))
 gi_wp2_with fail
 have hb1:Below W0.heap.size W0 ((W0.alloc (.cells C2 229)).alloc (.cells (S6 s 0) 232)).drew:=(((Below.refl _ _).alloc (Nat.le_refl _) _).alloc (by simp) _).drew
 have hR1:Kl ((W0.alloc (.cells C2 229)).alloc (.cells (S6 s 0) 232)).drew (W0.heap.size+1) s 0:=by
  have:=heap_alloc_new (W0.alloc (.cells C2 229)) (.cells (S6 s 0) 232)
  rw [World.size_alloc] at this
  exact this
 have HJ1:Hid (J [] _):=Lib.hid (hJb _ _ _ h0 hb1)
 have HR1:=Lib.hid hR1
 have HJb:=Lib.hid hJb
 have HJr:=Lib.hid hJr
 have HY:=Lib.hid hY
 clear hR1 hb1 hJb hJr hY h0 hT
 refine ⟨trivial,(callsIn_wide.2 (Abp (W0.heap.size+1) s 0 _ (by omega) (by omega) HR1.out)).mono ?_⟩
 rintro e w2 ⟨rfl,hR2,hg2⟩
 have HR2:=Lib.hid hR2
 have HJ2:Hid (J [] w2):=Lib.hid (HJr.out _ _ _ _ _ (Nat.le_succ _) HJ1.out HR1.out hg2)
 clear hR2 hg2 HR1 HJ1
 obtain ⟨B,hB⟩:∃ B,W0.heap.size+1=B:=⟨_,rfl⟩
 rw [hB] at HR2
 have hBle:W0.heap.size<=B:=by omega
 have hstart:SeqRel s J B w2:=⟨Nl s.data.toList 0,s.data.toList.length+1,[],by have:=Abn s.data.toList 0 (by omega);simpa using this.2,HR2.out,HJ2.out,by rw [Ju,Mo],by simp;omega,by rw [Ju,Q7];simp⟩
 have HS:=Lib.hid hstart
 clear hstart HR2 HJ2
 gi_wp2
 gi_loopw [11] (fun _ wr=>SeqRel s J B wr) (fun _ wr=>s.size-Ac6 wr B)
 case atStart=>exact HS.out
 case round =>
  clear HS
  obtain ⟨k,f,acc,hk,hR,hJ,hsk,hf,hsc⟩:=hrel
  have HP:=Lib.hid (Sz hR)
  have HR:=Lib.hid hR
  have HJ:=Lib.hid hJ
  have HSK:=Lib.hid hsk
  have HSC:=Lib.hid hsc
  have c0:∀ x:Later wr,x.world.cell? ⟨B,0,none⟩=some (.string s):=Bj hR.cells.1
  have c1:∀ x:Later wr,x.world.cell? ⟨B,1,none⟩=some (.int .i64 (k:Int)):=Bj hR.cells.2.1
  clear hR hJ hsk hsc
  by_cases hlt:k<s.size
  ·gi_wp2_with fail
   refine wpIn_wide.2 ?_
   refine Au (by kernel_rfl) (by kernel_rfl) ?_
   repeat (go_big_quiet_step (fail))
   refine wpQuiet_nil ?_
   intro w3 hb3
   have HR3:=Lib.hid (HR.out.below hb3)
   have HJ3:=Lib.hid (HJb.out _ _ _ HJ.out hb3)
   clear c0 c1 hb3 HR HJ
   gi_wp2_with fail
   have hlk:k<s.data.toList.length:=by simpa using hlt
   have hne:s.data.toList.drop k≠[]:=by rw [G5 hlk];simp
   have hlen:s.data.toList.length=s.size:=by simp
   have hpos:s.data.toList.length-(s.data.toList.drop k).length=k:=by simp;omega
   have HNE:=Lib.hid hne
   have HPOS:=Lib.hid hpos
   have HLEN:=Lib.hid hlen
   clear hne hpos hlen hB
   refine ⟨trivial,(callsIn_wide.2 (next_any B s k w3 (by omega) hlt HR3.out)).mono ?_⟩
   rintro e w4 (⟨hr,tx,htx,rfl,hR4,hg4⟩|⟨hr,rfl,hg4⟩)
   ·have HJ4:=Lib.hid (HJr.out _ _ _ _ _ hBle HJ3.out HR3.out hg4)
    have HR4:=Lib.hid hR4
    have HRI:=Lib.hid hr
    have HTX:=Lib.hid (Ack htx)
    clear hr htx hR4 hg4 HR3 HJ3
    obtain ⟨kd,hkd⟩:∃ x,(Eo (s.data.toList.drop k)).1=x:=⟨_,rfl⟩
    obtain ⟨tl,htl⟩:∃ x,(Eo (s.data.toList.drop k)).2=x:=⟨_,rfl⟩
    rw [htl] at HTX HR4 HRI
    rw [hkd] at HRI |-
    have HKD:=Lib.hid hkd
    have HTL:=Lib.hid htl
    clear hkd htl
    obtain rfl:=HTX.out
    clear HTX
    have hy0:=HY.out acc ⟨kd,tl,k⟩ w4 HJ4.out
    unfold Tok.val at hy0
    obtain ⟨fn,tmps,assign,body,hy,hRd⟩:=hy0
    have HRD:=Lib.hid hRd
    clear hRd
    gi_wp2_with fail
    refine HRD.out.mono ?_
    rintro e w5 (⟨ha,rfl,hJ5,hk5⟩|⟨ha,rfl,hJx⟩)
    ·have hR5:=hk5 _ _ _ HR4.out
     have hne2:=Ah7 HRI.out
     have hl2:1<=tl.length:=by cases tl with|nil=>exact absurd rfl hne2|cons=>simp
     have hle:k+tl.length<=s.size:=by
      have h1:=Sm (s:=s) (k:=k) (tx:=Cr tl) (by rw [Vt,HTL.out])
      have h2:(Cr tl).size=tl.length:=by simp [Cr,ByteArray.size]
      omega
     have HR5:=Lib.hid hR5
     have HJ5:=Lib.hid hJ5
     have HA:=Lib.hid ha
     clear hR5 hne2 hk5 hJ5 ha hy HJ4 HR4 HRD
     gi_wp2_with fail
     refine ⟨trivial,(callsIn_wide.2 (Abp B s (k+tl.length) w5 (by omega) hle HR5.out)).mono ?_⟩
     rintro e w6 ⟨rfl,hR6,hg6⟩
     have HR6:=Lib.hid hR6
     have HJ6:=Lib.hid (HJr.out _ _ _ _ _ hBle HJ5.out HR5.out hg6)
     have hsn:=Abn s.data.toList (k+tl.length) (by simpa using hle)
     clear hR6 hg6 HR5 HJ5
     gi_wp2
     go_roundw
     case rel =>
      refine ⟨Nl s.data.toList (k+tl.length),f-1,acc++[⟨kd,tl,k⟩],by simpa using hsn.2,HR6.out,HJ6.out,by rw [Ju,Mo],?_,?_⟩
      ·have:=hsn.1;omega
      ·rw [<- HSC.out]
       obtain ⟨f',rfl⟩:∃ f',f=f'+1:=⟨f-1,by omega⟩
       obtain ⟨f'',rfl⟩:∃ f'',f'=f''+1:=⟨f'-1,by omega⟩
       rw [Adf HSK.out HNE.out (by rw [HKD.out,HTL.out];exact HRI.out) HA.out,HKD.out,HTL.out,HPOS.out,List.drop_drop,Ju]
       exact Q7 _ _ _ _
     case measure =>
      rw [Sz HR6.out,HP.out]
      have:=hsn.1;have:=hsn.2;have:=HLEN.out;omega
    ·have HA:=Lib.hid ha
     have HJx:=Lib.hid hJx
     clear ha hJx hy HJ4 HR4 HRD
     gi_wp2
     go_end0
     refine .inr (.inl ?_)
     rw [<- HSC.out]
     obtain ⟨f',rfl⟩:∃ f',f=f'+1:=⟨f-1,by omega⟩
     rw [Ade HSK.out HNE.out (by rw [HKD.out,HTL.out];exact HRI.out) HA.out,HPOS.out]
     exact ⟨rfl,rfl,rfl,HJx.out⟩
   ·have HJ4:=Lib.hid (HJr.out _ _ _ _ _ hBle HJ3.out HR3.out hg4)
    have HRI:=Lib.hid hr
    clear hr hg4 HJ3 HR3
    gi_wp2
    refine ⟨rfl,.inr (.inr ?_)⟩
    rw [<- HSC.out]
    obtain ⟨f',rfl⟩:∃ f',f=f'+1:=⟨f-1,by omega⟩
    rw [Aif HSK.out HNE.out HRI.out,HPOS.out]
    exact ⟨rfl,rfl,rfl,acc,HJ4.out⟩
  ·obtain rfl:k=s.size:=by omega
   gi_wp2_with fail
   refine wpIn_wide.2 ?_
   refine Au (by kernel_rfl) (by kernel_rfl) ?_
   repeat (go_big_quiet_step (fail))
   refine wpQuiet_nil ?_
   intro w3 hb3
   have HJ3:=Lib.hid (HJb.out _ _ _ HJ.out hb3)
   clear c0 c1 hb3 HR HJ
   gi_wp2
   go_end0
   refine .inl ?_
   rw [<- HSC.out]
   obtain ⟨f',rfl⟩:∃ f',f=f'+1:=⟨f-1,by omega⟩
   rw [show s.data.toList.drop s.size=[] from List.drop_eq_nil_of_le (by simp),Aig]
   exact ⟨rfl,rfl,HJ3.out⟩
attribute [local go_sem] Oper.semAt_some
theorem Adw (s:ByteArray) (w:World) :
  Calls Tryz.prog 140 #[.string s] w fun e w'=>e = .returned (.func (.func 168) #[] #[.pointer (some ⟨w.heap.size,0,none⟩)])/\w.alloc (.cells #[.string s] 9)=w':=by
 have hmf:∀ (fn:Fn) (first cap:Array Value) (w:World),(Instr.makeFunc fn first cap).run Tryz.prog w = .ok (.func fn first cap) w:=fun _ _ _ _=>rfl
 go_enter Tryz.func140,Tryz.ntmps140
 go_wp2
 go_ret
 exact ⟨rfl,rfl⟩
set_option maxRecDepth 100000 in
theorem Add (n:Nat) (p0 p1 p2:Addr) (w:World) :
  CallsDIn Fence.wide n Tryz.prog 139 #[.pointer (some p0),.pointer (some p1),.pointer (some p2)] .returning w fun e u' w'=>e = .returned (.tuple #[])/\u' = .returning/\Below w.heap.size w w':=by
 have hta:∀ w,(Instr.typeAssert .nilIface 20 196 true).run Tryz.prog w = .ok (.tuple #[.agg #[.int .i64 0],.bool false]) w:=fun _=>by kernel_rfl
 refine callsDIn_of_wpSIn Tryz.func139 rfl trivial fun c₀ cs hu=>?_
 simp only [Tryz.ntmps139,List.size_toArray,List.length_cons,List.length_nil,Nat.reduceAdd,Nat.reduceSub,Array.replicate_succ,Array.replicate_zero,List.push_toArray,List.append_toArray,List.nil_append,List.cons_append]
 apply wpSIn_seq
 apply wpSIn_region
 simp [wpOpsSIn,go_sem,recoverD,hu,hta,Exit.thenS]
 refine wpSIn_of_wpIn rfl (wpIn_wide.2 ?_)
 go_wp2
 cases c₀
 simp_all [bodyPostS,results,Tryz.results139]
 exact (Below.refl _ _).alloc (Nat.le_refl _) _
set_option maxRecDepth 100000 in
set_option maxHeartbeats 1000000 in
theorem Aie (n b0:Nat) (k:Int) (older:List PanicEntry) (w:World) (v0 v1 v2:Value) (hc0:w.cell? ⟨b0,0,none⟩=some v0) (hc1:w.cell? ⟨b0+1,0,none⟩=some v1) (hc2:w.cell? ⟨b0+2,0,none⟩=some v2)
  (hz0:w.frozen? ⟨b0,0,none⟩=false) (hz1:w.frozen? ⟨b0+1,0,none⟩=false) (hz2:w.frozen? ⟨b0+2,0,none⟩=false) (hlt:b0+2<w.heap.size) :
  CallsDIn Fence.wide n Tryz.prog 139 #[.pointer (some ⟨b0,0,none⟩),.pointer (some ⟨b0+1,0,none⟩),.pointer (some ⟨b0+2,0,none⟩)] (.panicking ({ v := .iface 196 (.agg #[.int .i64 k]),recovered:=false }::older)) w fun e u' w' =>
   e = .returned (.tuple #[])/\u' = .panicking ({ v := .iface 196 (.agg #[.int .i64 k]),recovered:=true }::older) /\
   ∃ w2,Below w.heap.size w w2/\(((w2.setCell ⟨b0,0,none⟩ (.slice none 0 0)).setCell ⟨b0+1,0,none⟩ (.int .i64 k)).setCell ⟨b0+2,0,none⟩ (.int .i64 340)).drew=w':=by
 have hta:∀ w,(Instr.typeAssert (.iface 196 (.agg #[.int .i64 k])) 20 196 true).run Tryz.prog w = .ok (.tuple #[.agg #[.int .i64 k],.bool true]) w:=fun _=>by kernel_rfl
 refine callsDIn_of_wpSIn Tryz.func139 rfl trivial fun c₀ cs hu=>?_
 simp only [Tryz.ntmps139,List.size_toArray,List.length_cons,List.length_nil,Nat.reduceAdd,Nat.reduceSub,Array.replicate_succ,Array.replicate_zero,List.push_toArray,List.append_toArray,List.nil_append,List.cons_append]
 apply wpSIn_seq
 apply wpSIn_region
 simp [wpOpsSIn,go_sem,recoverD,hu,hta,Exit.thenS]
 refine wpSIn_of_wpIn rfl (wpIn_wide.2 ?_)
 have HU:=Lib.hid hu
 clear hu
 refine L5 (F:=fun w2=>Below w.heap.size w w2/\w2.cell? ⟨w.heap.size,0,none⟩=some (.int .i64 k)/\w.heap.size<w2.heap.size) ⟨(Below.refl _ _).alloc (Nat.le_refl _) _,World.cell?_alloc_at (hn:=by simp) ..,by simp⟩ ?_
 rintro w2 ⟨hB,hc,hs⟩
 have d0:=Bc hB hc0
 have d1:=Bc hB hc1
 have d2:=Bc hB hc2
 have f0:=(hB.frozen (p:=⟨b0,0,none⟩) (by show b0<_;omega)).trans hz0
 have f1:=(hB.frozen (p:=⟨b0+1,0,none⟩) (by show b0+1<_;omega)).trans hz1
 have f2:=(hB.frozen (p:=⟨b0+2,0,none⟩) (by show b0+2<_;omega)).trans hz2
 have n0:¬ b0=w.heap.size:=by omega
 have n1:¬ b0+1=w.heap.size:=by omega
 have n2:¬ b0+2=w.heap.size:=by omega
 have n3:¬ w.heap.size=b0:=by omega
 have HB:=Lib.hid hB
 clear hB hc0 hc1 hc2 hz0 hz1 hz2
 go_wp2_with fail
 go_region
 go_wp2_with fail
 exact ⟨rfl,_,rfl,_,results_none rfl _ _ _,rfl,rfl,w2,HB.out,rfl⟩
def roundEnd (l:Nat) (ρ : LoopState->Option Code->Loop) (R:Ending->World->Prop):Exit->Act->World->Prop
 |.normal,_,W=>W.heap[l]? = some (.loop (ρ .busy none))/\R (.returned (.bool true)) (W.putObj l (.loop (ρ .ready none)))
 |.ret,_,W=>W.heap[l]? = some (.loop (ρ .busy none))/\R (.returned (.bool false)) (W.putObj l (.loop (ρ .done (some .ret))))
 |.exit id,_,W=>W.heap[l]? = some (.loop (ρ .busy none))/\R (.returned (.bool false)) (W.putObj l (.loop (ρ .done (some (.exit id)))))
 |_,_,_=>False
def rangeEnd (F:Fence) (n:Nat) (P:Program) (l:Nat) (ρ : LoopState->Option Code->Loop) (Q:Exit->Act->World->Prop) (a':Act):Ending->World->Prop
 |.returned _,W=>(W.heap[l]? = some (.loop (ρ .ready none))/\Q .normal a' (W.putObj l (.loop (ρ .exhausted none)))) \/
   ∃ c,W.heap[l]? = some (.loop (ρ .done (some c)))/\c.wpIn F n P Q a' (W.putObj l (.loop (ρ .exhausted (some c))))
 |.panicked chain,W=>Q (.panic chain) a' W
 |.outgrown,_=>LetsOut Q
theorem En {F:Fence} {n:Nat} {P:Program} {g:Operand} {ps:Array Tmp} {assign body:Code} {Q:Exit->Act->World->Prop} {a:Act} {w:World}
  (hro:F.round=none) (h1:1<=n) {gf:Nat} {lb:Array Value} (hg:a.eval g = .func (.func gf) #[] lb) (hFg:F.fn gf) (eg:∀ args w,(callFunc gf args).run P w = .ok (.enter gf args) w)
  (h:∀ (ρ : LoopState->Option Code->Loop),
   (∀ (args:Array Value) (W:World) (R:Ending->World->Prop),args.size=ps.size->W.heap[w.heap.size+1]? = some (.loop (ρ .ready none)) ->
    assign.wpIn (F.inRound (w.heap.size+1)) (n-1-1) P (Exit.then (fun a₁ w₁ => w₁.heap[w.heap.size+1]? = some (.loop (ρ .ready none)) /\
     body.wpIn (F.inRound (w.heap.size+1)) (n-1-1) P (roundEnd (w.heap.size+1) ρ R) a₁ (w₁.putObj (w.heap.size+1) (.loop (ρ .busy none)))) (fun _ _ _=>False))
     { tmps:=(ps.zip args).foldl (fun t (p,v)=>t.setIfInBounds p v) a.tmps,defers:=[] } W ->
    YieldAt F (n-1-1) P (w.heap.size+1) args W R) ->
   CallsIn F (n-1) P gf (#[.func (.yield (w.heap.size+1)) #[] #[]]++lb) ((w.alloc (.deferred (some []))).alloc (.loop (ρ .ready none)))
    (rangeEnd F n P (w.heap.size+1) ρ Q { a with defers:={ target := .collected w.heap.size,args := #[] }::a.defers })) :
  (Code.rangeFunc g ps assign body).wpIn F n P Q a w:=by
 refine wpIn_rangeFunc ?_
 intro fn hfn
 rw [hro]
 obtain ⟨ρ,hρ⟩:∃ ρ : LoopState->Option Code->Loop,ρ = fun st pe=>{ state:=st,pending:=pe,fn,tmps:=a.tmps,params:=ps,assign,body,defers:=w.heap.size }:=⟨_,rfl⟩
 obtain ⟨W1,hW1⟩:∃ W1,(w.alloc (.deferred (some []))).alloc (.loop (ρ .ready none))=W1:=⟨_,rfl⟩
 refine ⟨w.heap.size+1,[{ target := .collected w.heap.size,args := #[] }],W1,{ target := .fn (.func gf) lb,args := #[.func (.yield (w.heap.size+1)) #[] #[]] },W1,gf,
  #[.func (.yield (w.heap.size+1)) #[] #[]]++lb,W1,?_,?_,?_,?_,fun _=>h1,?_⟩
 ·rw [<- hW1,hρ];exact run_enterLoop_outer _ _ _ _ _
 ·simp only [resolve,hg]
  simp [go_sem]
 ·intro f' hf';simp [Target.leads] at hf';subst hf';exact hFg
 ·simp [invoke,go_sem,eg]
 ·rw [<- hW1]
  refine (h ρ ?_).mono ?_
  ·intro args W R hsz hl hw
   have hlt:w.heap.size+1<W.heap.size:=(Array.getElem?_eq_some_iff.1 hl).1
   have hy:=run_yield (P:=P) (args:=args) hl (by rw [hρ];exact hsz)
   have e1:∀ st pe,(ρ st pe).fn=fn:=by rw [hρ];intros;rfl
   have e2:∀ st pe,(ρ st pe).tmps=a.tmps:=by rw [hρ];intros;rfl
   have e3:∀ st pe,(ρ st pe).params=ps:=by rw [hρ];intros;rfl
   have e4:∀ st pe,(ρ st pe).assign=assign:=by rw [hρ];intros;rfl
   have e5:∀ st pe,(ρ st pe).body=body:=by rw [hρ];intros;rfl
   have e6:∀ st pe st' pe',({ ρ st pe with state:=st',pending:=pe' }:Loop) = ρ st' pe':=by rw [hρ];intros;rfl
   have e7:∀ st pe,(ρ st pe).state=st:=by rw [hρ];intros;rfl
   have e8:∀ st pe st',({ ρ st pe with state:=st' }:Loop) = ρ st' pe:=by rw [hρ];intros;rfl
   have e9:∀ st pe,(ρ st pe).pending=pe:=by rw [hρ];intros;rfl
   rw [e1,e2,e3,e4,e5] at hy
   refine ⟨fn,_,assign,body,hy,roundIn_of_wpIn hfn (wpIn_mono hw ?_)⟩
   intro e a₁ w₁ he
   cases e with
   |normal =>
    obtain ⟨hl1,hb⟩:=he
    refine ⟨_,run_beginRound hl1 (e7 _ _),?_⟩
    rw [e8]
    refine wpIn_mono hb ?_
    intro e a₂ w₂ he
    cases e with
    |normal=>exact ⟨_,_,run_endRound none he.1,by have:=he.2;simp only [Option.isNone_none,if_true,e6];exact this⟩
    |ret=>exact ⟨_,_,run_endRound (some .ret) he.1,by have:=he.2;simp only [Option.isNone_some,Bool.false_eq_true,if_false,e6];exact this⟩
    |exit id=>exact ⟨_,_,run_endRound (some (.exit id)) he.1,by have:=he.2;simp only [Option.isNone_some,Bool.false_eq_true,if_false,e6];exact this⟩
    |goto t=>exact he.elim
    |panic c=>exact he.elim
    |outgrown=>exact he.elim
   |ret=>exact he.elim
   |exit id=>exact he.elim
   |goto t=>exact he.elim
   |panic c=>exact he.elim
   |outgrown=>exact he.elim
  ·have e7:∀ st pe,(ρ st pe).state=st:=by rw [hρ];intros;rfl
   have e8:∀ st pe st',({ ρ st pe with state:=st' }:Loop) = ρ st' pe:=by rw [hρ];intros;rfl
   have e9:∀ st pe,(ρ st pe).pending=pe:=by rw [hρ];intros;rfl
   intro e W he
   cases e with
   |returned v =>
    rcases he with ⟨hl,hq⟩|⟨c,hl,hq⟩
    ·refine ⟨none,_,by rw [run_endLoop hl (by rw [e7];simp),e8,e9],hq⟩
    ·refine ⟨some c,_,by rw [run_endLoop hl (by rw [e7];simp),e8,e9],hq⟩
   |panicked chain=>exact he
   |outgrown=>exact he
end Go.Proofs.YtjagmmmcibdibaaGreatDoor
