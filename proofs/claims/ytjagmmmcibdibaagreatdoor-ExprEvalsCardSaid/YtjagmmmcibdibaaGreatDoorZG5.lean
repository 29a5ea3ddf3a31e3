/- A part of the proofs of some statements of this chapter: texts of these claims, merged. -/
import Derived.Below
import Derived.WalkKit
import Derived.BigQuiet
import Derived.Lib.Hide
import Derived.ControlIn
import Derived.OwnWalkIn
import Derived.Lib.ItoaNum
import Derived.OrdersIn
import Derived.TacticsIn
import Derived.Deep.MidRow
import Derived.OpenShut
import Derived.Lib.SmallJoins
import Derived.Laws.Tables
import Derived.Laws.OwnMore
import Derived.Orders
import Derived.Test.YtjagmmmcibdibaaGreatDoorProg
import Derived.Shelf.Abstract
import Derived.Test.YtjagmmmcibdibaaGreatDoorRows
import Derived.Carry
import Derived.Lib.LaidU8
import Derived.Lib.LaidTab
import Derived.Lay
import Derived.MakeChecks
import Derived.RangeFuncLeaves
import Derived.RangeFuncOwn
import Derived.RecoverIn
import Derived.Laws.MakeOwn
import Derived.Laws.Strings
import Derived.WalkSpells
import Derived.WalkLawsBesides
import Derived.Laws.EntriesVeiled
import Derived.Deep.RegionHeld3
import Derived.Deep.QuietTactic
import Derived.Lib.Bytealg
import Derived.Shelf.Strings.Builder1
import Derived.Shelf.Small.Strs
import Derived.Shelf.Small.Wraps
import Derived.Shelf.Strings.BuilderF
import Derived.Shelf.Strings.BuilderK
import Derived.Shelf.Strconv.Atoi
import Derived.Shelf.Strconv.Itoa0
import Derived.Shelf.Strconv.Itoa1
import Derived.Shelf.LaysM
import Derived.Shelf.Strconv.Itoa2
import Derived.Shelf.Strconv.Itoa3
import Derived.Shelf.Strconv.AtoiErrFast
import Derived.Shelf.Strconv.ParseIntEmpty
import Derived.Shelf.Strconv.AtoiFail
import Derived.Shelf.Strconv.Clone
import Derived.Shelf.Strconv.SyntaxError
import Derived.Shelf.LaysC
import Derived.Shelf.Strconv.ToError
import Derived.Shelf.Strconv.AtoiErr
import Derived.Shelf.Strconv.ErrVar
import Derived.Shelf.Strconv.Lower
import Derived.Shelf.Strconv.ParseUint10
import Derived.Shelf.Strconv.ParseUint10Empty
import Derived.Shelf.Strconv.ParseUint10Any
import Derived.Shelf.Strconv.ParseInt10
import Derived.Shelf.Strconv.AtoiLong
import Derived.Shelf.Strconv.AtoiInnerAll
import Derived.Shelf.Strconv.RangeError
import Derived.Shelf.Strconv.ToErrorRange
import Derived.Shelf.Strconv.AtoiAll
import Derived.Shelf.Strconv.ErrVarAll
import Derived.Shelf.Strconv.ParseUintEmpty
import Derived.Shelf.Strconv.ParseUint10b64
import Derived.Shelf.Strconv.ParseUint10b32
import Derived.Shelf.Strconv.ParseUint10b16
import Derived.Shelf.Strconv.ParseUint10b8
import Derived.Shelf.Strconv.ParseUint10At
import Derived.Ground.MpProg
import Derived.Shelf.Pu.ParseUintPublic10
import Derived.Shelf.Pu.ErrVarParseUint
import Derived.Shelf.Strings.Search1
import Derived.Shelf.Strings.Search2
import Derived.Shelf.Strings.Cut
import Derived.Shelf.Strings.Shaped
import Derived.Shelf.Strings.Prefix
import Derived.Shelf.Strings.BuilderCap
import Derived.Shelf.Slices.Turned
import Derived.Ground.Names2Prog
import Derived.Shelf.Slices.SearchI
import Derived.Deep.DeepCutAuto
import Derived.Lib.IndexBytes
import Derived.Deep.LoopGhost
import Derived.StillTail
import Derived.BigRegion
import Derived.Deep.CutBlock
import Derived.RangeFuncBox
import Derived.RangeFuncCalls
import Derived.TacticsInMore
import Derived.LoopNIn
import Derived.LoopIn
import Derived.RangeFuncNested
import Derived.Maps.AppendAt
import Derived.Shelf.RegionOpen
import Derived.Laws.StructEq
import Derived.Lib.Join
import Derived.Deep.AppendLies
import Derived.Deep.RegionLaw
import Derived.Laws.Rows
import Derived.Laws.BytesArg
import Derived.Lib.AppendStr
import Derived.Test.YtjagmmmcibdibaaGreatDoorZG4
set_option linter.unusedVariables false
set_option linter.unusedSimpArgs false
set_option linter.unusedSectionVars false
set_option linter.all false
namespace Go.Proofs.YtjagmmmcibdibaaGreatDoor
open Go.RowKit
theorem nan_do (a:Int):Aw 152 [An a] ⟨[],[]⟩ (.ret (At false)) ⟨[],[]⟩:=by
 refine Af Tryz.func152 rfl rfl (Nat.le_of_ble_eq_true rfl) rfl (Nat.le_refl _) ?_
 repeat' (first|refine rl0 ?_|refine rs0 ?_ ?_<;>intro h|fail)
 all_goals simp
theorem Af0 (a:Int):Aw 181 [.d (.v (.int .u32 a))] ⟨[],[]⟩ (.ret (At false)) ⟨[],[]⟩:=by
 refine Af Tryz.func181 rfl rfl (Nat.le_of_ble_eq_true rfl) rfl (Nat.le_refl _) ?_
 repeat' (first|refine rl0 ?_|refine rs0 ?_ ?_<;>intro h|fail)
 all_goals simp
theorem Ad8 (a b:Int):Aw 121 [An a,An b] ⟨[],[]⟩ (.ret (An (Cx a b))) ⟨[],[]⟩:=by
 refine Af Tryz.func121 rfl rfl (Nat.le_of_ble_eq_true rfl) rfl (Nat.le_refl _) ?_
 repeat' (first|refine rl0 ?_|refine rs0 ?_ ?_<;>intro h|fail)
 refine wp1 (nan_do a) ?_
 repeat' (first|refine rl0 ?_|refine rs0 ?_ ?_<;>intro h|fail)
 refine wp1 (nan_do b) ?_
 repeat' (first|refine rl0 ?_|refine rs0 ?_ ?_<;>intro h|fail)
 ·rw [show Cx a b = -1 from if_pos (of_decide_eq_true h)]
 ·rename_i g
  rw [show Cx a b=1 from by unfold Cx;rw [if_neg (of_decide_eq_false g),if_pos (of_decide_eq_true h)]]
 ·rename_i g
  rw [show Cx a b=0 from by unfold Cx;rw [if_neg (of_decide_eq_false g),if_neg (of_decide_eq_false h)]]
theorem cmpu_do (a b:Int):Aw 148 [.d (.v (.int .u32 a)),.d (.v (.int .u32 b))] ⟨[],[]⟩ (.ret (An (Cx a b))) ⟨[],[]⟩:=by
 refine Af Tryz.func148 rfl rfl (Nat.le_of_ble_eq_true rfl) rfl (Nat.le_refl _) ?_
 repeat' (first|refine rl0 ?_|refine rs0 ?_ ?_<;>intro h|fail)
 refine wp1 (Af0 a) ?_
 repeat' (first|refine rl0 ?_|refine rs0 ?_ ?_<;>intro h|fail)
 refine wp1 (Af0 b) ?_
 repeat' (first|refine rl0 ?_|refine rs0 ?_ ?_<;>intro h|fail)
 ·rw [show Cx a b = -1 from if_pos (of_decide_eq_true h)]
 ·rename_i g
  rw [show Cx a b=1 from by unfold Cx;rw [if_neg (of_decide_eq_false g),if_pos (of_decide_eq_true h)]]
 ·rename_i g
  rw [show Cx a b=0 from by unfold Cx;rw [if_neg (of_decide_eq_false g),if_neg (of_decide_eq_false h)]]
theorem R0 {p:Prop} [Decidable p] (h:(!decide p)=false):p:=by
 cases e:decide p with
 |true=>exact of_decide_eq_true e
 |false=>rw [e] at h;cases h
theorem T7 (m o:List Int) (i:Nat):cmpK m o (i+1)=if Cx (m.getD i 0) (o.getD i 0)≠0 then Cx (m.getD i 0) (o.getD i 0) else cmpK m o i:=by
 rw [cmpK];unfold Cx
 split
 ·simp
 ·split<;>simp
theorem cmpI_nat (m n:Nat):Cx m n=if m<n then -1 else if n<m then 1 else 0:=by
 unfold Cx
 simp only [Int.ofNat_lt]
set_option maxHeartbeats 1000000 in
theorem Gz (m o:List Int) (hml:m.length<=1000000) (hol:o.length<=1000000):Aw 114 [B3 m,B3 o] ⟨[],[]⟩ (.ret (An (cmpL m o))) ⟨[],[]⟩:=by
 have hlm:((m.map B8).length:Int)=m.length:=by simp
 have hlo:((o.map B8).length:Int)=o.length:=by simp
 have hci:=Ad8 ((m.map B8).length:Int) ((o.map B8).length:Int)
 rw [hlm,hlo,cmpI_nat] at hci
 have hcl:cmpL m o=if m.length<o.length then -1 else if o.length<m.length then 1 else cmpK m o m.length:=rfl
 by_cases h1:m.length<o.length
 ·rw [if_pos h1] at hci hcl
  rw [hcl]
  refine Af Tryz.func114 rfl rfl (Nat.le_of_ble_eq_true rfl) rfl (Nat.le_refl _) ?_
  repeat' (first|refine rl0 ?_|refine rs0 ?_ ?_<;>intro h|fail)
  refine wp1 hci ?_ (ha:=by rw [<- hlm,<- hlo];exact (by repeat (first|exact Ae|refine Ab (Ac _) ?_)))
  repeat' (first|refine rl0 ?_|refine rs0 ?_ ?_<;>intro h|fail)
  rfl
 by_cases h2:o.length<m.length
 ·rw [if_neg h1,if_pos h2] at hci hcl
  rw [hcl]
  refine Af Tryz.func114 rfl rfl (Nat.le_of_ble_eq_true rfl) rfl (Nat.le_refl _) ?_
  repeat' (first|refine rl0 ?_|refine rs0 ?_ ?_<;>intro h|fail)
  refine wp1 hci ?_ (ha:=by rw [<- hlm,<- hlo];exact (by repeat (first|exact Ae|refine Ab (Ac _) ?_)))
  repeat' (first|refine rl0 ?_|refine rs0 ?_ ?_<;>intro h|fail)
  rfl
 have he:m.length=o.length:=by omega
 rw [if_neg h1,if_neg h2] at hci hcl
 rw [hcl]
 refine Af Tryz.func114 rfl rfl (Nat.le_of_ble_eq_true rfl) rfl (Nat.le_refl _) ?_
 repeat' (first|refine rl0 ?_|refine rs0 ?_ ?_<;>intro h|fail)
 refine wp1 hci ?_ (ha:=by rw [<- hlm,<- hlo];exact (by repeat (first|exact Ae|refine Ab (Ac _) ?_)))
 repeat' (first|refine rl0 ?_|refine rs0 ?_ ?_<;>intro h|fail)
 refine Ca (ι := Nat) (ok:=fun j=>j<=m.length/\cmpK m o m.length=cmpK m o j) (L:=fun j=>[(0,B3 m),(1,B3 o),(6,An ((j:Int)-1))]) (Sx:=fun _=>⟨[],[]⟩) (μ := fun j=>j) m.length ⟨Nat.le_refl _,rfl⟩ (by refine Aa rfl (Aa rfl (Aa ?_ Ag));show PV.d (.v (.int .i64 (_-1)))=_;rw [hlm]) rfl ?_
 rintro j ⟨hj,hk⟩
 repeat' (first|refine rl0 ?_|refine rs0 ?_ ?_<;>intro h|fail)
 ·have h0:0<j:=by have:=of_decide_eq_true h;omega
  obtain ⟨i,rfl⟩:∃ i,j=i+1:=⟨j-1,by omega⟩
  have hi:i<m.length:=by omega
  refine Tj (B8 (m.getD i 0)) rfl rfl rfl rfl rfl (by rw [show (((i+1:Nat):Int)-1).toNat=((i:Nat):Int).toNat by omega];exact E7 hi) (by omega) ?_
  repeat' (first|refine rl0 ?_|refine rs0 ?_ ?_<;>intro h|fail)
  refine Tj (B8 (o.getD i 0)) rfl rfl rfl rfl rfl (by rw [show (((i+1:Nat):Int)-1).toNat=((i:Nat):Int).toNat by omega];exact E7 (by omega)) (by omega) ?_
  repeat' (first|refine rl0 ?_|refine rs0 ?_ ?_<;>intro h|fail)
  refine wp1n (cmpu_do (m.getD i 0) (o.getD i 0)) ?_
  repeat' (first|refine rl0 ?_|refine rs0 ?_ ?_<;>intro h|fail)
  ·have hne:Cx (m.getD i 0) (o.getD i 0)≠0:=by
    intro e;rw [e] at h;simp at h
   rw [hk,T7,if_pos hne]
  ·have heq:=R0 h
   refine ⟨i,⟨by omega,by rw [hk,T7,if_neg (by rw [heq];simp)]⟩,Nat.lt_succ_self _,?_,rfl⟩
   refine Aa rfl (Aa rfl (Aa ?_ Ag))
   show PV.d (.v (.int .i64 (((i+1:Nat):Int)-1-1)))=_
   rw [show ((i+1:Nat):Int)-1-1=(i:Int)-1 by omega]
 ·have h0:j=0:=by have:=of_decide_eq_false h;omega
  subst h0
  rw [hk];rfl
@[reducible] def whI (z:Int):PV:=whP (decide (z<0)) (limN z.natAbs)
theorem Z0 {z:Int}:limN z.natAbs=[]<->z=0:=by rw [limN_nil];omega
theorem Nv (z:Int):Aw 82 [whI z] ⟨[],[]⟩ (.ret (An (Cx z 0))) ⟨[],[]⟩:=by
 have hl:((limN z.natAbs).map B8).length=(limN z.natAbs).length:=by simp
 have hz:(limN z.natAbs).length=0<->z=0:=by rw [List.length_eq_zero_iff,Z0]
 refine Af Tryz.func82 rfl rfl (Nat.le_of_ble_eq_true rfl) rfl (Nat.le_refl _) ?_
 repeat' (first|refine rl0 ?_|refine rs0 ?_ ?_<;>intro h|fail)
 ·have h0:z=0:=hz.1 (by have:=of_decide_eq_true h;omega)
  subst h0;rfl
 ·rw [show Cx z 0 = -1 from if_pos (of_decide_eq_true h)]
 ·rename_i g
  have h1:=of_decide_eq_false h
  have h0:z≠0:=fun e=>by have:=of_decide_eq_false g;have:=hz.2 e;omega
  rw [show Cx z 0=1 from by unfold Cx;rw [if_neg h1,if_pos (by omega)]]
theorem Abb (neg:Bool) {l:List Int} (hok:∀ z∈l,limbOk z):whP (neg && !decide (trimL l=[])) (trimL l)=whI (if neg=true then -valL l else valL l):=by
 have h0:=A1 hok
 have e:=trimL_eq hok
 have hn:(if neg=true then -valL l else valL l).natAbs=(valL l).toNat:=by split<;>omega
 unfold whI
 rw [hn,<- e]
 congr 3
 have h1:trimL l=[]<->valL l=0:=by rw [e,limN_nil];omega
 cases neg with
 |false=>simp;omega
 |true =>
  by_cases hz:valL l=0
  ·rw [decide_eq_true (h1.2 hz)];simp [hz]
  ·rw [decide_eq_false (fun h=>hz (h1.1 h))];simp;omega
theorem Em (neg:Bool) {l:List Int} (hok:∀ z∈l,limbOk z) (v:Int) (hv:(if neg=true then -valL l else valL l)=v):Aw 112 [At neg,B3 l] ⟨[],[]⟩ (.ret (whI v)) ⟨[],[]⟩:=by
 have h:=Ti neg l
 rw [Abb neg hok,hv] at h
 exact h
theorem Yx (z:Int):Aw 89 [whI z] ⟨[],[]⟩ (.ret (whI (-z))) ⟨[],[]⟩:=by
 have hw:=Em (!decide (z<0)) (limN_ok z.natAbs) (-z) (by rw [limN_val];by_cases h:z<0<;>simp [h]<;>omega)
 refine Af Tryz.func89 rfl rfl (Nat.le_of_ble_eq_true rfl) rfl (Nat.le_refl _) ?_
 repeat' (first|refine rl0 ?_|refine rs0 ?_ ?_<;>intro h|fail)
 refine wp1 hw ?_
 repeat' (first|refine rl0 ?_|refine rs0 ?_ ?_<;>intro h|fail)
 rfl
theorem Hq {m n:Nat} (h:m<=n):(limN m).length<=(limN n).length :=
 limN_len (Nat.lt_of_le_of_lt h (limN_len' (Nat.le_refl _)))
theorem Ag1 {a b:List Int} (ha:∀ z∈a,limbOk z) (hb:∀ z∈b,limbOk z):valL (Acd a b)=valL a+valL b/\∀ z∈Acd a b,limbOk z:=by
 unfold Acd
 split
 ·obtain ⟨h1,h2,_⟩:=V6 hb ha (by omega)
  exact ⟨by omega,h2⟩
 ·obtain ⟨h1,h2,_⟩:=V6 ha hb (by omega)
  exact ⟨h1,h2⟩
set_option maxHeartbeats 1000000 in
theorem Yv (a b:Int) (hal:(limN a.natAbs).length<=1000000) (hbl:(limN b.natAbs).length<=1000000):Aw 80 [whI a,whI b] ⟨[],[]⟩ (.ret (whI (a+b))) ⟨[],[]⟩:=by
 have oa:=limN_ok a.natAbs
 have ob:=limN_ok b.natAbs
 have va:=limN_val a.natAbs
 have vb:=limN_val b.natAbs
 by_cases hs:(a<0<->b<0)
 ·obtain ⟨pv,po⟩:=Ag1 oa ob
  have hp:=plus_do _ _ oa ob hal hbl
  have hw:=Em (decide (a<0)) po (a+b) (by rw [pv,va,vb];by_cases h:a<0<;>simp [h]<;>omega)
  have hd:decide (a<0)=decide (b<0):=by simp [hs]
  refine Af Tryz.func80 rfl rfl (Nat.le_of_ble_eq_true rfl) rfl (Nat.le_refl _) ?_
  repeat' (first|refine rl2 ?_|refine rs2 ?_ ?_<;>intro h|fail)
  ·refine b0 (fun k=>Nat.beq k 8) [(1,[0]),(3,[0]),(5,[1])] ?_
   repeat' (first|refine rl7 ?_|refine rs7 ?_ ?_<;>intro h|fail)
   refine Dj hp ?_
   repeat' (first|refine rl7 ?_|refine rs7 ?_ ?_<;>intro h|fail)
   refine Dj hw ?_
   repeat' (first|refine rl7 ?_|refine rs7 ?_ ?_<;>intro h|fail)
   repeat' (first|refine rl2 ?_|refine rs2 ?_ ?_<;>intro h|fail)
   rfl
  ·exfalso;simp [hd] at h
 ·have hd:decide (a<0)≠decide (b<0):=by simpa using hs
  have hc:=Gz (limN a.natAbs) (limN b.natAbs) hal hbl
  rw [cmpL_val] at hc
  by_cases hlt:(a.natAbs:Int)<b.natAbs
  ·obtain ⟨mv,mo,_⟩:=minusL_val ob oa (Hq (by omega)) (by rw [va,vb];omega)
   have hm:=Z5 _ _ ob oa hbl
   have hw:=Em (decide (b<0)) mo (a+b) (by rw [mv,va,vb];by_cases h:b<0<;>simp [h]<;>omega)
   rw [show Cx (a.natAbs:Int) b.natAbs = -1 from if_pos hlt] at hc
   refine Af Tryz.func80 rfl rfl (Nat.le_of_ble_eq_true rfl) rfl (Nat.le_refl _) ?_
   repeat' (first|refine rl2 ?_|refine rs2 ?_ ?_<;>intro h|fail)
   ·exfalso;exact hd (of_decide_eq_true h)
   refine wp1 hc ?_
   repeat' (first|refine rl2 ?_|refine rs2 ?_ ?_<;>intro h|fail)
   refine b0 (fun k=>Nat.beq k 8) [(1,[1]),(3,[1]),(5,[0])] ?_
   repeat' (first|refine rl7 ?_|refine rs7 ?_ ?_<;>intro h|fail)
   refine Dj hm ?_
   repeat' (first|refine rl7 ?_|refine rs7 ?_ ?_<;>intro h|fail)
   refine Dj hw ?_
   repeat' (first|refine rl7 ?_|refine rs7 ?_ ?_<;>intro h|fail)
   repeat' (first|refine rl2 ?_|refine rs2 ?_ ?_<;>intro h|fail)
   rfl
  ·obtain ⟨mv,mo,_⟩:=minusL_val oa ob (Hq (by omega)) (by rw [va,vb];omega)
   have hm:=Z5 _ _ oa ob hal
   have hw:=Em (decide (a<0)) mo (a+b) (by rw [mv,va,vb];by_cases h:a<0<;>simp [h]<;>omega)
   obtain ⟨c,hcc,hc0⟩:∃ c:Int,Cx (a.natAbs:Int) b.natAbs=c/\0<=c:=⟨_,rfl,by unfold Cx;rw [if_neg hlt];split<;>omega⟩
   rw [hcc] at hc
   refine Af Tryz.func80 rfl rfl (Nat.le_of_ble_eq_true rfl) rfl (Nat.le_refl _) ?_
   repeat' (first|refine rl2 ?_|refine rs2 ?_ ?_<;>intro h|fail)
   ·exfalso;exact hd (of_decide_eq_true h)
   refine wp1 hc ?_
   repeat' (first|refine rl2 ?_|refine rs2 ?_ ?_<;>intro h|fail)
   ·exfalso;have:=of_decide_eq_true h;omega
   refine b0 (fun k=>Nat.beq k 8) [(1,[0]),(3,[0]),(5,[1])] ?_
   repeat' (first|refine rl7 ?_|refine rs7 ?_ ?_<;>intro h|fail)
   refine Dj hm ?_
   repeat' (first|refine rl7 ?_|refine rs7 ?_ ?_<;>intro h|fail)
   refine Dj hw ?_
   repeat' (first|refine rl7 ?_|refine rs7 ?_ ?_<;>intro h|fail)
   repeat' (first|refine rl2 ?_|refine rs2 ?_ ?_<;>intro h|fail)
   rfl
theorem wsub_do (a b:Int) (hal:(limN a.natAbs).length<=1000000) (hbl:(limN b.natAbs).length<=1000000):Aw 147 [whI a,whI b] ⟨[],[]⟩ (.ret (whI (a-b))) ⟨[],[]⟩:=by
 have h1:=Yx b
 have h2:=Yv a (-b) hal (by rw [Int.natAbs_neg];exact hbl)
 rw [show a + -b=a-b by omega] at h2
 refine Af Tryz.func147 rfl rfl (Nat.le_of_ble_eq_true rfl) rfl (Nat.le_refl _) ?_
 repeat' (first|refine rl2 ?_|refine rs2 ?_ ?_<;>intro h|fail)
 refine b0 (fun k=>Nat.beq k 4) [(0,[0]),(1,[1])] ?_
 repeat' (first|refine rl7 ?_|refine rs7 ?_ ?_<;>intro h|fail)
 refine Dj h1 ?_
 repeat' (first|refine rl7 ?_|refine rs7 ?_ ?_<;>intro h|fail)
 refine Dj h2 ?_
 repeat' (first|refine rl7 ?_|refine rs7 ?_ ?_<;>intro h|fail)
 repeat' (first|refine rl2 ?_|refine rs2 ?_ ?_<;>intro h|fail)
 rfl
theorem mulL_ok {m o:List Int} (hm:∀ z∈m,limbOk z) (ho:∀ z∈o,limbOk z):∀ z∈mulL m o,limbOk z:=Rw hm ho _
theorem H4 (a b:Int) (hal:(limN a.natAbs).length<=1000000) (hbl:(limN b.natAbs).length<=1000000):Aw 79 [whI a,whI b] ⟨[],[]⟩ (.ret (whI (a*b))) ⟨[],[]⟩:=by
 have oa:=limN_ok a.natAbs
 have ob:=limN_ok b.natAbs
 have h:=mul_do (decide (a<0)) (decide (b<0)) _ _ oa ob hal hbl
 rw [Abb _ (mulL_ok oa ob),mulL_val,limN_val,limN_val] at h
 have e:(if (!decide (decide (a<0)=decide (b<0)))=true then -((a.natAbs:Int)*b.natAbs) else (a.natAbs:Int)*b.natAbs)=a*b:=by
  rcases Int.lt_or_le a 0 with h1|h1
  ·rcases Int.lt_or_le b 0 with h2|h2
   ·rw [show (a.natAbs:Int) = -a by omega,show (b.natAbs:Int) = -b by omega];simp [h1,h2,Int.neg_mul_neg]
   ·rw [show (a.natAbs:Int) = -a by omega,show (b.natAbs:Int)=b by omega];simp [h1,show ¬ b<0 by omega,Int.neg_mul]
  ·rcases Int.lt_or_le b 0 with h2|h2
   ·rw [show (a.natAbs:Int)=a by omega,show (b.natAbs:Int) = -b by omega];simp [h2,show ¬ a<0 by omega,Int.mul_neg]
   ·rw [show (a.natAbs:Int)=a by omega,show (b.natAbs:Int)=b by omega];simp [show ¬ a<0 by omega,show ¬ b<0 by omega]
 rw [e] at h
 exact h
theorem cmpI_neg {a b:Int}:Cx (-a) (-b)=Cx b a:=by
 unfold Cx
 by_cases h1:a<b
 ·rw [if_neg (by omega),if_pos (by omega),if_neg (by omega),if_pos h1]
 ·by_cases h2:b<a
  ·rw [if_pos (by omega),if_pos h2]
  ·rw [if_neg (by omega),if_neg (by omega),if_neg h2,if_neg h1]
set_option maxHeartbeats 1000000 in
theorem wcmp_do (a b:Int) (hal:(limN a.natAbs).length<=1000000) (hbl:(limN b.natAbs).length<=1000000):Aw 84 [whI a,whI b] ⟨[],[]⟩ (.ret (An (Cx a b))) ⟨[],[]⟩:=by
 have s1:=Nv a
 have s2:=Nv b
 have hc:=Ad8 (Cx a 0) (Cx b 0)
 have c1:=Gz (limN a.natAbs) (limN b.natAbs) hal hbl
 have c2:=Gz (limN b.natAbs) (limN a.natAbs) hbl hal
 rw [cmpL_val] at c1 c2
 have hl:(((limN a.natAbs).map B8).length:Int)=(limN a.natAbs).length:=by simp
 have hz:(limN a.natAbs).length=0<->a=0:=by rw [List.length_eq_zero_iff,Z0]
 have key:Cx (Cx a 0) (Cx b 0)≠0->Cx (Cx a 0) (Cx b 0)=Cx a b:=by
  unfold Cx
  by_cases h1:a<0<;>by_cases h2:0<a<;>by_cases h3:b<0<;>by_cases h4:0<b<;>simp [h1,h2,h3,h4]<;>(try omega)<;>(try (rw [if_pos (by omega)]))<;>(try (rw [if_neg (by omega),if_pos (by omega)]))
 have key2:a=0->Cx (Cx a 0) (Cx b 0)=Cx a b:=by
  rintro rfl
  unfold Cx
  by_cases h3:b<0<;>by_cases h4:0<b<;>simp [h3,h4]<;>omega
 have key3:Cx (Cx a 0) (Cx b 0)=0->(a<0<->b<0):=by
  unfold Cx
  by_cases h1:a<0<;>by_cases h2:0<a<;>by_cases h3:b<0<;>by_cases h4:0<b<;>simp [h1,h2,h3,h4]
 generalize Cx (Cx a 0) (Cx b 0)=c at hc key key2 key3
 refine Af Tryz.func84 rfl rfl (Nat.le_of_ble_eq_true rfl) rfl (Nat.le_refl _) ?_
 repeat' (first|refine rl0 ?_|refine rs0 ?_ ?_<;>intro h|fail)
 refine wp1n s1 ?_
 repeat' (first|refine rl0 ?_|refine rs0 ?_ ?_<;>intro h|fail)
 refine wp1n s2 ?_
 repeat' (first|refine rl0 ?_|refine rs0 ?_ ?_<;>intro h|fail)
 refine wp1n hc ?_
 repeat' (first|refine rl0 ?_|refine rs0 ?_ ?_<;>intro h|fail)
 ·rw [key (by intro e;rw [e] at h;simp at h)]
 ·rename_i g
  rw [key2 (hz.1 (by have:=of_decide_eq_true h;omega))]
 ·rename_i g1 g2
  have hs:=key3 (R0 g1)
  have ha:=of_decide_eq_true h
  have hb:=hs.1 ha
  have e:Cx (b.natAbs:Int) a.natAbs=Cx a b:=by rw [show (b.natAbs:Int) = -b by omega,show (a.natAbs:Int) = -a by omega];exact cmpI_neg
  rw [e] at c2
  refine wp1 c2 ?_
  repeat' (first|refine rl0 ?_|refine rs0 ?_ ?_<;>intro h|fail)
  rfl
 ·rename_i g1 g2
  have hs:=key3 (R0 g1)
  have ha:=of_decide_eq_false h
  have hb:¬ b<0:=fun hb=>ha (hs.2 hb)
  have e:Cx (a.natAbs:Int) b.natAbs=Cx a b:=by rw [show (b.natAbs:Int)=b by omega,show (a.natAbs:Int)=a by omega]
  rw [e] at c1
  refine wp1 c1 ?_
  repeat' (first|refine rl0 ?_|refine rs0 ?_ ?_<;>intro h|fail)
  rfl
section
variable {N:Nat} {ops:Array Oper} {rest:List Oper} {o:Oper} {F:Nat->PV} {S:PS} {q:WRes->Prop} {U Ut:List Nat} {k:Nat} {bm:Bool} {D:List Nat}
theorem wsldn {t:TypeId} {x:Operand} {id:Nat} (off:Nat) {c:List PV} {dv:DV} (hg:Al ops F o=some true) (ho:o.op = .load t x) (hk:(Ba t && !(tyi t).isRow)=true) (hx:evP F x = .ptr id off) (hc:S.boxes[id]? = some c) (hp:c[off]? = some (.d dv))
  (kk:WA Tryz.prog N ops chN U Ut (k+1) rest (Cd N o.dst (.d dv) F) S bm D q):WA Tryz.prog N ops chN U Ut k (o::rest) F S bm D q:=by
 refine wan (C:=True) (r := .d dv) hg ?_ trivial kk
 rw [ho]
 simp only [Hd,Gm]
 rw [hk,hx]
 simp only [cond_true]
 rw [hc]
 dsimp only
 rw [hp];rfl
end
section
variable {N:Nat} {ops:Array Oper} {rest:List Oper} {o:Oper} {F:Nat->PV} {S S':PS} {q:WRes->Prop}
theorem wslBe {t:TypeId} {x:Operand} {low high:Option Operand} {id off n cap off' n' cap':Nat} {j h:Int} (hg:Al ops F o=some true) (ho:o.op = .slice t x low high none) (hk:(Ba t&&Nat.beq (tyi t).kind 2&&Nat.beq (tyi t).ek 1)=true) (hx:evP F x = .bsl 1 id off n cap) (hlo:loN F low=some j) (hhi:hiN F n high=some h) (h0:0<=j) (h1:j<=h) (h2:h<=n) (hcap:n<=cap) (hlt:j<cap)
  (e1:off+j.toNat=off') (e2:h.toNat-j.toNat=n') (e3:cap-j.toNat=cap') (kk:WK Tryz.prog N ops rest (Cd N o.dst (.bsl 1 id off' n' cap') F) S q):WK Tryz.prog N ops (o::rest) F S q:=by
 subst e1;subst e2;subst e3
 exact wslB hg ho hk hx hlo hhi h0 h1 h2 hcap hlt kk
end
section
variable {N:Nat} {ops:Array Oper} {rest:List Oper} {o:Oper} {F:Nat->PV} {S:PS} {q:WRes->Prop}
theorem wfld {t:TypeId} {x:Operand} {f:Nat} {l:List PV} {p:PV} {fs:Array Field} {fd:Field} (hg:Al ops F o=some true) (ho:o.op = .field t x f) (hx:evP F x = .agg l) (hfs:Tryz.prog.underlying t=some (.struct fs)) (hfd:fs[f]? = some fd) (hk:(Ba fd.type && !(tyi fd.type).isRow)=true) (hp:l[fd.offset]? = some p)
  (kk:WK Tryz.prog N ops rest (Cd N o.dst p F) S q):WK Tryz.prog N ops (o::rest) F S q:=by
 simp only [Bool.and_eq_true,Bool.not_eq_true'] at hk
 exact Eo hg (R9 ho hx hfs hfd rfl (Fj _ hk.1) rfl (.inr ⟨hk.2,hp⟩)) kk
end
theorem Ae8 (A:List Int) (j i:Nat):(A.drop j).getD i 0=A.getD (j+i) 0:=by
 simp [List.getD_eq_getElem?_getD]
theorem coe_dL {S:PS} {k:Nat} {l l':List (List DV)} (e:l=l'):Coe S (.d (.sl k l)) (.d (.sl k l')):=e▸Ac _
@[reducible] def dvS (A Q:List Int):PS:=⟨[Dw A,Dw Q],[]⟩
set_option maxHeartbeats 4000000 in
theorem Uc (m o:List Int) (n:Nat) (hm:∀ z∈m,limbOk z) (ho:∀ z∈o,limbOk z) (hl:o.length=n+2) (h0:0<o.getD (n+1) 0) (hlen:n+2<=m.length) (hml:m.length<=1000000) (hcmp:¬ cmpL m o<0) :
  Aw 145 [B3 m,B3 o] ⟨[],[]⟩ (.ret (.tup [B3 (divQ m o),B3 (qL (Ff o) (trimL ((divA m o).take (n+2)))).1])) ⟨[],[]⟩:=by
 have hT:Ff o=1000000000 / (o.getD (n+1) 0+1):=by unfold Ff;rw [hl];rfl
 obtain ⟨z1,z2,z3,z4,z5,z6,z7⟩:=Aej hm ho hl h0 hlen hT
 have hends:=fun A Q h=>div_ends (A:=A) (Q:=Q) ho hm hl h0 z5 z2 h
 have hsa:=Acn m (Ff o) hm z1 hml
 have hsb:=Ahf o (Ff o) ho z1 (by omega)
 have hcm:=Gz m o hml (by omega)
 obtain ⟨t1,t2⟩:=getD_ok ho (n+1)
 have hlo:((o.map B8).length:Int)=n+2:=by simp [hl]
 have hls:(((D1 o (Ff o)).map B8).length:Int)=n+3:=by rw [List.length_map,Lb,hl];omega
 refine Dl Tryz.func145 rfl rfl (Nat.le_of_ble_eq_true rfl) (fun _=>?_)
 refine C2 ?_
 repeat' (first|refine rl3 ?_|refine rs3 ?_ ?_<;>intro h|fail)
 refine C2 ?_
 repeat' (first|refine rl3 ?_|refine rs3 ?_ ?_<;>intro h|fail)
 refine wp1 hcm ?_
 repeat' (first|refine rl3 ?_|refine rs3 ?_ ?_<;>intro h|fail)
 ·exfalso;simp at h;omega
 refine C2 ?_
 repeat' (first|refine rl3 ?_|refine rs3 ?_ ?_<;>intro h|fail)
 ·exfalso;simp at h;omega
 refine C2 ?_
 repeat' (first|refine rl3 ?_|refine rs3 ?_ ?_<;>intro h|fail)
 refine wix (B8 (o.getD (n+1) 0)) rfl rfl rfl rfl rfl (by rw [hlo,show ((n:Int)+2-1)=((n+1:Nat):Int) by omega];exact E7 (by omega)) (by omega) ?_
 repeat' (first|refine rl3 ?_|refine rs3 ?_ ?_<;>intro h|fail)
 refine J9 (.d (.v (.int .u64 (o.getD (n+1) 0)))) rfl rfl rfl ⟨by show (0:Int)<=_;omega,by show _<=(18446744073709551615:Int);omega⟩ ?_
 repeat' (first|refine rl3 ?_|refine rs3 ?_ ?_<;>intro h|fail)
 obtain ⟨c1,c2⟩:=z1
 have z1:limbOk (Ff o):=⟨c1,c2⟩
 refine J9 (.d (.v (.int .u32 (1000000000 / (o.getD (n+1) 0+1))))) rfl rfl rfl ⟨by show (0:Int)<=_;omega,by show _<=(4294967295:Int);omega⟩ ?_
 repeat' (first|refine rl3 ?_|refine rs3 ?_ ?_<;>intro h|fail)
 refine Sa [(0,B3 m),(1,B3 o),(8,.d (.v (.int .u32 (Ff o))))] (Aa rfl (Aa rfl (Aa (by rw [hT];rfl) Ag))) ?_
 refine C2 ?_
 refine b0 (fun k=>Nat.beq k 2) [] ?_
 repeat' (first|refine rl7 ?_|refine rs7 ?_ ?_<;>intro h|fail)
 refine bnew hsa ?_ rfl W5 ?_
 ·show (PV.ltL 0 0 (Dw _)&&true)=true
  rw [Ee];rfl
 repeat' (first|refine rl7 ?_|refine rs7 ?_ ?_<;>intro h|fail)
 refine Dj hsb ?_
 repeat' (first|refine rl7 ?_|refine rs7 ?_ ?_<;>intro h|fail)
 refine Sa [(8,.d (.v (.int .u32 (Ff o)))),(9,.bsl 1 0 0 (m.length+1) (m.length+1)),(10,B3 ((D1 o (Ff o)).take (n+2)))] (Aa rfl (Aa rfl (Aa ?_ Ag))) ?_
 ·show PV.d (.sl 1 ((((D1 o (Ff o)).map B8).take ((o.map B8).length:Int).toNat).drop (0:Int).toNat))=PV.d (.sl 1 (((D1 o (Ff o)).take (n+2)).map B8))
  rw [hlo,show ((n:Int)+2).toNat=n+2 by omega,List.map_take];rfl
 generalize (D1 o (Ff o)).take (n+2)=B at z3 z4 z5 z6 z7 hends |-
 have hlB:((B.map B8).length:Int)=n+2:=by rw [List.length_map];omega
 refine C2 ?_
 repeat' (first|refine rl3 ?_|refine rs3 ?_ ?_<;>intro h|fail)
 refine Sa [(8,.d (.v (.int .u32 (Ff o)))),(9,.bsl 1 0 0 (m.length+1) (m.length+1)),(10,B3 B),(11,An ((n+2:Nat)))] (Aa rfl (Aa rfl (Aa rfl (Aa (by rw [show ((n+2:Nat):Int)=((B.map B8).length:Int) by omega];rfl) Ag)))) ?_
 refine C2 ?_
 repeat' (first|refine rl3 ?_|refine rs3 ?_ ?_<;>intro h|fail)
 refine Abc (n:=m.length-(n+1)) (.int .u32 0) rfl rfl rfl rfl rfl (by show PV.d (.v (.int .i64 (((m.length+1:Nat):Int)-((n+2:Nat):Int))))=_;rw [show ((m.length+1:Nat):Int)-((n+2:Nat):Int)=((m.length-(n+1):Nat):Int) by omega]) (by show PV.d (.v (.int .i64 (((m.length+1:Nat):Int)-((n+2:Nat):Int))))=_;rw [show ((m.length+1:Nat):Int)-((n+2:Nat):Int)=((m.length-(n+1):Nat):Int) by omega]) (by show 4*(m.length-(n+1))<=_;omega) (by omega) ?_
 repeat' (first|refine rl3 ?_|refine rs3 ?_ ?_<;>intro h|fail)
 refine Aal (ι := List Int×List Int) (ok:=fun p=>DivOk m B n (Ff o) p.1 p.2 0) (L:=fun p=>[(8,.d (.v (.int .u32 (Ff o)))),(9,.bsl 1 0 0 (m.length+1) (m.length+1)),(11,An ((n+2:Nat))),(12,.bsl 1 1 0 (m.length-(n+1)) (m.length-(n+1)))]) (Sx:=fun p=>dvS p.1 p.2) ?_ ?_
 ·refine Co ?_
  repeat' (first|refine rl3 ?_|refine rs3 ?_ ?_<;>intro h|fail)
  refine C7 ?_
  refine Ca (ι := List Int×List Int×Nat) (ok:=fun p=>DivOk m B n (Ff o) p.1 p.2.1 p.2.2) (L:=fun p=>[(8,.d (.v (.int .u32 (Ff o)))),(9,.bsl 1 0 0 (m.length+1) (m.length+1)),(10,B3 B),(11,An ((n+2:Nat))),(12,.bsl 1 1 0 (m.length-(n+1)) (m.length-(n+1))),(13,An ((p.2.2:Int)-1))]) (Sx:=fun p=>dvS p.1 p.2.1) (μ := fun p=>p.2.2) (D1 m (Ff o),List.replicate (m.length-(n+1)) 0,m.length-(n+1)) z7 ?_ ?_ ?_
  ·refine Aa rfl (Aa rfl (Aa rfl (Aa rfl (Aa rfl (Aa ?_ Ag)))))
   show PV.d (.v (.int .i64 (((m.length+1:Nat):Int)-((n+2:Nat):Int)-1)))=PV.d (.v (.int .i64 (((m.length-(n+1):Nat):Int)-1)))
   rw [show ((m.length+1:Nat):Int)-((n+2:Nat):Int)=((m.length-(n+1):Nat):Int) by omega]
  ·simp [dvS,PS.addBox,PS.more,Zy]
  rintro ⟨A,Q,j⟩ hd
  dsimp only at hd |-
  cases j with
  |zero =>
   repeat' (first|refine rl2 ?_|refine rs2 ?_ ?_<;>intro h|fail)
   exact ⟨(A,Q),hd,(by repeat (first|exact Ag|refine Aa rfl ?_)),rfl⟩
  |succ j =>
  have la:=hd.la
  have lq:=hd.lq
  have hj:=hd.hj
  have hDlt:=hd.dlt
  have hU:∀ z∈A.drop j,limbOk z:=fun z hz=>hd.oka z (List.mem_of_mem_drop hz)
  have hVlt:valL B<1000000000 ^ (n+2):=by have:=Cn z3;rwa [z4] at this
  have hzU:=Im hU (n:=n+3) (by rw [Int.pow_succ];omega)
  obtain ⟨ld,hDe,hld0,hld1⟩:=Ahz hU (n:=n) (by rw [List.length_drop];omega) hzU
  obtain ⟨lv,hVe,hlv0,hlv1⟩:=top_two z3 z4
  simp only [Ae8] at hDe
  obtain ⟨x2,y2⟩:=getD_ok hd.oka (j+(n+2))
  obtain ⟨x1,y1⟩:=getD_ok hd.oka (j+(n+1))
  obtain ⟨x0,y0⟩:=getD_ok hd.oka (j+n)
  obtain ⟨v1,w1⟩:=getD_ok z3 (n+1)
  obtain ⟨v2,w2⟩:=getD_ok z3 n
  have hP:=K7 n
  have htop:=top_lt hP hVe hDe hlv1 hld0 x0 hDlt
  have hg2:(Dw A)[j+(n+2)]? = some (.d (.v (.int .u32 (A.getD (j+(n+2)) 0)))):=Nh (by omega)
  have hg1:(Dw A)[j+(n+1)]? = some (.d (.v (.int .u32 (A.getD (j+(n+1)) 0)))):=Nh (by omega)
  have hg0:(Dw A)[j+n]? = some (.d (.v (.int .u32 (A.getD (j+n) 0)))):=Nh (by omega)
  generalize A.getD (j+(n+2)) 0=u2 at *
  generalize A.getD (j+(n+1)) 0=u1 at *
  generalize A.getD (j+n) 0=u0 at *
  repeat' (first|refine rl2 ?_|refine rs2 ?_ ?_<;>intro h|fail)
  ·refine Eu chN [] [] rfl (by kernel_rfl) ?_
   repeat' (first|refine rl2 ?_|refine rs2 ?_ ?_<;>intro h|fail)
   refine wsldn (id:=0) (j+(n+2)) rfl rfl rfl (by show PV.ptr 0 (0+(((j+1:Nat):Int)-1+((n+2:Nat):Int)).toNat*1)=_;rw [show 0+(((j+1:Nat):Int)-1+((n+2:Nat):Int)).toNat*1=j+(n+2) by omega]) rfl hg2 ?_
   repeat' (first|refine rl2 ?_|refine rs2 ?_ ?_<;>intro h|fail)
   refine wan (r := .d (.v (.int .u64 u2))) rfl rfl ⟨by show (0:Int)<=_;omega,by show _<=(18446744073709551615:Int);omega⟩ ?_
   repeat' (first|refine rl2 ?_|refine rs2 ?_ ?_<;>intro h|fail)
   refine wsldn (id:=0) (j+(n+1)) rfl rfl rfl (by show PV.ptr 0 (0+(((j+1:Nat):Int)-1+((n+2:Nat):Int)-1).toNat*1)=_;rw [show 0+(((j+1:Nat):Int)-1+((n+2:Nat):Int)-1).toNat*1=j+(n+1) by omega]) rfl hg1 ?_
   repeat' (first|refine rl2 ?_|refine rs2 ?_ ?_<;>intro h|fail)
   refine wan (r := .d (.v (.int .u64 u1))) rfl rfl ⟨by show (0:Int)<=_;omega,by show _<=(18446744073709551615:Int);omega⟩ ?_
   repeat' (first|refine rl2 ?_|refine rs2 ?_ ?_<;>intro h|fail)
   refine wix (B8 (B.getD (n+1) 0)) rfl rfl rfl rfl rfl (by rw [show (((n+2:Nat):Int)-1)=((n+1:Nat):Int) by omega];exact E7 (by omega)) (by omega) ?_
   repeat' (first|refine rl2 ?_|refine rs2 ?_ ?_<;>intro h|fail)
   refine J9 (.d (.v (.int .u64 (B.getD (n+1) 0)))) rfl rfl rfl ⟨by show (0:Int)<=_;omega,by show _<=(18446744073709551615:Int);omega⟩ ?_
   repeat' (first|refine rl2 ?_|refine rs2 ?_ ?_<;>intro h|fail)
   generalize htp:u2*1000000000+u1=tp at *
   have htp0:0<=tp:=by omega
   have hq0:0<=tp / B.getD (n+1) 0:=Int.ediv_nonneg htp0 v1
   have hq1:tp / B.getD (n+1) 0*B.getD (n+1) 0<=tp:=Int.ediv_mul_le _ (by omega)
   have hq2:tp<(tp / B.getD (n+1) 0+1)*B.getD (n+1) 0:=by have:=Int.lt_ediv_add_one_mul_self tp z6;exact this
   have hgi:∃ g,(0<=g/\g<=999999999/\valL (A.drop j)<(g+1)*valL B/\0<=tp-g*B.getD (n+1) 0/\tp-g*B.getD (n+1) 0<=2000000000)/\(if 999999999<tp / B.getD (n+1) 0 then 999999999 else tp / B.getD (n+1) 0)=g:=by
    refine ⟨_,?_,rfl⟩
    by_cases hc:tp / B.getD (n+1) 0<=999999999
    ·rw [if_neg (by omega)]
     refine ⟨hq0,hc,Od hP hVe hDe hlv0 hld1 y0 v2 z6 (.inr rfl) hq0,by omega,?_⟩
     rw [Int.add_mul] at hq2
     omega
    ·rw [if_pos (by omega)]
     refine ⟨by decide,by decide,Od hP hVe hDe hlv0 hld1 y0 v2 z6 (.inl ⟨rfl,hDlt⟩) (by decide),?_,by omega⟩
     have:999999999*B.getD (n+1) 0<=tp / B.getD (n+1) 0*B.getD (n+1) 0:=Int.mul_le_mul_of_nonneg_right (by omega) v1
     omega
   obtain ⟨g0,hg0',hgm⟩:=hgi
   refine Ca (ι := Int) (ok:=fun g=>0<=g/\g<=999999999/\valL (A.drop j)<(g+1)*valL B/\0<=tp-g*B.getD (n+1) 0/\tp-g*B.getD (n+1) 0<=2000000000) (L:=fun g=>[(8,.d (.v (.int .u32 (Ff o)))),(9,.bsl 1 0 0 (m.length+1) (m.length+1)),(10,B3 B),(11,An ((n+2:Nat))),(12,.bsl 1 1 0 (m.length-(n+1)) (m.length-(n+1))),(13,An (((j+1:Nat):Int)-1)),(14,.d (.v (.int .u64 tp))),(15,.d (.v (.int .u64 g)))]) (Sx:=fun _=>dvS A Q) (μ := fun g=>g.toNat) g0 hg0' ?_ rfl ?_
   ·refine Aa rfl (Aa rfl (Aa rfl (Aa rfl (Aa rfl (Aa rfl (Aa rfl (Aa ?_ Ag)))))))
    show PV.d (.v (.int .u64 (if 999999999<tp / B.getD (n+1) 0 then 999999999 else tp / B.getD (n+1) 0)))=_
    rw [hgm]
   rintro g ⟨k1,k2,k3,k4,k5⟩
   have hm1:=Int.mul_nonneg k1 v1
   have hm2:=Int.mul_nonneg k1 v2
   have hm3:g*B.getD n 0<=1000000000*1000000000:=Int.mul_le_mul (by omega) (by omega) v2 (by omega)
   repeat' (first|refine rl2 ?_|refine rs2 ?_ ?_<;>intro h|fail)
   refine Eu chN [] [] rfl (by kernel_rfl) ?_
   repeat' (first|refine rl2 ?_|refine rs2 ?_ ?_<;>intro h|fail)
   refine Tj (B8 (B.getD n 0)) rfl rfl rfl rfl rfl (by rw [show (((n+2:Nat):Int)-2)=((n:Nat):Int) by omega];exact E7 (by omega)) (by omega) ?_
   repeat' (first|refine rl2 ?_|refine rs2 ?_ ?_<;>intro h|fail)
   refine wan (r := .d (.v (.int .u64 (B.getD n 0)))) rfl rfl ⟨by show (0:Int)<=_;omega,by show _<=(18446744073709551615:Int);omega⟩ ?_
   repeat' (first|refine rl2 ?_|refine rs2 ?_ ?_<;>intro h|fail)
   refine Tj (B8 (B.getD (n+1) 0)) rfl rfl rfl rfl rfl (by rw [show (((n+2:Nat):Int)-1)=((n+1:Nat):Int) by omega];exact E7 (by omega)) (by omega) ?_
   repeat' (first|refine rl2 ?_|refine rs2 ?_ ?_<;>intro h|fail)
   refine wan (r := .d (.v (.int .u64 (B.getD (n+1) 0)))) rfl rfl ⟨by show (0:Int)<=_;omega,by show _<=(18446744073709551615:Int);omega⟩ ?_
   repeat' (first|refine rl2 ?_|refine rs2 ?_ ?_<;>intro h|fail)
   refine wsldn (id:=0) (j+n) rfl rfl rfl (by show PV.ptr 0 (0+(((j+1:Nat):Int)-1+((n+2:Nat):Int)-2).toNat*1)=_;rw [show 0+(((j+1:Nat):Int)-1+((n+2:Nat):Int)-2).toNat*1=j+n by omega]) rfl hg0 ?_
   repeat' (first|refine rl2 ?_|refine rs2 ?_ ?_<;>intro h|fail)
   refine wan (r := .d (.v (.int .u64 u0))) rfl rfl ⟨by show (0:Int)<=_;omega,by show _<=(18446744073709551615:Int);omega⟩ ?_
   repeat' (first|refine rl2 ?_|refine rs2 ?_ ?_<;>intro h|fail)
   ·have h':=of_decide_eq_true h
    refine Tj (B8 (B.getD (n+1) 0)) rfl rfl rfl rfl rfl (by rw [show (((n+2:Nat):Int)-1)=((n+1:Nat):Int) by omega];exact E7 (by omega)) (by omega) ?_
    repeat' (first|refine rl2 ?_|refine rs2 ?_ ?_<;>intro h|fail)
    refine wan (r := .d (.v (.int .u64 (B.getD (n+1) 0)))) rfl rfl ⟨by show (0:Int)<=_;omega,by show _<=(18446744073709551615:Int);omega⟩ ?_
    repeat' (first|refine rl2 ?_|refine rs2 ?_ ?_<;>intro h|fail)
    ·have h2:=of_decide_eq_true ‹decide (tp-g*B.getD (n+1) 0<1000000000)=true›
     have hg1:1<=g:=by
      refine Int.not_lt.1 fun hlt=>?_
      obtain rfl:g=0:=by omega
      rw [Int.zero_mul,Int.zero_mul] at h'
      omega
     repeat' (first|refine rl2 ?_|refine rs2 ?_ ?_<;>intro h|fail)
     refine ⟨g-1,⟨by omega,by omega,?_,?_,?_⟩,by omega,(by repeat (first|exact Ag|refine Aa rfl ?_)),rfl⟩
     ·rw [Int.sub_add_cancel];exact Abv hP hVe hDe hlv0 hld1 k1 h'
     ·rw [Int.sub_mul];omega
     ·rw [Int.sub_mul];omega
    ·have h2:=of_decide_eq_false ‹decide (tp-g*B.getD (n+1) 0<1000000000)=false›
     have hor:g*B.getD n 0<=(tp-g*B.getD (n+1) 0)*1000000000+u0\/1000000000<=tp-g*B.getD (n+1) 0 := .inr (by omega)
     have hlast:=Qa hP hVe hDe hlv0 hlv1 hld0 x0 v2 w2 z6 k1 k2 hor
     obtain ⟨r,hr⟩:∃ r,(if Ku (A.drop j) B g=true then (g-1,Il (Dm (A.drop j) B g) B) else (g,Dm (A.drop j) B g))=r:=⟨_,rfl⟩
     obtain ⟨s1,s2,s3⟩:=hd.step z3 z4 ⟨k1,by omega⟩ k3 hlast hr
     have hls2:=Afm (A.take j) (A.drop j) B g (m.length+1-j) hU z3 ⟨k1,by omega⟩ (by rw [List.length_drop];omega) (by rw [List.length_take,List.length_drop];omega)
     rw [List.take_append_drop] at hls2
     have hgn:=Ae5 (A.take j) (Dm (A.drop j) B g) B (m.length+1-j) (Jd hU z3 ⟨k1,by omega⟩ (B.length+1)).1 z3 (by rw [show (Dm (A.drop j) B g).length=(A.drop j).length from Ch _ _ _ _,List.length_drop];omega) (by rw [show (Dm (A.drop j) B g).length=(A.drop j).length from Ch _ _ _ _,List.length_take,List.length_drop];omega)
     rw [show (Dm (A.drop j) B g).length=(A.drop j).length from Ch _ _ _ _] at hgn
     refine wslBe (id:=0) (off':=(A.take j).length) (n':=(A.drop j).length) (cap':=m.length+1-j) (j:=((j+1:Nat):Int)-1) (h:=((m.length+1:Nat):Int)) rfl rfl rfl rfl rfl rfl (by omega) (by omega) (by omega) (Nat.le_refl _) (by omega) (by rw [List.length_take];omega) (by rw [List.length_drop];omega) (by omega) ?_
     repeat' (first|refine rl2 ?_|refine rs2 ?_ ?_<;>intro h|fail)
     refine wb1 0 hls2 (hl0:=Ee _) (hl1:=Ee _) ?_
     repeat' (first|refine rl2 ?_|refine rs2 ?_ ?_<;>intro h|fail)
     ·have hb:Ku (A.drop j) B g=true:=h
      have hg1:=s3 hb
      rw [if_pos hb] at hr
      subst hr
      repeat' (first|refine rl2 ?_|refine rs2 ?_ ?_<;>intro h|fail)
      refine wslBe (id:=0) (off':=(A.take j).length) (n':=(A.drop j).length) (cap':=m.length+1-j) (j:=((j+1:Nat):Int)-1) (h:=((m.length+1:Nat):Int)) rfl rfl rfl rfl rfl rfl (by omega) (by omega) (by omega) (Nat.le_refl _) (by omega) (by rw [List.length_take];omega) (by rw [List.length_drop];omega) (by omega) ?_
      repeat' (first|refine rl2 ?_|refine rs2 ?_ ?_<;>intro h|fail)
      refine wb1 0 hgn (hl0:=Ee _) (hl1:=Ee _) ?_
      repeat' (first|refine rl2 ?_|refine rs2 ?_ ?_<;>intro h|fail)
      try (refine J9 (.d (.v (.int .u32 (g-1)))) rfl rfl rfl ⟨by show (0:Int)<=_;omega,by show _<=(4294967295:Int);omega⟩ ?_)
      repeat' (first|refine rl2 ?_|refine rs2 ?_ ?_<;>intro h|fail)
      refine Adh (id:=1) (dv := .v (.int .u32 (g-1))) (S':=dvS (A.take j++Il (Dm (A.drop j) B g) B) (Q.set j (g-1))) j rfl rfl rfl (by show PV.ptr 1 (0+(((j+1:Nat):Int)-1).toNat*1)=_;rw [show 0+(((j+1:Nat):Int)-1).toNat*1=j by omega]) rfl rfl (by rw [E1];omega) (by show (⟨[_,(Dw Q).set j (.d (.v (.int .u32 (g-1))))],[]⟩:PS)=_;rw [Jb]) ?_
      repeat' (first|refine rl2 ?_|refine rs2 ?_ ?_<;>intro h|fail)
      refine ⟨((A.take j++Il (Dm (A.drop j) B g) B),Q.set j (g-1),j),s1,Nat.lt_succ_self _,?_,rfl⟩
      refine Aa rfl (Aa rfl (Aa rfl (Aa rfl (Aa rfl (Aa ?_ Ag)))))
      show PV.d (.v (.int .i64 (((j+1:Nat):Int)-1-1)))=PV.d (.v (.int .i64 ((j:Int)-1)))
      rw [show ((j+1:Nat):Int)-1=(j:Int) by omega]
     ·have hb:¬ Ku (A.drop j) B g=true:=by rw [h];simp
      rw [if_neg hb] at hr
      subst hr
      repeat' (first|refine rl2 ?_|refine rs2 ?_ ?_<;>intro h|fail)
      try (refine J9 (.d (.v (.int .u32 g))) rfl rfl rfl ⟨by show (0:Int)<=_;omega,by show _<=(4294967295:Int);omega⟩ ?_)
      repeat' (first|refine rl2 ?_|refine rs2 ?_ ?_<;>intro h|fail)
      refine Adh (id:=1) (dv := .v (.int .u32 (g))) (S':=dvS (A.take j++Dm (A.drop j) B g) (Q.set j (g))) j rfl rfl rfl (by show PV.ptr 1 (0+(((j+1:Nat):Int)-1).toNat*1)=_;rw [show 0+(((j+1:Nat):Int)-1).toNat*1=j by omega]) rfl rfl (by rw [E1];omega) (by show (⟨[_,(Dw Q).set j (.d (.v (.int .u32 (g))))],[]⟩:PS)=_;rw [Jb]) ?_
      repeat' (first|refine rl2 ?_|refine rs2 ?_ ?_<;>intro h|fail)
      refine ⟨((A.take j++Dm (A.drop j) B g),Q.set j (g),j),s1,Nat.lt_succ_self _,?_,rfl⟩
      refine Aa rfl (Aa rfl (Aa rfl (Aa rfl (Aa rfl (Aa ?_ Ag)))))
      show PV.d (.v (.int .i64 (((j+1:Nat):Int)-1-1)))=PV.d (.v (.int .i64 ((j:Int)-1)))
      rw [show ((j+1:Nat):Int)-1=(j:Int) by omega]
   ·have h':=of_decide_eq_false h
    have hor:g*B.getD n 0<=(tp-g*B.getD (n+1) 0)*1000000000+u0\/1000000000<=tp-g*B.getD (n+1) 0 := .inl (by omega)
    have hlast:=Qa hP hVe hDe hlv0 hlv1 hld0 x0 v2 w2 z6 k1 k2 hor
    obtain ⟨r,hr⟩:∃ r,(if Ku (A.drop j) B g=true then (g-1,Il (Dm (A.drop j) B g) B) else (g,Dm (A.drop j) B g))=r:=⟨_,rfl⟩
    obtain ⟨s1,s2,s3⟩:=hd.step z3 z4 ⟨k1,by omega⟩ k3 hlast hr
    have hls2:=Afm (A.take j) (A.drop j) B g (m.length+1-j) hU z3 ⟨k1,by omega⟩ (by rw [List.length_drop];omega) (by rw [List.length_take,List.length_drop];omega)
    rw [List.take_append_drop] at hls2
    have hgn:=Ae5 (A.take j) (Dm (A.drop j) B g) B (m.length+1-j) (Jd hU z3 ⟨k1,by omega⟩ (B.length+1)).1 z3 (by rw [show (Dm (A.drop j) B g).length=(A.drop j).length from Ch _ _ _ _,List.length_drop];omega) (by rw [show (Dm (A.drop j) B g).length=(A.drop j).length from Ch _ _ _ _,List.length_take,List.length_drop];omega)
    rw [show (Dm (A.drop j) B g).length=(A.drop j).length from Ch _ _ _ _] at hgn
    refine wslBe (id:=0) (off':=(A.take j).length) (n':=(A.drop j).length) (cap':=m.length+1-j) (j:=((j+1:Nat):Int)-1) (h:=((m.length+1:Nat):Int)) rfl rfl rfl rfl rfl rfl (by omega) (by omega) (by omega) (Nat.le_refl _) (by omega) (by rw [List.length_take];omega) (by rw [List.length_drop];omega) (by omega) ?_
    repeat' (first|refine rl2 ?_|refine rs2 ?_ ?_<;>intro h|fail)
    refine wb1 0 hls2 (hl0:=Ee _) (hl1:=Ee _) ?_
    repeat' (first|refine rl2 ?_|refine rs2 ?_ ?_<;>intro h|fail)
    ·have hb:Ku (A.drop j) B g=true:=h
     have hg1:=s3 hb
     rw [if_pos hb] at hr
     subst hr
     repeat' (first|refine rl2 ?_|refine rs2 ?_ ?_<;>intro h|fail)
     refine wslBe (id:=0) (off':=(A.take j).length) (n':=(A.drop j).length) (cap':=m.length+1-j) (j:=((j+1:Nat):Int)-1) (h:=((m.length+1:Nat):Int)) rfl rfl rfl rfl rfl rfl (by omega) (by omega) (by omega) (Nat.le_refl _) (by omega) (by rw [List.length_take];omega) (by rw [List.length_drop];omega) (by omega) ?_
     repeat' (first|refine rl2 ?_|refine rs2 ?_ ?_<;>intro h|fail)
     refine wb1 0 hgn (hl0:=Ee _) (hl1:=Ee _) ?_
     repeat' (first|refine rl2 ?_|refine rs2 ?_ ?_<;>intro h|fail)
     try (refine J9 (.d (.v (.int .u32 (g-1)))) rfl rfl rfl ⟨by show (0:Int)<=_;omega,by show _<=(4294967295:Int);omega⟩ ?_)
     repeat' (first|refine rl2 ?_|refine rs2 ?_ ?_<;>intro h|fail)
     refine Adh (id:=1) (dv := .v (.int .u32 (g-1))) (S':=dvS (A.take j++Il (Dm (A.drop j) B g) B) (Q.set j (g-1))) j rfl rfl rfl (by show PV.ptr 1 (0+(((j+1:Nat):Int)-1).toNat*1)=_;rw [show 0+(((j+1:Nat):Int)-1).toNat*1=j by omega]) rfl rfl (by rw [E1];omega) (by show (⟨[_,(Dw Q).set j (.d (.v (.int .u32 (g-1))))],[]⟩:PS)=_;rw [Jb]) ?_
     repeat' (first|refine rl2 ?_|refine rs2 ?_ ?_<;>intro h|fail)
     refine ⟨((A.take j++Il (Dm (A.drop j) B g) B),Q.set j (g-1),j),s1,Nat.lt_succ_self _,?_,rfl⟩
     refine Aa rfl (Aa rfl (Aa rfl (Aa rfl (Aa rfl (Aa ?_ Ag)))))
     show PV.d (.v (.int .i64 (((j+1:Nat):Int)-1-1)))=PV.d (.v (.int .i64 ((j:Int)-1)))
     rw [show ((j+1:Nat):Int)-1=(j:Int) by omega]
    ·have hb:¬ Ku (A.drop j) B g=true:=by rw [h];simp
     rw [if_neg hb] at hr
     subst hr
     repeat' (first|refine rl2 ?_|refine rs2 ?_ ?_<;>intro h|fail)
     try (refine J9 (.d (.v (.int .u32 g))) rfl rfl rfl ⟨by show (0:Int)<=_;omega,by show _<=(4294967295:Int);omega⟩ ?_)
     repeat' (first|refine rl2 ?_|refine rs2 ?_ ?_<;>intro h|fail)
     refine Adh (id:=1) (dv := .v (.int .u32 (g))) (S':=dvS (A.take j++Dm (A.drop j) B g) (Q.set j (g))) j rfl rfl rfl (by show PV.ptr 1 (0+(((j+1:Nat):Int)-1).toNat*1)=_;rw [show 0+(((j+1:Nat):Int)-1).toNat*1=j by omega]) rfl rfl (by rw [E1];omega) (by show (⟨[_,(Dw Q).set j (.d (.v (.int .u32 (g))))],[]⟩:PS)=_;rw [Jb]) ?_
     repeat' (first|refine rl2 ?_|refine rs2 ?_ ?_<;>intro h|fail)
     refine ⟨((A.take j++Dm (A.drop j) B g),Q.set j (g),j),s1,Nat.lt_succ_self _,?_,rfl⟩
     refine Aa rfl (Aa rfl (Aa rfl (Aa rfl (Aa rfl (Aa ?_ Ag)))))
     show PV.d (.v (.int .i64 (((j+1:Nat):Int)-1-1)))=PV.d (.v (.int .i64 ((j:Int)-1)))
     rw [show ((j+1:Nat):Int)-1=(j:Int) by omega]
  ·exfalso;simp at h
 ·rintro ⟨A,Q⟩ hd
  dsimp only at hd |-
  have la:=hd.la
  have lq:=hd.lq
  have hoka:=hd.oka
  obtain ⟨rfl,rfl⟩:=hends A Q hd
  refine On 0 0 [(8,.d (.v (.int .u32 (Ff o)))),(9,B3 (divA m o)),(11,An ((n+2:Nat))),(12,B3 (divQ m o))] (Nat.le_refl _) (Nat.le_refl _) (by simp) (Eg K9 (Eg ?_ (Eg K9 (Eg ?_ Si)))) ?_
  ·have h:=Ox (S:=dvS (divA m o) (divQ m o)) (n:=0) (m:=0) (k:=1) (id:=0) (cap:=m.length+1) (ds:=(divA m o).map fun x => .v (.int .u32 x)) (by simp [Dw]) (Nat.zero_le _) (by simp;omega) (by omega)
   rw [List.length_map,la,List.map_map] at h
   exact h
  ·have h:=Ox (S:=dvS (divA m o) (divQ m o)) (n:=0) (m:=0) (k:=1) (id:=1) (cap:=m.length-(n+1)) (ds:=(divQ m o).map fun x => .v (.int .u32 x)) (by simp [Dw]) (Nat.zero_le _) (by simp;omega) (by omega)
   rw [List.length_map,lq,List.map_map] at h
   exact h
  rw [cut00]
  generalize divA m o=A at *
  have hlA:((A.map B8).length:Int)=m.length+1:=by rw [List.length_map];omega
  have hsh:=Sp (trimL (A.take (n+2))) (Ff o) (Nat.le_trans (Lh _) (by rw [List.length_take];omega)) (Li fun z hz=>hoka z (List.mem_of_mem_take hz)) z1 (by omega)
  have hwh:Aw 112 [At false,B3 (A.take (n+2))] ⟨[],[]⟩ (.ret (.agg [At false,B3 (trimL (A.take (n+2)))])) ⟨[],[]⟩:=Ti false (A.take (n+2))
  refine Sb ?_
  repeat' (first|refine rl1 ?_|refine rs1 ?_ ?_<;>intro h|fail)
  refine wp1 hwh ?_ (ha:=Ab (Ac _) (Ab (coe_dL ?_) Ae))
  ·refine wfld rfl rfl rfl Tryz.underlying75 rfl rfl rfl ?_
   repeat' (first|refine rl0 ?_|refine rs0 ?_ ?_<;>intro h|fail)
   refine wp1 hsh ?_
   repeat' (first|refine rl0 ?_|refine rs0 ?_ ?_<;>intro h|fail)
   exact Zk (.inr rfl) rfl rfl (Ag9 (B7 K9 (B7 K9 Gl)))
  ·rw [Int.toNat_natCast,List.map_take];rfl
def dvP (a b:Nat):List Int×List Int :=
 if a<b then ([],limN a)
 else if (limN b).length=1 then ((qL b (limN a)).1,[(qL b (limN a)).2])
 else (divQ (limN a) (limN b),(qL (Ff (limN b)) (trimL ((divA (limN a) (limN b)).take (limN b).length))).1)
theorem Jc {b:Nat} (h:(limN b).length=1):limN b=[(b:Int)]/\b<1000000000:=by
 have h1:=limN_len' (Nat.le_of_eq h)
 rw [Nat.pow_one] at h1
 refine ⟨?_,h1⟩
 have h0:b≠0:=by rintro rfl;rw [limN_zero] at h;simp at h
 rw [limN_pos h0,Nat.mod_eq_of_lt h1,Nat.div_eq_of_lt h1,limN_zero]
theorem Zz {b:Nat} (hb:0<b) (h:(limN b).length≠1):∃ n,(limN b).length=n+2/\0<(limN b).getD (n+1) 0:=by
 have h0:(limN b).length≠0:=fun e=>by
  have:=limN_nil.1 (List.length_eq_zero_iff.1 e)
  omega
 obtain ⟨n,hn⟩:∃ n,(limN b).length=n+2:=⟨(limN b).length-2,by omega⟩
 refine ⟨n,hn,Int.not_le.1 fun hle=>?_⟩
 have hz:(limN b).getD (n+1) 0=0:=by have:=(getD_ok (limN_ok b) (n+1)).1;omega
 have hlt:=Nu (limN_ok b) (n:=n+1) fun j hj=>by
  rcases Nat.lt_or_ge j (n+2) with h|h
  ·rw [show j=n+1 by omega];exact hz
  ·exact Hp (by omega)
 have hlow:=limN_low (n:=b) (by omega)
 rw [hn,show n+2-1=n+1 by omega] at hlow
 rw [limN_val] at hlt
 have:((1000000000 ^ (n+1):Nat):Int)<=b:=Int.ofNat_le.2 hlow
 rw [Int.natCast_pow] at this
 have e:((1000000000:Nat):Int)=1000000000:=rfl
 rw [e] at this
 omega
theorem Ls (a b:Nat) (hb:0<b) (hal:(limN a).length<=1000000) (hbl:(limN b).length<=1000000):Aw 145 [B3 (limN a),B3 (limN b)] ⟨[],[]⟩ (.ret (.tup [B3 (dvP a b).1,B3 (dvP a b).2])) ⟨[],[]⟩:=by
 have hcm:=Gz (limN a) (limN b) hal hbl
 rw [cmpL_val] at hcm
 unfold dvP
 by_cases hlt:a<b
 ·rw [if_pos hlt]
  have hc:Cx a b<0:=by unfold Cx;split<;>omega
  refine Dy (r' := .tup [.d (.v (.slice none 0 0)),B3 (limN a)]) ?_ (Hl (Ab Er (Ab (Ac _) Ae)))
  refine Af Tryz.func145 rfl rfl (Nat.le_of_ble_eq_true rfl) rfl (Nat.le_refl _) ?_
  repeat' (first|refine rl0 ?_|refine rs0 ?_ ?_<;>intro h|fail)
  refine wp1 hcm ?_
  repeat' (first|refine rl0 ?_|refine rs0 ?_ ?_<;>intro h|fail)
  ·rfl
  all_goals (exfalso;simp at *;omega)
 ·rw [if_neg hlt]
  have hc:¬ Cx a b<0:=by unfold Cx;split<;>omega
  by_cases h1:(limN b).length=1
  ·rw [if_pos h1]
   obtain ⟨e,hb9⟩:=Jc h1
   have hsh:=Sp (limN a) b hal (limN_ok a) ⟨by omega,by omega⟩ (by omega)
   rw [e] at hcm |-
   refine Af Tryz.func145 rfl rfl (Nat.le_of_ble_eq_true rfl) rfl (Nat.le_refl _) ?_
   repeat' (first|refine rl0 ?_|refine rs0 ?_ ?_<;>intro h|fail)
   refine wp1 hcm ?_
   repeat' (first|refine rl0 ?_|refine rs0 ?_ ?_<;>intro h|fail)
   ·exfalso;simp at *;omega
   refine wix (B8 (b:Int)) rfl rfl rfl rfl rfl rfl (by omega) ?_
   repeat' (first|refine rl0 ?_|refine rs0 ?_ ?_<;>intro h|fail)
   refine wp1 hsh ?_
   repeat' (first|refine rl0 ?_|refine rs0 ?_ ?_<;>intro h|fail)
   rfl
  ·rw [if_neg h1]
   obtain ⟨n,hn,h0⟩:=Zz hb h1
   rw [hn]
   exact Uc (limN a) (limN b) n (limN_ok a) (limN_ok b) hn h0 (by rw [<- hn];exact Hq (by omega)) hal (by rw [cmpL_val];exact hc)
theorem N5:∀ {k:Nat} {v:Int},0<=v->v<1000000000 ^ k->valL (Xk k v)=v/\∀ z∈Xk k v,limbOk z
 |0,v,h0,h1=>by
  simp at h1
  exact ⟨by simp [Xk,valL];omega,by simp [Xk]⟩
 |k+1,v,h0,h1=>by
  rw [Int.pow_succ] at h1
  obtain ⟨h2,h3⟩:=N5 (k:=k) (v:=v / 1000000000) (by omega) (Int.ediv_lt_of_lt_mul (by decide) h1)
  refine ⟨by rw [Xk,valL,h2];omega,fun z hz=>?_⟩
  rcases List.mem_cons.1 hz with rfl|hz
  ·exact ⟨by omega,by omega⟩
  ·exact h3 z hz
theorem limN_lt (n:Nat):(n:Int)<1000000000 ^ (limN n).length:=by have:=Cn (limN_ok n);rwa [limN_val] at this
theorem limN_ge {n:Nat} (h:n≠0):(1000000000:Int) ^ ((limN n).length-1)<=n:=by
 have:=Int.ofNat_le.2 (limN_low h)
 rw [Int.natCast_pow] at this
 exact this
theorem Xm (a b:Nat) (hb:0<b):(∀ z∈(dvP a b).1,limbOk z)/\(∀ z∈(dvP a b).2,limbOk z)/\valL (dvP a b).1=((a / b:Nat):Int)/\valL (dvP a b).2=((a % b:Nat):Int):=by
 unfold dvP
 by_cases hlt:a<b
 ·rw [if_pos hlt,Nat.div_eq_of_lt hlt,Nat.mod_eq_of_lt hlt]
  exact ⟨by simp,limN_ok a,rfl,limN_val a⟩
 ·rw [if_neg hlt]
  have ha0:a≠0:=by omega
  by_cases h1:(limN b).length=1
  ·rw [if_pos h1]
   obtain ⟨e,hb9⟩:=Jc h1
   obtain ⟨s1,s2,s3,s4⟩:=L3 (b:=(b:Int)) (by omega) (limN_ok a)
   rw [limN_val] at s1
   have hq:(a:Int) / b=valL (qL b (limN a)).1:=by rw [s1,Int.add_comm,Int.add_mul_ediv_left _ _ (by omega),Int.ediv_eq_zero_of_lt s2 s3];omega
   have hr:(a:Int) % b=(qL b (limN a)).2:=by rw [s1,Int.add_comm,Int.add_mul_emod_self_left,Int.emod_eq_of_lt s2 s3]
   refine ⟨s4,fun z hz=>?_,by rw [<- hq];rfl,?_⟩
   ·obtain rfl:z=_:=by simpa using hz
    exact ⟨s2,by omega⟩
   ·show (qL b (limN a)).2+1000000000*0=_
    rw [<- hr];simp
  ·rw [if_neg h1]
   obtain ⟨n,hn,h0⟩:=Zz hb h1
   obtain ⟨u1,u2,u3⟩:=Wp (limN_ok b) (n:=n+1) hn h0
   have hT:Ff (limN b)=1000000000 / ((limN b).getD (n+1) 0+1):=by unfold Ff;rw [hn];rfl
   rw [<- hT,limN_val] at u3
   rw [<- hT] at u1 u2
   have hlen:(limN b).length<=(limN a).length:=Hq (by omega)
   have hA:=limN_lt a
   have hB:=limN_ge (n:=b) (by omega)
   have hR0:(0:Int)<=(a:Int) % b:=Int.emod_nonneg _ (by omega)
   have hR1:(a:Int) % b<b:=Int.emod_lt_of_pos _ (by omega)
   have hQ0:(0:Int)<=(a:Int) / b:=Int.ediv_nonneg (by omega) (by omega)
   have hQ1:(a:Int) / b<1000000000 ^ ((limN a).length-((limN b).length-1)):=by
    refine Int.ediv_lt_of_lt_mul (by omega) (Int.lt_of_lt_of_le hA ?_)
    have e:(1000000000:Int) ^ (limN a).length=1000000000 ^ ((limN a).length-((limN b).length-1))*1000000000 ^ ((limN b).length-1):=by
     rw [<- Int.pow_add];congr 1;omega
    rw [e]
    exact Int.mul_le_mul_of_nonneg_left hB (Int.le_of_lt (K7 _))
   obtain ⟨q1,q2⟩:=N5 hQ0 hQ1
   have hm1:0<=Ff (limN b)*((a:Int) % b):=Int.mul_nonneg (by omega) hR0
   have hm2:Ff (limN b)*((a:Int) % b)<Ff (limN b)*b:=Int.mul_lt_mul_of_pos_left hR1 (by omega)
   have hm3:Ff (limN b)*((a:Int) % b)<1000000000 ^ (limN b).length:=by omega
   have hm4:(1000000000:Int) ^ (limN b).length<=1000000000 ^ ((limN a).length+1):=by
    have e:(1000000000:Int) ^ ((limN a).length+1)=1000000000 ^ (limN b).length*1000000000 ^ ((limN a).length+1-(limN b).length):=by
     rw [<- Int.pow_add];congr 1;omega
    have h2:(1000000000:Int) ^ (limN b).length*1<=1000000000 ^ (limN b).length*1000000000 ^ ((limN a).length+1-(limN b).length):=Int.mul_le_mul_of_nonneg_left (K7 _) (Int.le_of_lt (K7 _))
    omega
   obtain ⟨r1,r2⟩:=N5 (k:=(limN a).length+1) hm1 (by omega)
   have hd:divA (limN a) (limN b)=Xk ((limN a).length+1) (Ff (limN b)*((a:Int) % b)):=by unfold divA;rw [limN_val,limN_val]
   have hdq:divQ (limN a) (limN b)=Xk ((limN a).length-((limN b).length-1)) ((a:Int) / b):=by unfold divQ;rw [limN_val,limN_val]
   rw [hd,hdq]
   have hlow:=Nt (Im r2 (by rw [r1];exact hm3))
   rw [r1] at hlow
   have hL:∀ z∈(Xk ((limN a).length+1) (Ff (limN b)*((a:Int) % b))).take (limN b).length,limbOk z:=fun z hz=>r2 z (List.mem_of_mem_take hz)
   generalize (Xk ((limN a).length+1) (Ff (limN b)*((a:Int) % b))).take (limN b).length=L at hlow hL
   obtain ⟨s1,s2,s3,s4⟩:=L3 (b:=Ff (limN b)) (by omega) (l:=trimL L) (Li hL)
   rw [Lj,<- hlow] at s1
   have hq:(a:Int) % b=valL (qL (Ff (limN b)) (trimL L)).1:=by
    have h3:(Ff (limN b)*((a:Int) % b)) / Ff (limN b)=(a:Int) % b:=Int.mul_ediv_cancel_left _ (by omega)
    rw [s1,Int.add_comm,Int.add_mul_ediv_left _ _ (by omega),Int.ediv_eq_zero_of_lt s2 s3] at h3
    omega
   exact ⟨q2,s4,by rw [q1];rfl,by rw [<- hq];rfl⟩
theorem OpS.mint {P:Program} {o:Oper} {F:Nat->PV} {S S':PS} {r:PV} (a k:Nat) (e:TypeId) (hF:F a = .d (.v (.slice none 0 0))) (h:OpS P o (Pt a (.hd S.toks.length 0) F) (S.addTok ⟨0,k,[],e⟩) r S'):OpS P o F S r S':=by
 intro ro mm K w act next Q hI hx hn
 obtain ⟨K',h1,h2,h3⟩:=hI.mint k e
 refine h ro mm K' w act next Q h1 (fun y hy=>?_) (fun v w' K'' hs hI' hr=>hn v w' K'' (h2.trans hI hs) hI' hr)
 have h4:=hx y hy
 cases y with
 |tmp t =>
  show Rep K' w (Pt a _ F t) _
  unfold Pt
  cases hb:Nat.beq t a with
  |true =>
   obtain rfl:=Nat.eq_of_beq_eq_true hb
   have h5:Rep K w (F t) _:=h4
   rw [hF] at h5
   rw [Cb h5]
   exact h3
  |false=>exact Rep.step h2 _ _ h4
 |_=>exact Rep.step h2 _ _ h4
section
variable {N:Nat} {ops:Array Oper} {rest:List Oper} {o:Oper} {F:Nat->PV} {S S':PS} {q:WRes->Prop}
theorem wapp0 (a:Nat) {t:TypeId} {x y:Operand} (news:List (List DV)) (hg:Al ops F o=some true) (ho:o.op = .call { callee := .builtin .append,args := #[x,y],argTypes := #[t,t] }) (hk:(Ba t&&Nat.beq (tyi t).kind 2)=true) (hF:F a = .d (.v (.slice none 0 0))) (hx:evP (Pt a (.hd S.toks.length 0) F) x = .hd S.toks.length 0)
  (hT:(S.addTok ⟨0,(tyi t).ek,[],(tyi t).elem⟩).toks[S.toks.length]? = some ⟨0,(tyi t).ek,[],(tyi t).elem⟩) (hy:(S.addTok ⟨0,(tyi t).ek,[],(tyi t).elem⟩).toS (tyi t).ek (evP (Pt a (.hd S.toks.length 0) F) y)=some news) (h1:(0+news.length)*(tyi t).eb<=140737488355328) (h2:0+news.length<=9223372036854775807)
  (hS:(S.addTok ⟨0,(tyi t).ek,[],(tyi t).elem⟩).setTok S.toks.length ⟨1,(tyi t).ek,news,(tyi t).elem⟩=S') (kk:WK Tryz.prog N ops rest (Cd N o.dst (.hd S.toks.length 1) F) S' q):WK Tryz.prog N ops (o::rest) F S q:=by
 subst hS
 simp only [Bool.and_eq_true] at hk
 exact Eo hg (OpS.mint a (tyi t).ek (tyi t).elem hF (J6 (T:=⟨0,(tyi t).ek,[],(tyi t).elem⟩) ho (Fj t hk.1) (Nat.eq_of_beq_eq_true hk.2) hx hT rfl rfl hy h1 h2)) kk
theorem wcvW {src dst:TypeId} {x:Operand} {k:IntKind} {a:Int} (kd:IntKind) (b:Int) (hb:kd.wrap a=b) (kk:WK Tryz.prog N ops rest (Cd N o.dst (.d (.v (.int kd b))) F) S q) (hg:Al ops F o=some true:=by exact rfl) (ho:o.op = .convert src dst x:=by exact rfl) (hk:(Ba src&&Ba dst&&Nat.beq (tyi dst).kind 5)=true:=by exact rfl) (hkd:(tyi dst).ik=kd:=by exact rfl) (hx:evP F x = .d (.v (.int k a)):=by exact rfl):WK Tryz.prog N ops (o::rest) F S q:=by
 subst hb;subst hkd
 simp only [Bool.and_eq_true] at hk
 exact Eo hg (Aag ho (Fj src hk.1.1) (Fj dst hk.1.2) (Nat.eq_of_beq_eq_true hk.2) hx) kk
theorem wnegW {ty:TypeId} {x:Operand} {k:IntKind} {a:Int} (b:Int) (hb:k.wrap (-a)=b) (kk:WK Tryz.prog N ops rest (Cd N o.dst (.d (.v (.int k b))) F) S q) (hg:Al ops F o=some true:=by exact rfl) (ho:o.op = .unOp .neg ty x:=by exact rfl) (hx:evP F x = .d (.v (.int k a)):=by exact rfl):WK Tryz.prog N ops (o::rest) F S q:=by
 subst hb
 exact Eo hg (Aaj ho hx) kk
end
@[reducible] def nilP:PV := .d (.v (.slice none 0 0))
def smS (neg:Bool):List Int->PS
 |[]=>⟨[[At false,nilP],[At neg,nilP]],[]⟩
 |x::r=>⟨[[At false,nilP],[At neg,.hd 0 (r.length+1)]],[⟨r.length+1,1,(x::r).map B8,148⟩]⟩
set_option maxHeartbeats 1000000 in
theorem Sv (n:Int) (h0 : -9223372036854775808<=n) (h1:n<=9223372036854775807):Aw 88 [An n] ⟨[],[]⟩ (.ret (whI n)) ⟨[],[]⟩:=by
 refine Dl Tryz.func88 rfl rfl (Nat.le_of_ble_eq_true rfl) (fun _=>?_)
 have hu:n.natAbs<1000000000 ^ 3:=by omega
 have hul:=limN_len hu
 refine C2 ?_
 repeat' (first|refine rl1 ?_|refine rs1 ?_ ?_<;>intro h|fail)
 refine C2 ?_
 repeat' (first|refine rl1 ?_|refine rs1 ?_ ?_<;>intro h|fail)
 refine C2 ?_
 repeat' (first|refine rl1 ?_|refine rs1 ?_ ?_<;>intro h|fail)
 refine wcvW .u64 (n % 18446744073709551616) (IntKind.wrap_u64 n) ?_
 repeat' (first|refine rl1 ?_|refine rs1 ?_ ?_<;>intro h|fail)
 refine Aal (ι := Unit) (ok:=fun _=>True) (L:=fun _=>[(2,.ptr 0 0),(3,.ptr 1 0),(4,.d (.v (.int .u64 n.natAbs)))]) (Sx:=fun _=>smS (decide (n<0)) []) ?_ ?_
 ·refine Co ?_
  repeat' (first|refine rl1 ?_|refine rs1 ?_ ?_<;>intro h|fail)
  ·refine wnegW (k := .u64) (a:=n % 18446744073709551616) (n.natAbs:Int) (by rw [IntKind.wrap_u64];have:=of_decide_eq_true h;omega) ?_
   repeat' (first|refine rl1 ?_|refine rs1 ?_ ?_<;>intro h|fail)
   exact ⟨(),trivial,(by repeat (first|exact Ag|refine Aa rfl ?_)),rfl⟩
  ·have h2:=of_decide_eq_false h
   have e:n % 18446744073709551616=(n.natAbs:Int):=by omega
   exact ⟨(),trivial,Aa rfl (Aa rfl (Aa (congrArg (fun z=>PV.d (.v (.int .u64 z))) e) Ag)),rfl⟩
 intro _ _
 refine C2 ?_
 refine C7 ?_
 refine Ca (ι := List Int×Nat) (ok:=fun q=>limN n.natAbs=q.1++limN q.2/\q.2<=18446744073709551615) (L:=fun q=>[(2,.ptr 0 0),(3,.ptr 1 0),(4,.d (.v (.int .u64 q.2)))]) (Sx:=fun q=>smS (decide (n<0)) q.1) (μ := fun q=>q.2) ([],n.natAbs) ⟨rfl,by show n.natAbs<=_;omega⟩ (by exact (by repeat (first|exact Ag|refine Aa rfl ?_))) rfl ?_
 rintro ⟨l,r⟩ ⟨hl,hr⟩
 simp only at hl hr
 have hlen:l.length+(limN r).length<=3:=by have:=congrArg List.length hl;simp at this;omega
 repeat' (first|refine rl1 ?_|refine rs1 ?_ ?_<;>intro h|fail)
 ·have hr0:r≠0:=by have:=of_decide_eq_true h;intro e;subst e;simp at this
  have hne:=limN_pos hr0
  have hrm:(r:Int) % 1000000000=((r % 1000000000:Nat):Int):=by omega
  have hstep:limN n.natAbs=(l++[((r % 1000000000:Nat):Int)])++limN (r / 1000000000):=by rw [hl,hne];simp
  have hq:(r:Int) / 1000000000=((r / 1000000000:Nat):Int):=by omega
  have hrb:((r % 1000000000:Nat):Int)<=4294967295/\(0:Int)<=((r % 1000000000:Nat):Int):=by omega
  have hfr:PV.d (.v (.int .u64 ((r:Int) / 1000000000)))=PV.d (.v (.int .u64 ((r / 1000000000:Nat):Int))):=by rw [hq]
  generalize hv:((r % 1000000000:Nat):Int)=v at hrm hstep hrb
  cases l with
  |nil =>
   unfold smS
   repeat' (first|refine rl1 ?_|refine rs1 ?_ ?_<;>intro h|fail)
   refine J9 (.d (.v (.int .u32 v))) rfl rfl (by show PV.d (.v (.int .u32 ((r:Int) % 1000000000)))=_;rw [hrm]) ⟨by show (0:Int)<=(r:Int) % 1000000000;omega,by show (r:Int) % 1000000000<=(4294967295:Int);omega⟩ ?_
   repeat' (first|refine rl1 ?_|refine rs1 ?_ ?_<;>intro h|fail)
   refine wapp0 19 [B8 v] rfl rfl rfl rfl rfl rfl rfl (by show (0+1)*4<=_;omega) (by show 0+1<=_;omega) rfl ?_
   repeat' (first|refine rl1 ?_|refine rs1 ?_ ?_<;>intro h|fail)
   exact ⟨([v],r / 1000000000),⟨hstep,by show r / 1000000000<=_;omega⟩,by show r / 1000000000<r;omega,Aa rfl (Aa rfl (Aa hfr Ag)),rfl⟩
  |cons x l =>
   unfold smS
   repeat' (first|refine rl1 ?_|refine rs1 ?_ ?_<;>intro h|fail)
   refine J9 (.d (.v (.int .u32 v))) rfl rfl (by show PV.d (.v (.int .u32 ((r:Int) % 1000000000)))=_;rw [hrm]) ⟨by show (0:Int)<=(r:Int) % 1000000000;omega,by show (r:Int) % 1000000000<=(4294967295:Int);omega⟩ ?_
   repeat' (first|refine rl1 ?_|refine rs1 ?_ ?_<;>intro h|fail)
   simp only [List.length_cons] at hlen
   refine Ww (news:=[B8 v]) (S':=⟨[[At false,nilP],[At (decide (n<0)),.hd 0 (l.length+1)]],[⟨l.length+2,1,(x::(l++[v])).map B8,148⟩]⟩) rfl rfl rfl rfl rfl rfl ?_ ?_ (by simp [PS.setTok]) ?_
   ·simp only [List.length_map,List.length_cons];show (_+1)*4<=_;omega
   ·simp only [List.length_map,List.length_cons];show _+1<=_;omega
   repeat' (first|refine rl1 ?_|refine rs1 ?_ ?_<;>intro h|fail)
   exact ⟨(x::(l++[v]),r / 1000000000),⟨hstep,by show r / 1000000000<=_;omega⟩,by show r / 1000000000<r;omega,Aa rfl (Aa rfl (Aa hfr Ag)),by simp [smS,PS.setBox]⟩
 ·have hr0:r=0:=by have:=of_decide_eq_false h;simp at this;omega
  subst hr0
  rw [limN_zero,List.append_nil] at hl
  refine Sb ?_
  unfold whI
  rw [hl]
  cases l with
  |nil =>
   unfold smS
   repeat' (first|refine rl1 ?_|refine rs1 ?_ ?_<;>intro h|fail)
   exact Zk (.inr rfl) rfl rfl (L5 (B7 K9 (B7 (Jy Er) Gl)))
  |cons x l =>
   unfold smS
   repeat' (first|refine rl1 ?_|refine rs1 ?_ ?_<;>intro h|fail)
   exact Zk (.inr rfl) rfl rfl (L5 (B7 K9 (B7 (Jy (Ki (Fc rfl))) Gl)))
inductive Lin (ops:Array Oper):Nat->Array Bool->List Nat->Prop
 |zero {listed}:Lin ops 0 listed []
 |stop {n listed}:Region.ready .any ops listed=[]->Lin ops (n+1) listed []
 |cons {n listed i l}:i∈Region.ready .any ops listed->Lin ops n (listed.setIfInBounds i true) l->Lin ops (n+1) listed (i::l)
theorem lin_go (ops:Array Oper):∀ (fuel t:Nat) (listed:Array Bool),Lin ops fuel listed (Region.linearise.go .any ops fuel t listed []):=by
 intro fuel
 induction fuel with
 |zero=>intro t listed;simpa [Region.linearise.go] using Lin.zero
 |succ fuel ih =>
  intro t listed
  simp only [Region.linearise.go]
  change Lin ops (fuel+1) listed (match (Region.ready .any ops listed)[t % (Region.ready .any ops listed).length]? with
   |some i=>Region.linearise.go .any ops fuel (t / (Region.ready .any ops listed).length) (listed.setIfInBounds i true) [i]
   |none=>[].reverse)
  cases hi:(Region.ready .any ops listed)[t % (Region.ready .any ops listed).length]? with
  |none =>
   have hnil:Region.ready .any ops listed=[]:=by
    cases hr:Region.ready .any ops listed with
    |nil=>rfl
    |cons x xs =>
     rw [hr] at hi
     have hlt:t % (x::xs).length<(x::xs).length:=Nat.mod_lt _ (by simp)
     simp at hi
     simp at hlt
     omega
   exact .stop hnil
  |some i =>
   simp only []
   rw [linearise_go_acc,List.reverse_singleton,List.singleton_append]
   exact .cons (List.mem_of_getElem? hi) (ih _ _)
section
variable {F:Fence} {n:Nat} {P:Program} {Q:Exit->Act->World->Prop} {ops ops':Array Oper} {σ : Nat->Nat} {x y:Nat}
theorem Wy {fuel:Nat} {listed:Array Bool} {l:List Nat} (hl:Lin ops fuel listed l):∀ (a:Act) (w:World),wpAnyIn F n P .any ops Q fuel listed a w->wpOpsIn F n P ops Q l a w:=by
 induction hl with
 |zero=>intro a w h;exact h.2
 |stop hr=>intro a w h;exact h.1 hr
 |cons hi _ ih =>
  intro a w h
  rw [wpOpsIn_cons]
  exact wpOpIn_mono (fun a w=>ih a w) (h.2 _ hi)
structure Ren1 (σ : Nat->Nat) (x y i:Nat) (o o':Oper):Prop where
 dst:o'.dst=o.dst
 op:o'.op=o.op
 type:o'.type=o.type
 pos:o'.pos=o.pos
 guard:o'.guard=o.guard.map fun g=>(σ g.1,g.2)
 down:∀ e'∈o'.after,Region.binds .any e'=true->(∃ e∈o.after,Region.binds .any e=true/\e'.on = σ e.on)\/(i=x/\e'.on = σ y)
 up:∀ e∈o.after,Region.binds .any e=true->∃ e'∈o'.after,Region.binds .any e'=true/\e'.on = σ e.on
structure Ren (ops ops':Array Oper) (σ : Nat->Nat) (x y:Nat):Prop where
 size:ops'.size=ops.size
 bd:∀ i,i<ops.size -> σ i<ops.size
 inv:∀ i,σ (σ i)=i
 one:∀ i o,ops[i]? = some o->∃ o',ops'[σ i]? = some o'/\Ren1 σ x y i o o'
def bef (y x:Nat):List Nat->Prop
 |[]=>True
 |i::l=>i=y\/(i≠x/\bef y x l)
theorem Tu {a b:Nat} (h:a≠b):∀ l,bef a b l\/bef b a l
 |[] => .inl trivial
 |i::l=>by
  by_cases h1:i=a
  ·exact .inl (.inl h1)
  ·by_cases h2:i=b
   ·exact .inr (.inl h2)
   ·rcases Tu h l with h3|h3
    ·exact .inl (.inr ⟨h2,h3⟩)
    ·exact .inr (.inr ⟨h1,h3⟩)
theorem Ren.lt (r:Ren ops ops' σ x y) {i:Nat} (h : σ i<ops.size):i<ops.size:=by
 have:=r.bd _ h
 rwa [r.inv] at this
theorem Ko {l:Array Bool} {i:Nat} (h:i<l.size):l.getD i true=l.getD i false:=by simp [Array.getD_eq_getD_getElem?,h]
theorem Afh (r:Ren ops ops' σ x y) (hxy:x≠y) {fuel:Nat} {listed:Array Bool} {l:List Nat} (hl:Lin ops fuel listed l) :
  ∀ listed':Array Bool,listed.size=ops.size->listed'.size=ops.size->(∀ i,listed'.getD (σ i) false=listed.getD i false)->(listed.getD y false=true\/bef y x l)->Lin ops' fuel listed' (l.map σ):=by
 induction hl with
 |zero=>intro _ _ _ _ _;exact .zero
 | @stop n listed hr =>
  intro listed' hs hs' hR _
  refine .stop ?_
  cases hr':Region.ready .any ops' listed' with
  |nil=>rfl
  |cons j rest =>
   exfalso
   have hj:j∈Region.ready .any ops' listed':=by rw [hr'];simp
   obtain ⟨h1,o',ho',hall⟩:=mem_ready.1 hj
   have hjs:j<ops.size:=by rw [<- r.size];exact (Array.getElem?_eq_some_iff.1 ho').1
   have hi : σ j<ops.size:=r.bd _ hjs
   obtain ⟨o2,ho2,q⟩:=r.one (σ j) _ (Array.getElem?_eq_getElem hi)
   rw [r.inv,ho'] at ho2
   cases ho2
   have : σ j∈Region.ready .any ops listed:=by
    refine mem_ready.2 ⟨?_,_,Array.getElem?_eq_getElem hi,fun e he hb=>?_⟩
    ·rw [Ko (by omega),<- hR,r.inv,<- Ko (by omega)];exact h1
    ·obtain ⟨e',he',hb',ho⟩:=q.up e he hb
     rw [<- hR,<- ho];exact hall e' he' hb'
   rw [hr] at this;cases this
 | @cons n listed i l hi _ ih =>
  intro listed' hs hs' hR hb
  obtain ⟨h1,o,ho,hall⟩:=mem_ready.1 hi
  have his:i<ops.size:=(Array.getElem?_eq_some_iff.1 ho).1
  obtain ⟨o',ho',q⟩:=r.one i o ho
  refine .cons ?_ (ih _ (by simp [hs]) (by simp [hs']) (fun j=>?_) ?_)
  ·refine mem_ready.2 ⟨?_,_,ho',fun e' he' hb'=>?_⟩
   ·rw [Ko (by rw [hs'];exact r.bd _ his),hR,<- Ko (by omega)];exact h1
   ·rcases q.down e' he' hb' with ⟨e,he,hbe,h2⟩|⟨rfl,h2⟩
    ·rw [h2,hR];exact hall e he hbe
    ·rw [h2,hR]
     rcases hb with hb|hb|hb
     ·exact hb
     ·exact absurd hb hxy
     ·exact absurd rfl hb.1
  ·rw [Cr (by rw [hs'];exact r.bd _ his),Cr (by omega),hR]
   by_cases e:j=i
   ·subst e;simp
   ·rw [if_neg e,if_neg (fun h=>e (by rw [<- r.inv j,h,r.inv]))]
  ·rw [Cr (by omega)]
   rcases hb with hb|hb|hb
   ·left;split
    ·rfl
    ·exact hb
   ·left;rw [if_pos hb.symm]
   ·exact .inr hb.2
theorem wp_ren1 {i:Nat} {o o':Oper} (q:Ren1 σ x y i o o') {a:Act} {w:World} {K:Act->World->Prop}:o'.wpIn F n P a w K Q=o.wpIn F n P a w K Q:=by
 obtain ⟨h1,h2,h3,h4,_,_,_⟩:=q
 cases o;cases o'
 dsimp only at h1 h2 h3 h4
 subst h1 h2 h3 h4
 rfl
theorem Abg {i:Nat} {o o':Oper} (q:Ren1 σ x y i o o') {ρ : Operand->Value} {w:World}:o'.about P w ρ = o.about P w ρ := by
 obtain ⟨h1,h2,h3,h4,_,_,_⟩:=q
 cases o;cases o'
 dsimp only at h1 h2 h3 h4
 subst h1 h2 h3 h4
 rfl
theorem I3 (r:Ren ops ops' σ x y):∀ (l:List Nat) (a:Act) (w:World),wpOpsIn F n P ops' Q (l.map σ) a w->wpOpsIn F n P ops Q l a w
 |[],_,_,h=>h
 |i::l,a,w,h=>by
  rw [List.map_cons,wpOpsIn_cons] at h
  rw [wpOpsIn_cons]
  unfold wpOpIn at h |-
  cases ho:ops[i]? with
  |none =>
   have:ops'[σ i]? = none:=by
    rw [Array.getElem?_eq_none_iff] at ho |-
    rw [r.size]
    exact Nat.le_of_not_lt fun hlt=>by have:=r.lt hlt;omega
   rw [this] at h
   exact I3 r l _ _ h
  |some o =>
   obtain ⟨o',ho',q⟩:=r.one i o ho
   rw [ho'] at h
   dsimp only at h |-
   have hw:Region.wanted o' (yielded ops' a.tmps)=Region.wanted o (yielded ops a.tmps):=by
    unfold Region.wanted
    rw [q.guard]
    cases hg:o.guard with
    |none=>rfl
    |some g =>
     have:yielded ops' a.tmps (σ g.1)=yielded ops a.tmps g.1:=by
      unfold yielded
      have hd:(ops'[σ g.1]?).bind (·.dst)=(ops[g.1]?).bind (·.dst):=by
       cases hog:ops[g.1]? with
       |none =>
        have:ops'[σ g.1]? = none:=by
         rw [Array.getElem?_eq_none_iff] at hog |-
         rw [r.size]
         exact Nat.le_of_not_lt fun hlt=>by have:=r.lt hlt;omega
        rw [this]
       |some og =>
        obtain ⟨og',hog',qg⟩:=r.one _ _ hog
        rw [hog'];exact qg.dst
      rw [hd]
     simp only [Option.map_some,this]
   rw [hw] at h
   split
   ·rename_i hc
    rw [if_pos hc,wp_ren1 q] at h
    exact Oper.wpIn_mono (fun a w=>I3 r l a w) h
   ·rename_i hc
    rw [if_neg hc,Abg q,q.dst] at h
    exact ⟨h.1,I3 r l _ _ h.2⟩
theorem wp_two {ops1 ops2:Array Oper} {σ1 σ2:Nat->Nat} {a b id:Nat} {act:Act} {w:World} (hm:P.follows .mixedOrders=true) (hab:a≠b) (r1:Ren ops ops1 σ1 b a) (r2:Ren ops ops2 σ2 a b)
  (h1:wpAnyIn F n P .any ops1 Q ops1.size (Array.replicate ops1.size false) act { w with drawn:=w.drawn+1 })
  (h2:wpAnyIn F n P .any ops2 Q ops2.size (Array.replicate ops2.size false) act { w with drawn:=w.drawn+1 }):(Code.region id ops true).wpIn F n P Q act w:=by
 refine wpIn_region_draw fun t=>?_
 simp only [Region.schedule,hm,Bool.true_or,if_true,Region.linearise]
 have hg:∀ (m i:Nat),(Array.replicate m false).getD i false=false:=by
  intro m i
  simp only [Array.getD_eq_getD_getElem?,Array.getElem?_replicate]
  split<;>rfl
 have hl:=lin_go ops ops.size t (Array.replicate ops.size false)
 generalize Region.linearise.go .any ops ops.size t (Array.replicate ops.size false) []=l at hl
 rcases Tu hab l with h|h
 ·have h3:=Afh r1 (Ne.symm hab) hl (Array.replicate ops1.size false) (by simp) (by simp [r1.size]) (fun i=>by rw [hg,hg]) (.inr h)
  rw [r1.size] at h1 h3
  exact I3 r1 l _ _ (Wy h3 _ _ h1)
 ·have h3:=Afh r2 hab hl (Array.replicate ops2.size false) (by simp) (by simp [r2.size]) (fun i=>by rw [hg,hg]) (.inr h)
  rw [r2.size] at h2 h3
  exact I3 r2 l _ _ (Wy h3 _ _ h2)
end
def addE (e:Nat) (o:Oper):Oper:={ o with after:=o.after.push ⟨e,.chain⟩ }
def mkE (e:Nat):Nat->List Oper->List Oper
 |_,[]=>[]
 |0,o::r=>addE e o::r
 |k+1,o::r=>o::mkE e k r
def reop (σ : Nat->Nat) (o:Oper):Oper:={ o with after:=o.after.map (fun e=>⟨σ e.on,e.ground⟩),guard:=o.guard.map fun g=>(σ g.1,g.2) }
def Fb:Nat->List Oper->List Oper
 |0,a::b::r=>b::a::r
 |k+1,a::r=>a::Fb k r
 |_,l=>l
def swp (k i:Nat):Nat:=if Nat.beq i k then k+1 else if Nat.beq i (k+1) then k else i
theorem Lg (k i:Nat):swp k i=if i=k then k+1 else if i=k+1 then k else i:=by
 unfold swp
 simp only [Nat.beq_eq]
theorem Xz (e:Nat):∀ (k:Nat) (l:List Oper) (i:Nat),(mkE e k l)[i]? = (l[i]?).map fun o=>if i=k then addE e o else o
 |_,[],i=>by simp [mkE]
 |0,o::r,0=>by simp [mkE]
 |0,o::r,i+1=>by simp [mkE]
 |k+1,o::r,0=>by simp [mkE]
 |k+1,o::r,i+1=>by simp [mkE,Xz e k r i]
theorem Wi:∀ (k:Nat) (l:List Oper) (i:Nat),k+1<l.length->(Fb k l)[swp k i]? = l[i]?
 |0,a::b::r,0,_=>by simp [Fb,Lg]
 |0,a::b::r,1,_=>by simp [Fb,Lg]
 |0,a::b::r,i+2,_=>by simp [Fb,Lg]
 |0,[_],_,h=>by simp at h
 |_,[],_,h=>by simp at h
 |k+1,a::r,0,_=>by simp [Fb,Lg]
 |k+1,a::r,i+1,h=>by
  have:=Wi k r i (by simpa using h)
  rw [Lg] at this |-
  rw [<- List.getElem?_cons_succ (a:=a)] at this
  simp only [Fb,List.getElem?_cons_succ,Nat.add_right_cancel_iff]
  split<;>rename_i h1
  ·rw [if_pos h1] at this;simpa using this
  ·rw [if_neg h1] at this
   split<;>rename_i h2
   ·rw [if_pos h2] at this;simpa using this
   ·rw [if_neg h2] at this;simpa using this
theorem Mt:∀ (k:Nat) (l:List Oper),(Fb k l).length=l.length
 |0,[]=>rfl
 |0,[_]=>rfl
 |0,a::b::r=>rfl
 |k+1,[]=>rfl
 |k+1,a::r=>by simp [Fb,Mt k r]
theorem Ly (e:Nat):∀ (k:Nat) (l:List Oper),(mkE e k l).length=l.length
 |_,[]=>by simp [mkE]
 |0,o::r=>by simp [mkE]
 |k+1,o::r=>by simp [mkE,Ly e k r]
theorem swp_inv (k i:Nat):swp k (swp k i)=i:=by
 simp only [Lg]
 split<;>(try split)<;>(try split)<;>omega
theorem swp_lt {k i n:Nat} (h:k+1<n) (hi:i<n):swp k i<n:=by
 rw [Lg];split<;>(try split)<;>omega
theorem Qe (g:Option (Nat×Bool)):(g.map fun g=>(g.1,g.2))=g:=by cases g<;>rfl
theorem Ag8 (l:List Oper) (k:Nat):Ren l.toArray (mkE k (k+1) l).toArray (fun i=>i) (k+1) k:=by
 refine ⟨by simp [Ly],fun i h=>h,fun i=>rfl,fun i o ho=>?_⟩
 simp only [List.getElem?_toArray] at ho |-
 rw [Xz,ho]
 refine ⟨_,rfl,?_⟩
 split
 ·rename_i h
  refine ⟨rfl,rfl,rfl,rfl,(Qe o.guard).symm,fun e' he' hb=>?_,fun e he hb=>⟨e,by simp [addE,he],hb,rfl⟩⟩
  simp only [addE,Array.mem_push] at he'
  rcases he' with he'|rfl
  ·exact .inl ⟨e',he',hb,rfl⟩
  ·exact .inr ⟨h,rfl⟩
 ·exact ⟨rfl,rfl,rfl,rfl,(Qe o.guard).symm,fun e' he' hb => .inl ⟨e',he',hb,rfl⟩,fun e he hb=>⟨e,he,hb,rfl⟩⟩
theorem Acg (l:List Oper) (k:Nat) (hk:k+1<l.length):Ren l.toArray (mkE k (k+1) ((Fb k l).map (reop (swp k)))).toArray (swp k) k (k+1):=by
 refine ⟨by simp [Ly,Mt],fun i h=>?_,swp_inv k,fun i o ho=>?_⟩
 ·simp only [List.size_toArray] at h |-
  exact swp_lt hk h
 ·simp only [List.getElem?_toArray] at ho |-
  rw [Xz,List.getElem?_map,Wi k l i hk,ho]
  refine ⟨_,rfl,?_⟩
  have hup:∀ e∈o.after,Region.binds .any e=true->∃ e'∈(reop (swp k) o).after,Region.binds .any e'=true/\e'.on=swp k e.on:=fun e he hb =>
   ⟨⟨swp k e.on,e.ground⟩,by simp only [reop,Array.mem_map];exact ⟨e,he,rfl⟩,by cases e;exact hb,rfl⟩
  have hdown:∀ e'∈(reop (swp k) o).after,Region.binds .any e'=true->∃ e∈o.after,Region.binds .any e=true/\e'.on=swp k e.on:=fun e' he' hb=>by
   simp only [reop,Array.mem_map] at he'
   obtain ⟨e,he,rfl⟩:=he'
   exact ⟨e,he,by cases e;exact hb,rfl⟩
  split
  ·rename_i h
   refine ⟨rfl,rfl,rfl,rfl,rfl,fun e' he' hb=>?_,fun e he hb=>?_⟩
   ·simp only [addE,Array.mem_push] at he'
    rcases he' with he'|rfl
    ·exact .inl (hdown e' he' hb)
    ·refine .inr ⟨?_,?_⟩
     ·rw [Lg] at h;split at h
      ·assumption
      ·split at h<;>omega
     ·simp [Lg]
   ·obtain ⟨e',h1,h2,h3⟩:=hup e he hb
    exact ⟨e',by simp only [addE,Array.mem_push];exact .inl h1,h2,h3⟩
  ·exact ⟨rfl,rfl,rfl,rfl,rfl,fun e' he' hb => .inl (hdown e' he' hb),hup⟩
namespace Bw
theorem Pi {ro:Option Nat} {mm:Nat} {P:Program} {N:Nat} {ops:List Oper} {ch:Nat->Bool} {U Ut:Nat->List Nat} {Q:Exit->Act->World->Prop} {F:Nat->PV} {S:PS} {res:WRes} {K:Kx} {w:World} {a:Act} (hB:Lp ops.toArray ch=true)
  (h:WalkA P N ops.toArray ch U Ut 0 ops F S false [] res) (hI:Inv K S w) (hF:FrameRep K w N F a) (hE:Aem N K w a.defers Q res):wpAnyIn (fen ro) mm P .any ops.toArray Q ops.toArray.size (Array.replicate ops.toArray.size false) a { w with drawn:=w.drawn+1 }:=by
 obtain ⟨Fs,Ss,Rs,dd,h1,h2,h3,h4⟩:=h.seq (fun j=>by simp)
 obtain ⟨hI',hs'⟩:=hI.below (w':={ w with drawn:=w.drawn+1 }) ⟨rfl,rfl,rfl,Nat.le_refl _,fun _ _=>rfl⟩
 have hsz:ops.toArray.size=ops.length:=by simp
 refine Mid.any (res:=res) (Fs:=Fs) (Ss:=Ss) (Rs:=Rs) (dd:=dd) (K0:=K) (w0:=w) (ds:=a.defers) (fun j hj=>h3 j (Nat.zero_le _) (by omega)) hB (by rw [h2];exact hI) ?_ hE _ _ _ _ ?_
 ·cases res with
  |done Fe Se =>
   obtain ⟨h5,h6,_⟩:=h4
   exact ⟨by rw [hsz];simpa using h5,by rw [hsz];simpa using h6⟩
  |panic c Sx =>
   rcases h4 with h4|⟨j,_,h5,h6⟩
   ·cases h4
   ·exact ⟨j,by omega,h6⟩
 ·have hg:∀ i,(Array.replicate ops.toArray.size false).getD i false=false:=by
   intro i
   simp only [Array.getD_eq_getD_getElem?,Array.getElem?_replicate]
   split<;>rfl
  refine ⟨by simp,by simp,fun i _ hi=>(by rw [hg] at hi;cases hi),fun i hi=>(by rw [hg] at hi;cases hi),hF.size,rfl,K,0,hs',by rw [h2];exact hI',Nat.zero_le _,fun i _ _=>⟨fun hi=>(by rw [hg] at hi;cases hi),fun hi=>by omega⟩,fun t=>⟨fun i _ _ hi=>(by rw [hg] at hi;cases hi),fun _=>?_⟩⟩
  rw [h1]
  exact Rep.step hs' _ _ (hF.rep t)
theorem pw_two {P:Program} {N:Nat} {F:Nat->PV} {S:PS} {Q:Exit->(Nat->PV)->PS->Prop} {id:Nat} {l l1 l2:List Oper} (k:Nat) (hk:k+1<l.length) {ch1 ch2:Nat->Bool} {U1 U2 Ut1 Ut2:Nat->List Nat} (hm:P.follows .mixedOrders=true)
  (e1:mkE k (k+1) l=l1) (e2:mkE k (k+1) ((Fb k l).map (reop (swp k)))=l2)
  (hB1:Lp l1.toArray ch1=true) (hB2:Lp l2.toArray ch2=true)
  (h1:WB P N l1.toArray ch1 U1 Ut1 0 l1 F S false [] (Adg Q)) (h2:WB P N l2.toArray ch2 U2 Ut2 0 l2 F S false [] (Adg Q)):PW P N (.region id l.toArray true) Q F S:=by
 subst e1 e2
 refine ⟨fun ro mm K w a hI hF=>?_⟩
 obtain ⟨res1,h11,h12⟩:=h1.ex
 obtain ⟨res2,h21,h22⟩:=h2.ex
 exact wp_two hm (by omega) (Ag8 l k) (Acg l k hk) (Pi hB1 h11 hI hF (N7 h12)) (Pi hB2 h21 hI hF (N7 h22))
end Bw
theorem b0w {N id:Nat} {F:Nat->PV} {S:PS} {Q:Exit->(Nat->PV)->PS->Prop} {l l1 l2:List Oper} (k:Nat) (ch1 ch2:Nat->Bool) (us1 us2:List (Nat×List Nat)) (e1:mkE k (k+1) l=l1) (e2:mkE k (k+1) ((Fb k l).map (reop (swp k)))=l2)
  (h1:Bw.WB Tryz.prog N l1.toArray ch1 (Ck us1) (fun _=>[]) 0 l1 F S false [] (Adg Q)) (h2:Bw.WB Tryz.prog N l2.toArray ch2 (Ck us2) (fun _=>[]) 0 l2 F S false [] (Adg Q))
  (hk:Nat.blt (k+1) l.length=true:=by kernel_rfl) (hm:Tryz.prog.follows .mixedOrders=true:=by exact rfl) (hB1:Lp l1.toArray ch1=true:=by kernel_rfl) (hB2:Lp l2.toArray ch2=true:=by kernel_rfl):PW Tryz.prog N (.region id l.toArray true) Q F S :=
 Bw.pw_two k (Nat.blt_eq▸hk) hm e1 e2 hB1 hB2 h1 h2
def dQ (a b:Int):Int:=if (!decide (decide (a<0)=decide (b<0)))=true then -((a.natAbs / b.natAbs:Nat):Int) else ((a.natAbs / b.natAbs:Nat):Int)
def dR (a b:Int):Int:=if decide (a<0)=true then -((a.natAbs % b.natAbs:Nat):Int) else ((a.natAbs % b.natAbs:Nat):Int)
def dF (a b:Int):Bool := !decide (dR a b=0) && !decide (decide (a<0)=decide (b<0))
theorem dQ_abs (a b:Int):(dQ a b).natAbs=a.natAbs / b.natAbs:=by unfold dQ;split<;>simp only [Int.natAbs_neg,Int.natAbs_natCast]
theorem dR_abs (a b:Int):(dR a b).natAbs=a.natAbs % b.natAbs:=by unfold dR;split<;>simp only [Int.natAbs_neg,Int.natAbs_natCast]
theorem N2 {x:Int}:Cx x 0=0<->x=0:=by unfold Cx;split<;>(try split)<;>omega
set_option maxHeartbeats 2000000 in
theorem wdiv_do (a b:Int) (hb:b≠0) (hal:(limN a.natAbs).length<=100000) (hbl:(limN b.natAbs).length<=100000) :
  Aw 111 [whI a,whI b] ⟨[],[]⟩ (.ret (.tup [whI (if dF a b=true then dQ a b-1 else dQ a b),whI (if dF a b=true then dR a b+b else dR a b)])) ⟨[],[]⟩:=by
 have hb0:0<b.natAbs:=by omega
 have hdv:=Ls a.natAbs b.natAbs hb0 (by omega) (by omega)
 obtain ⟨oq,or',vq,vr⟩:=Xm a.natAbs b.natAbs hb0
 have hwq:=Em (!decide (decide (a<0)=decide (b<0))) oq (dQ a b) (by rw [vq];rfl)
 have hwr:=Em (decide (a<0)) or' (dR a b) (by rw [vr];rfl)
 have hsg:=Nv (dR a b)
 have hsm:=Sv 1 (by decide) (by decide)
 have hlq:(limN (dQ a b).natAbs).length<=100000:=by rw [dQ_abs];exact Nat.le_trans (Hq (Nat.div_le_self _ _)) hal
 have hlr:(limN (dR a b).natAbs).length<=100000:=by rw [dR_abs];exact Nat.le_trans (Hq (Nat.le_of_lt (Nat.mod_lt _ hb0))) hbl
 have hsu:=wsub_do (dQ a b) 1 (by omega) (by decide +kernel)
 have had:=Yv (dR a b) b (by omega) (by omega)
 have hcz:=N2 (x:=dR a b)
 cases hF:dF a b with
 |true =>
  have hF':=hF
  unfold dF at hF'
  simp only [Bool.and_eq_true,Bool.not_eq_true',decide_eq_false_iff_not] at hF'
  rw [if_pos rfl,if_pos rfl]
  refine Af Tryz.func111 rfl rfl (Nat.le_of_ble_eq_true rfl) rfl (Nat.le_refl _) ?_
  repeat' (first|refine rl2 ?_|refine rs2 ?_ ?_<;>intro h|fail)
  refine wp1 hdv ?_
  repeat' (first|refine rl2 ?_|refine rs2 ?_ ?_<;>intro h|fail)
  refine b0w 11 (fun k=>Nat.beq k 11||Nat.beq k 12||Nat.beq k 13||Nat.beq k 14) (fun k=>Nat.beq k 11||Nat.beq k 12||Nat.beq k 13||Nat.beq k 14) [(1,[0]),(3,[1]),(8,[0])] [(1,[0]),(3,[1]),(8,[0])] (by dsimp only [mkE]) (by dsimp only [mkE,Fb,List.map]) ?_ ?_
  ·repeat' (first|refine rl7 ?_|refine rs7 ?_ ?_<;>intro h|fail)
   refine Ah hwq ?_
   repeat' (first|refine rl7 ?_|refine rs7 ?_ ?_<;>intro h|fail)
   refine Ah hwr ?_
   repeat' (first|refine rl7 ?_|refine rs7 ?_ ?_<;>intro h|fail)
   repeat' (first|refine rl2 ?_|refine rs2 ?_ ?_<;>intro h|fail)
   refine wp1 hsg ?_
   repeat' (first|refine rl2 ?_|refine rs2 ?_ ?_<;>intro h|fail)
   ·refine b0 (fun k=>Nat.beq k 6||Nat.beq k 7) [(0,[4]),(3,[5]),(4,[1])] ?_
    repeat' (first|refine rl7 ?_|refine rs7 ?_ ?_<;>intro h|fail)
    refine Dj hsm ?_
    repeat' (first|refine rl7 ?_|refine rs7 ?_ ?_<;>intro h|fail)
    refine Dj hsu ?_
    repeat' (first|refine rl7 ?_|refine rs7 ?_ ?_<;>intro h|fail)
    refine Dj had ?_
    repeat' (first|refine rl7 ?_|refine rs7 ?_ ?_<;>intro h|fail)
    repeat' (first|refine rl2 ?_|refine rs2 ?_ ?_<;>intro h|fail)
    refine b0 (fun k=>Nat.beq k 2||Nat.beq k 3) [(0,[4]),(1,[5])] ?_
    repeat' (first|refine rl7 ?_|refine rs7 ?_ ?_<;>intro h|fail)
    repeat' (first|refine rl2 ?_|refine rs2 ?_ ?_<;>intro h|fail)
    rfl
   all_goals (exfalso;simp at *;omega)
  ·repeat' (first|refine rl7 ?_|refine rs7 ?_ ?_<;>intro h|fail)
   refine Ah hwq ?_
   repeat' (first|refine rl7 ?_|refine rs7 ?_ ?_<;>intro h|fail)
   refine Ah hwr ?_
   repeat' (first|refine rl7 ?_|refine rs7 ?_ ?_<;>intro h|fail)
   repeat' (first|refine rl2 ?_|refine rs2 ?_ ?_<;>intro h|fail)
   refine wp1 hsg ?_
   repeat' (first|refine rl2 ?_|refine rs2 ?_ ?_<;>intro h|fail)
   ·refine b0 (fun k=>Nat.beq k 6||Nat.beq k 7) [(0,[5]),(3,[4]),(4,[1])] ?_
    repeat' (first|refine rl7 ?_|refine rs7 ?_ ?_<;>intro h|fail)
    refine Dj hsm ?_
    repeat' (first|refine rl7 ?_|refine rs7 ?_ ?_<;>intro h|fail)
    refine Dj hsu ?_
    repeat' (first|refine rl7 ?_|refine rs7 ?_ ?_<;>intro h|fail)
    refine Dj had ?_
    repeat' (first|refine rl7 ?_|refine rs7 ?_ ?_<;>intro h|fail)
    repeat' (first|refine rl2 ?_|refine rs2 ?_ ?_<;>intro h|fail)
    refine b0 (fun k=>Nat.beq k 2||Nat.beq k 3) [(0,[5]),(1,[4])] ?_
    repeat' (first|refine rl7 ?_|refine rs7 ?_ ?_<;>intro h|fail)
    repeat' (first|refine rl2 ?_|refine rs2 ?_ ?_<;>intro h|fail)
    rfl
   all_goals (exfalso;simp at *;omega)
 |false =>
  have hF':=hF
  unfold dF at hF'
  simp only [Bool.and_eq_false_iff,Bool.not_eq_false',decide_eq_true_eq] at hF'
  rw [if_neg (by simp),if_neg (by simp)]
  refine Af Tryz.func111 rfl rfl (Nat.le_of_ble_eq_true rfl) rfl (Nat.le_refl _) ?_
  repeat' (first|refine rl2 ?_|refine rs2 ?_ ?_<;>intro h|fail)
  refine wp1 hdv ?_
  repeat' (first|refine rl2 ?_|refine rs2 ?_ ?_<;>intro h|fail)
  refine b0w 11 (fun k=>Nat.beq k 11||Nat.beq k 12||Nat.beq k 13||Nat.beq k 14) (fun k=>Nat.beq k 11||Nat.beq k 12||Nat.beq k 13||Nat.beq k 14) [(1,[0]),(3,[1]),(8,[0])] [(1,[0]),(3,[1]),(8,[0])] (by dsimp only [mkE]) (by dsimp only [mkE,Fb,List.map]) ?_ ?_
  ·repeat' (first|refine rl7 ?_|refine rs7 ?_ ?_<;>intro h|fail)
   refine Ah hwq ?_
   repeat' (first|refine rl7 ?_|refine rs7 ?_ ?_<;>intro h|fail)
   refine Ah hwr ?_
   repeat' (first|refine rl7 ?_|refine rs7 ?_ ?_<;>intro h|fail)
   repeat' (first|refine rl2 ?_|refine rs2 ?_ ?_<;>intro h|fail)
   refine wp1 hsg ?_
   repeat' (first|refine rl2 ?_|refine rs2 ?_ ?_<;>intro h|fail)
   ·exfalso;simp at *;omega
   all_goals
    refine b0 (fun k=>Nat.beq k 2||Nat.beq k 3) [(0,[4]),(1,[5])] ?_
    repeat' (first|refine rl7 ?_|refine rs7 ?_ ?_<;>intro h|fail)
    repeat' (first|refine rl2 ?_|refine rs2 ?_ ?_<;>intro h|fail)
    rfl
  ·repeat' (first|refine rl7 ?_|refine rs7 ?_ ?_<;>intro h|fail)
   refine Ah hwq ?_
   repeat' (first|refine rl7 ?_|refine rs7 ?_ ?_<;>intro h|fail)
   refine Ah hwr ?_
   repeat' (first|refine rl7 ?_|refine rs7 ?_ ?_<;>intro h|fail)
   repeat' (first|refine rl2 ?_|refine rs2 ?_ ?_<;>intro h|fail)
   refine wp1 hsg ?_
   repeat' (first|refine rl2 ?_|refine rs2 ?_ ?_<;>intro h|fail)
   ·exfalso;simp at *;omega
   all_goals
    refine b0 (fun k=>Nat.beq k 2||Nat.beq k 3) [(0,[5]),(1,[4])] ?_
    repeat' (first|refine rl7 ?_|refine rs7 ?_ ?_<;>intro h|fail)
    repeat' (first|refine rl2 ?_|refine rs2 ?_ ?_<;>intro h|fail)
    rfl
def gcS (a b:Int):PS:=⟨[[At (decide (a<0)),B3 (limN a.natAbs)],[At (decide (b<0)),B3 (limN b.natAbs)],[At false,nilP]],[]⟩
theorem Rk (x y:Nat):Nat.gcd y (x % y)=Nat.gcd x y:=by rw [Nat.gcd_comm y,<- Nat.gcd_rec,Nat.gcd_comm]
def gcT (a b:Int):List Int->PS
 |[]=>⟨[[At (decide (a<0)),B3 (limN a.natAbs)],[At (decide (b<0)),B3 (limN b.natAbs)],[At false,nilP],[At false,nilP]],[]⟩
 |x::r=>⟨[[At (decide (a<0)),B3 (limN a.natAbs)],[At (decide (b<0)),B3 (limN b.natAbs)],[At false,nilP],[At false,.hd 0 (r.length+1)]],[⟨r.length+1,1,(x::r).map B8,148⟩]⟩
theorem Yw (n:Nat):whI (n:Nat)=whP false (limN n):=by unfold whI;rw [decide_eq_false (by omega),Int.natAbs_natCast]
set_option maxHeartbeats 2000000 in
theorem gcd_do (a b:Int) (hal:(limN a.natAbs).length<=100000) (hbl:(limN b.natAbs).length<=100000) :
  Aw 110 [whI a,whI b] ⟨[],[]⟩ (.ret (whI (Nat.gcd a.natAbs b.natAbs:Nat))) ⟨[],[]⟩:=by
 generalize hG:Nat.gcd a.natAbs b.natAbs=G
 refine Dl Tryz.func110 rfl rfl (Nat.le_of_ble_eq_true rfl) (fun _=>?_)
 refine C2 ?_
 repeat' (first|refine rl3 ?_|refine rs3 ?_ ?_<;>intro h|fail)
 refine C2 ?_
 refine Eu chN [] [] rfl (by kernel_rfl) ?_
 repeat' (first|refine rl3 ?_|refine rs3 ?_ ?_<;>intro h|fail)
 refine Aal (ι := Nat×Nat) (ok:=fun q=>Nat.gcd q.1 q.2=G/\(limN q.1).length<=100000/\(limN q.2).length<=2) (L:=fun q=>[(2,.ptr 0 0),(3,.ptr 1 0),(4,.ptr 2 0),(5,B3 (limN q.1)),(6,B3 (limN q.2))]) (Sx:=fun _=>gcS a b) ?_ ?_
 ·refine C7 ?_
  refine Ca (ι := Nat×Nat) (ok:=fun q=>Nat.gcd q.1 q.2=G/\(limN q.1).length<=100000/\(limN q.2).length<=100000) (L:=fun q=>[(2,.ptr 0 0),(3,.ptr 1 0),(4,.ptr 2 0),(5,B3 (limN q.1)),(6,B3 (limN q.2))]) (Sx:=fun _=>gcS a b) (μ := fun q=>q.2) (a.natAbs,b.natAbs) ⟨hG,hal,hbl⟩ (by exact (by repeat (first|exact Ag|refine Aa rfl ?_))) rfl ?_
  rintro ⟨x,y⟩ ⟨h1,h2,h3⟩
  dsimp only at h1 h2 h3 |-
  have hly:(((limN y).map B8).length:Int)=(limN y).length:=by simp
  repeat' (first|refine rl2 ?_|refine rs2 ?_ ?_<;>intro h|fail)
  ·have hy2:2<(limN y).length:=by have:=of_decide_eq_true h;omega
   have hy0:0<y:=by
    refine Nat.pos_of_ne_zero fun e=>?_
    rw [e,limN_zero] at hy2;simp at hy2
   have hdv:=Ls x y hy0 (by omega) (by omega)
   obtain ⟨oq,or',vq,vr⟩:=Xm x y hy0
   have hw:Aw 112 [At false,B3 (dvP x y).2] ⟨[],[]⟩ (.ret (.agg [At false,B3 (limN (x % y))])) ⟨[],[]⟩:=by
    have:=Em false or' ((x % y:Nat):Int) (by rw [vr];rfl)
    unfold whI at this
    rw [decide_eq_false (by omega),Int.natAbs_natCast] at this
    exact this
   refine wp1 hdv ?_
   repeat' (first|refine rl2 ?_|refine rs2 ?_ ?_<;>intro h|fail)
   refine wp1 hw ?_
   repeat' (first|refine rl2 ?_|refine rs2 ?_ ?_<;>intro h|fail)
   refine wfld rfl rfl rfl Tryz.underlying75 rfl rfl rfl ?_
   repeat' (first|refine rl2 ?_|refine rs2 ?_ ?_<;>intro h|fail)
   have hlt:x % y<y:=Nat.mod_lt _ hy0
   exact ⟨(y,x % y),⟨by rw [Rk];exact h1,h3,Nat.le_trans (Hq (Nat.le_of_lt hlt)) h3⟩,hlt,(by repeat (first|exact Ag|refine Aa rfl ?_)),rfl⟩
  ·exact ⟨(x,y),⟨h1,h2,by show (limN y).length<=2;have:=of_decide_eq_false h;omega⟩,(by repeat (first|exact Ag|refine Aa rfl ?_)),rfl⟩
 rintro ⟨x,y⟩ ⟨h1,h2,h3⟩
 dsimp only at h1 h2 h3 |-
 have hly:(((limN y).map B8).length:Int)=(limN y).length:=by simp
 refine C2 ?_
 repeat' (first|refine rl3 ?_|refine rs3 ?_ ?_<;>intro h|fail)
 ·have hy0:y=0:=by
   have:=of_decide_eq_true h
   exact limN_nil.1 (List.length_eq_zero_iff.1 (by omega))
  subst hy0
  rw [Nat.gcd_zero_right] at h1
  subst h1
  have hw:Aw 112 [At false,B3 (limN x)] ⟨[],[]⟩ (.ret (whI (x:Nat))) ⟨[],[]⟩:=Em false (limN_ok x) _ (by rw [limN_val];rfl)
  refine wp1 hw ?_
  repeat' (first|refine rl3 ?_|refine rs3 ?_ ?_<;>intro h|fail)
  exact Zk (.inr rfl) rfl rfl (L5 (B7 K9 (B7 K9 Gl)))
 have hy0:0<y:=by
  refine Nat.pos_of_ne_zero fun e=>?_
  rw [e,limN_zero] at h;simp at h
 have hdv:=Ls x y hy0 (by omega) (by omega)
 obtain ⟨oq,or',vq,vr⟩:=Xm x y hy0
 have hw:Aw 112 [At false,B3 (dvP x y).2] ⟨[],[]⟩ (.ret (.agg [At false,B3 (limN (x % y))])) ⟨[],[]⟩:=by
  have:=Em false or' ((x % y:Nat):Int) (by rw [vr];rfl)
  unfold whI at this
  rw [decide_eq_false (by omega),Int.natAbs_natCast] at this
  exact this
 have hlt:x % y<y:=Nat.mod_lt _ hy0
 have hv1:=Td (limN y) h3 (limN_ok y)
 have hv2:=Td (limN (x % y)) (Nat.le_trans (Hq (Nat.le_of_lt hlt)) h3) (limN_ok _)
 rw [limN_val] at hv1 hv2
 refine C2 ?_
 repeat' (first|refine rl3 ?_|refine rs3 ?_ ?_<;>intro h|fail)
 refine wp1 hdv ?_
 repeat' (first|refine rl3 ?_|refine rs3 ?_ ?_<;>intro h|fail)
 refine C2 ?_
 repeat' (first|refine rl3 ?_|refine rs3 ?_ ?_<;>intro h|fail)
 refine wp1 hv1 ?_
 repeat' (first|refine rl3 ?_|refine rs3 ?_ ?_<;>intro h|fail)
 refine wp1 hw ?_
 repeat' (first|refine rl3 ?_|refine rs3 ?_ ?_<;>intro h|fail)
 refine wfld rfl rfl rfl Tryz.underlying75 rfl rfl rfl ?_
 repeat' (first|refine rl3 ?_|refine rs3 ?_ ?_<;>intro h|fail)
 refine wp1 hv2 ?_
 repeat' (first|refine rl3 ?_|refine rs3 ?_ ?_<;>intro h|fail)
 have hyb:y<1000000000 ^ 2:=limN_len' h3
 have h1':Nat.gcd y (x % y)=G:=by rw [Rk];exact h1
 refine Aal (ι := Nat) (ok:=fun u=>u=G/\u<=1000000000000000000) (L:=fun u=>[(2,.ptr 0 0),(3,.ptr 1 0),(4,.ptr 2 0),(11,.d (.v (.int .u64 u)))]) (Sx:=fun _=>gcS a b) ?_ ?_
 ·refine C7 ?_
  refine Ca (ι := Nat×Nat) (ok:=fun q=>Nat.gcd q.1 q.2=G/\q.1<=1000000000000000000/\q.2<=1000000000000000000) (L:=fun q=>[(2,.ptr 0 0),(3,.ptr 1 0),(4,.ptr 2 0),(11,.d (.v (.int .u64 q.1))),(12,.d (.v (.int .u64 q.2)))]) (Sx:=fun _=>gcS a b) (μ := fun q=>q.2) (y,x % y) ⟨h1',by show y<=_;omega,by show x % y<=_;omega⟩ (by exact (by repeat (first|exact Ag|refine Aa rfl ?_))) rfl ?_
  rintro ⟨u,v⟩ ⟨k1,k2,k3⟩
  dsimp only at k1 k2 k3 |-
  repeat' (first|refine rl2 ?_|refine rs2 ?_ ?_<;>intro h|fail)
  ·have hv0:0<v:=by have:=of_decide_eq_true h;omega
   refine Eu chN [] [] rfl (by kernel_rfl) ?_
   repeat' (first|refine rl2 ?_|refine rs2 ?_ ?_<;>intro h|fail)
   have hm:u % v<v:=Nat.mod_lt _ hv0
   exact ⟨(v,u % v),⟨by rw [Rk];exact k1,k3,by show u % v<=_;omega⟩,hm,(by repeat (first|exact Ag|refine Aa rfl ?_)),rfl⟩
  ·have hv0:v=0:=by have:=of_decide_eq_false h;omega
   subst hv0
   rw [Nat.gcd_zero_right] at k1
   exact ⟨u,⟨k1,k2⟩,(by repeat (first|exact Ag|refine Aa rfl ?_)),rfl⟩
 rintro u ⟨rfl,hu⟩
 refine C2 ?_
 repeat' (first|refine rl3 ?_|refine rs3 ?_ ?_<;>intro h|fail)
 refine C2 ?_
 refine C7 ?_
 refine Ca (ι := List Int×Nat) (ok:=fun q=>limN u=q.1++limN q.2/\q.2<=18446744073709551615) (L:=fun q=>[(2,.ptr 0 0),(3,.ptr 1 0),(4,.ptr 2 0),(11,.d (.v (.int .u64 q.2))),(13,.ptr 3 0)]) (Sx:=fun q=>gcT a b q.1) (μ := fun q=>q.2) ([],u) ⟨rfl,by show u<=_;omega⟩ (by exact (by repeat (first|exact Ag|refine Aa rfl ?_))) rfl ?_
 rintro ⟨l,r⟩ ⟨hl,hr⟩
 simp only at hl hr
 have hul:=limN_len (n:=u) (k:=3) (by omega)
 have hlen:l.length+(limN r).length<=3:=by have:=congrArg List.length hl;simp at this;omega
 repeat' (first|refine rl1 ?_|refine rs1 ?_ ?_<;>intro h|fail)
 ·have hr0:r≠0:=by have:=of_decide_eq_true h;intro e;subst e;simp at this
  have hne:=limN_pos hr0
  have hrm:(r:Int) % 1000000000=((r % 1000000000:Nat):Int):=by omega
  have hstep:limN u=(l++[((r % 1000000000:Nat):Int)])++limN (r / 1000000000):=by rw [hl,hne];simp
  have hq:(r:Int) / 1000000000=((r / 1000000000:Nat):Int):=by omega
  have hrb:((r % 1000000000:Nat):Int)<=4294967295/\(0:Int)<=((r % 1000000000:Nat):Int):=by omega
  have hfr:PV.d (.v (.int .u64 ((r:Int) / 1000000000)))=PV.d (.v (.int .u64 ((r / 1000000000:Nat):Int))):=by rw [hq]
  generalize hv:((r % 1000000000:Nat):Int)=v at hrm hstep hrb
  cases l with
  |nil =>
   unfold gcT
   repeat' (first|refine rl1 ?_|refine rs1 ?_ ?_<;>intro h|fail)
   refine J9 (.d (.v (.int .u32 v))) rfl rfl (by show PV.d (.v (.int .u32 ((r:Int) % 1000000000)))=_;rw [hrm]) ⟨by show (0:Int)<=(r:Int) % 1000000000;omega,by show (r:Int) % 1000000000<=(4294967295:Int);omega⟩ ?_
   repeat' (first|refine rl1 ?_|refine rs1 ?_ ?_<;>intro h|fail)
   refine wapp0 60 [B8 v] rfl rfl rfl rfl rfl rfl rfl (by show (0+1)*4<=_;omega) (by show 0+1<=_;omega) rfl ?_
   repeat' (first|refine rl1 ?_|refine rs1 ?_ ?_<;>intro h|fail)
   exact ⟨([v],r / 1000000000),⟨hstep,by show r / 1000000000<=_;omega⟩,by show r / 1000000000<r;omega,Aa rfl (Aa rfl (Aa rfl (Aa hfr (Aa rfl Ag)))),rfl⟩
  |cons x l =>
   unfold gcT
   repeat' (first|refine rl1 ?_|refine rs1 ?_ ?_<;>intro h|fail)
   refine J9 (.d (.v (.int .u32 v))) rfl rfl (by show PV.d (.v (.int .u32 ((r:Int) % 1000000000)))=_;rw [hrm]) ⟨by show (0:Int)<=(r:Int) % 1000000000;omega,by show (r:Int) % 1000000000<=(4294967295:Int);omega⟩ ?_
   repeat' (first|refine rl1 ?_|refine rs1 ?_ ?_<;>intro h|fail)
   simp only [List.length_cons] at hlen
   refine Ww (news:=[B8 v]) (S':=⟨[[At (decide (a<0)),B3 (limN a.natAbs)],[At (decide (b<0)),B3 (limN b.natAbs)],[At false,nilP],[At false,.hd 0 (l.length+1)]],[⟨l.length+2,1,(x::(l++[v])).map B8,148⟩]⟩) rfl rfl rfl rfl rfl rfl ?_ ?_ (by simp [PS.setTok]) ?_
   ·simp only [List.length_map,List.length_cons];show (_+1)*4<=_;omega
   ·simp only [List.length_map,List.length_cons];show _+1<=_;omega
   repeat' (first|refine rl1 ?_|refine rs1 ?_ ?_<;>intro h|fail)
   exact ⟨(x::(l++[v]),r / 1000000000),⟨hstep,by show r / 1000000000<=_;omega⟩,by show r / 1000000000<r;omega,Aa rfl (Aa rfl (Aa rfl (Aa hfr (Aa rfl Ag)))),by simp [gcT,PS.setBox]⟩
 ·have hr0:r=0:=by have:=of_decide_eq_false h;simp at this;omega
  subst hr0
  rw [limN_zero,List.append_nil] at hl
  refine Sb ?_
  rw [Yw,hl]
  cases l with
  |nil =>
   unfold gcT
   repeat' (first|refine rl1 ?_|refine rs1 ?_ ?_<;>intro h|fail)
   exact Zk (.inr rfl) rfl rfl (L5 (B7 K9 (B7 (Jy Er) Gl)))
  |cons x l =>
   unfold gcT
   repeat' (first|refine rl1 ?_|refine rs1 ?_ ?_<;>intro h|fail)
   exact Zk (.inr rfl) rfl rfl (L5 (B7 K9 (B7 (Jy (Ki (Fc rfl))) Gl)))
@[reducible] def Ou (a b:Int):PV := .agg [At (decide (a<0)),B3 (limN a.natAbs),At (decide (b<0)),B3 (limN b.natAbs)]
theorem nsign_do (a b:Int):Aw 48 [Ou a b] ⟨[],[]⟩ (.ret (An (Cx a 0))) ⟨[],[]⟩:=by
 have h:=Nv a
 refine Af Tryz.func48 rfl rfl (Nat.le_of_ble_eq_true rfl) rfl (Nat.le_refl _) ?_
 repeat' (first|refine rl0 ?_|refine rs0 ?_ ?_<;>intro h|fail)
 refine wp1 h ?_
 repeat' (first|refine rl0 ?_|refine rs0 ?_ ?_<;>intro h|fail)
 rfl
theorem Af7 (a b:Int):Aw 60 [Ou a b] ⟨[],[]⟩ (.ret (Ou (-a) b)) ⟨[],[]⟩:=by
 have h:=Yx a
 refine Af Tryz.func60 rfl rfl (Nat.le_of_ble_eq_true rfl) rfl (Nat.le_refl _) ?_
 repeat' (first|refine rl2 ?_|refine rs2 ?_ ?_<;>intro h|fail)
 refine b0 (fun k=>Nat.beq k 6) [(1,[0]),(4,[0])] ?_
 repeat' (first|refine rl7 ?_|refine rs7 ?_ ?_<;>intro h|fail)
 refine Dj h ?_
 repeat' (first|refine rl7 ?_|refine rs7 ?_ ?_<;>intro h|fail)
 repeat' (first|refine rl2 ?_|refine rs2 ?_ ?_<;>intro h|fail)
 rfl
theorem ncmp_do (a b c d:Int) (h1:(limN a.natAbs).length<=1000) (h2:(limN b.natAbs).length<=1000) (h3:(limN c.natAbs).length<=1000) (h4:(limN d.natAbs).length<=1000) (hm1:(limN (a*d).natAbs).length<=1000000) (hm2:(limN (c*b).natAbs).length<=1000000) :
  Aw 53 [Ou a b,Ou c d] ⟨[],[]⟩ (.ret (An (Cx (a*d) (c*b)))) ⟨[],[]⟩:=by
 have e1:=H4 a d (by omega) (by omega)
 have e2:=H4 c b (by omega) (by omega)
 have e3:=wcmp_do (a*d) (c*b) hm1 hm2
 refine Af Tryz.func53 rfl rfl (Nat.le_of_ble_eq_true rfl) rfl (Nat.le_refl _) ?_
 repeat' (first|refine rl0 ?_|refine rs0 ?_ ?_<;>intro h|fail)
 refine wp1n e1 ?_
 repeat' (first|refine rl0 ?_|refine rs0 ?_ ?_<;>intro h|fail)
 refine wp1n e2 ?_
 repeat' (first|refine rl0 ?_|refine rs0 ?_ ?_<;>intro h|fail)
 refine wp1n e3 ?_
 repeat' (first|refine rl0 ?_|refine rs0 ?_ ?_<;>intro h|fail)
 rfl
abbrev Mh (x y n e:Int):Prop:=Aw 78 [whI x,whI y] ⟨[],[]⟩ (.ret (Ou n e)) ⟨[],[]⟩
theorem nmul_of (a b c d n e:Int) (h1:(limN a.natAbs).length<=1000) (h2:(limN b.natAbs).length<=1000) (h3:(limN c.natAbs).length<=1000) (h4:(limN d.natAbs).length<=1000) (hk:Mh (a*c) (b*d) n e):Aw 45 [Ou a b,Ou c d] ⟨[],[]⟩ (.ret (Ou n e)) ⟨[],[]⟩:=by
 have e1:=H4 a c (by omega) (by omega)
 have e2:=H4 b d (by omega) (by omega)
 refine Af Tryz.func45 rfl rfl (Nat.le_of_ble_eq_true rfl) rfl (Nat.le_refl _) ?_
 repeat' (first|refine rl2 ?_|refine rs2 ?_ ?_<;>intro h|fail)
 refine b0 (fun k=>Nat.beq k 11) [(1,[0]),(3,[1]),(6,[0]),(8,[1])] ?_
 repeat' (first|refine rl7 ?_|refine rs7 ?_ ?_<;>intro h|fail)
 refine Dj e1 ?_
 repeat' (first|refine rl7 ?_|refine rs7 ?_ ?_<;>intro h|fail)
 refine Dj e2 ?_
 repeat' (first|refine rl7 ?_|refine rs7 ?_ ?_<;>intro h|fail)
 refine Dj hk ?_
 repeat' (first|refine rl7 ?_|refine rs7 ?_ ?_<;>intro h|fail)
 repeat' (first|refine rl2 ?_|refine rs2 ?_ ?_<;>intro h|fail)
 rfl
theorem ndiv_of (a b c d n e:Int) (h1:(limN a.natAbs).length<=1000) (h2:(limN b.natAbs).length<=1000) (h3:(limN c.natAbs).length<=1000) (h4:(limN d.natAbs).length<=1000) (hk:Mh (a*d) (b*c) n e):Aw 50 [Ou a b,Ou c d] ⟨[],[]⟩ (.ret (Ou n e)) ⟨[],[]⟩:=by
 have e1:=H4 a d (by omega) (by omega)
 have e2:=H4 b c (by omega) (by omega)
 refine Af Tryz.func50 rfl rfl (Nat.le_of_ble_eq_true rfl) rfl (Nat.le_refl _) ?_
 repeat' (first|refine rl2 ?_|refine rs2 ?_ ?_<;>intro h|fail)
 refine b0 (fun k=>Nat.beq k 11) [(1,[0]),(3,[1]),(6,[0]),(8,[1])] ?_
 repeat' (first|refine rl7 ?_|refine rs7 ?_ ?_<;>intro h|fail)
 refine Dj e1 ?_
 repeat' (first|refine rl7 ?_|refine rs7 ?_ ?_<;>intro h|fail)
 refine Dj e2 ?_
 repeat' (first|refine rl7 ?_|refine rs7 ?_ ?_<;>intro h|fail)
 refine Dj hk ?_
 repeat' (first|refine rl7 ?_|refine rs7 ?_ ?_<;>intro h|fail)
 repeat' (first|refine rl2 ?_|refine rs2 ?_ ?_<;>intro h|fail)
 rfl
theorem Afx (a b c d n e:Int) (h1:(limN a.natAbs).length<=1000) (h2:(limN b.natAbs).length<=1000) (h3:(limN c.natAbs).length<=1000) (h4:(limN d.natAbs).length<=1000) (hm1:(limN (a*d).natAbs).length<=1000000) (hm2:(limN (c*b).natAbs).length<=1000000) (hk:Mh (a*d+c*b) (b*d) n e):Aw 44 [Ou a b,Ou c d] ⟨[],[]⟩ (.ret (Ou n e)) ⟨[],[]⟩:=by
 have e1:=H4 a d (by omega) (by omega)
 have e2:=H4 c b (by omega) (by omega)
 have e3:=Yv (a*d) (c*b) hm1 hm2
 have e4:=H4 b d (by omega) (by omega)
 refine Af Tryz.func44 rfl rfl (Nat.le_of_ble_eq_true rfl) rfl (Nat.le_refl _) ?_
 repeat' (first|refine rl2 ?_|refine rs2 ?_ ?_<;>intro h|fail)
 refine b0 (fun k=>Nat.beq k 17) [(1,[0]),(3,[1]),(6,[1]),(8,[0]),(12,[0]),(14,[1])] ?_
 repeat' (first|refine rl7 ?_|refine rs7 ?_ ?_<;>intro h|fail)
 refine Dj e1 ?_
 repeat' (first|refine rl7 ?_|refine rs7 ?_ ?_<;>intro h|fail)
 refine Dj e2 ?_
 repeat' (first|refine rl7 ?_|refine rs7 ?_ ?_<;>intro h|fail)
 refine Dj e3 ?_
 repeat' (first|refine rl7 ?_|refine rs7 ?_ ?_<;>intro h|fail)
 refine Dj e4 ?_
 repeat' (first|refine rl7 ?_|refine rs7 ?_ ?_<;>intro h|fail)
 refine Dj hk ?_
 repeat' (first|refine rl7 ?_|refine rs7 ?_ ?_<;>intro h|fail)
 repeat' (first|refine rl2 ?_|refine rs2 ?_ ?_<;>intro h|fail)
 rfl
theorem nsub_of (a b c d n e:Int) (h1:(limN a.natAbs).length<=1000) (h2:(limN b.natAbs).length<=1000) (h3:(limN c.natAbs).length<=1000) (h4:(limN d.natAbs).length<=1000) (hm1:(limN (a*d).natAbs).length<=1000000) (hm2:(limN (-c*b).natAbs).length<=1000000) (hk:Mh (a*d + -c*b) (b*d) n e):Aw 43 [Ou a b,Ou c d] ⟨[],[]⟩ (.ret (Ou n e)) ⟨[],[]⟩:=by
 have e1:=Af7 c d
 have e2:=Afx a b (-c) d n e h1 h2 (by rw [Int.natAbs_neg];exact h3) h4 hm1 hm2 hk
 refine Af Tryz.func43 rfl rfl (Nat.le_of_ble_eq_true rfl) rfl (Nat.le_refl _) ?_
 repeat' (first|refine rl2 ?_|refine rs2 ?_ ?_<;>intro h|fail)
 refine b0 (fun k=>Nat.beq k 4) [(0,[0]),(1,[1])] ?_
 repeat' (first|refine rl7 ?_|refine rs7 ?_ ?_<;>intro h|fail)
 refine Dj e1 ?_
 repeat' (first|refine rl7 ?_|refine rs7 ?_ ?_<;>intro h|fail)
 refine Dj e2 ?_
 repeat' (first|refine rl7 ?_|refine rs7 ?_ ?_<;>intro h|fail)
 repeat' (first|refine rl2 ?_|refine rs2 ?_ ?_<;>intro h|fail)
 rfl
abbrev Adj (x y q r:Int):Prop:=Aw 111 [whI x,whI y] ⟨[],[]⟩ (.ret (.tup [whI q,whI r])) ⟨[],[]⟩
def P9 (x y:Int):Int:=if y<0 then -((Nat.gcd x.natAbs y.natAbs:Nat):Int) else ((Nat.gcd x.natAbs y.natAbs:Nat):Int)
set_option maxHeartbeats 2000000 in
theorem make_of (x y p q r s:Int) (hxl:(limN x.natAbs).length<=100000) (hyl:(limN y.natAbs).length<=100000) (hy:y≠0) (h1:P9 x y=1->p=x/\q=y) (hd1:P9 x y≠1->Adj x (P9 x y) p r) (hd2:P9 x y≠1->Adj y (P9 x y) q s):Mh x y p q:=by
 have hg:=gcd_do x y hxl hyl
 have hn:=Yx ((Nat.gcd x.natAbs y.natAbs:Nat):Int)
 have hG:0<Nat.gcd x.natAbs y.natAbs:=Nat.gcd_pos_of_pos_right _ (by omega)
 unfold P9 at h1 hd1 hd2
 generalize Nat.gcd x.natAbs y.natAbs=G at *
 unfold Mh
 by_cases hneg:y<0
 ·rw [if_pos hneg] at h1 hd1 hd2
  have hd1:=hd1 (by omega)
  have hd2:=hd2 (by omega)
  unfold Adj at hd1 hd2
  refine Af Tryz.func78 rfl rfl (Nat.le_of_ble_eq_true rfl) rfl (Nat.le_refl _) ?_
  repeat' (first|refine rl0 ?_|refine rs0 ?_ ?_<;>intro h|fail)
  refine wp1 hg ?_
  repeat' (first|refine rl0 ?_|refine rs0 ?_ ?_<;>intro h|fail)
  ·refine wp1 hn ?_
   repeat' (first|refine rl0 ?_|refine rs0 ?_ ?_<;>intro h|fail)
   ·refine wp1 hd1 ?_
    repeat' (first|refine rl0 ?_|refine rs0 ?_ ?_<;>intro h|fail)
    refine wp1 hd2 ?_
    repeat' (first|refine rl0 ?_|refine rs0 ?_ ?_<;>intro h|fail)
    rfl
   ·refine wp1 hd1 ?_
    repeat' (first|refine rl0 ?_|refine rs0 ?_ ?_<;>intro h|fail)
    refine wp1 hd2 ?_
    repeat' (first|refine rl0 ?_|refine rs0 ?_ ?_<;>intro h|fail)
    rfl
   ·exfalso;have:=of_decide_eq_false h;omega
  all_goals (exfalso;simp at *;omega)
 ·rw [if_neg hneg] at h1 hd1 hd2
  rw [Yw] at hg
  by_cases hG1:G=1
  ·subst hG1
   obtain ⟨rfl,rfl⟩:=h1 rfl
   rw [show limN 1=[1] from (Jc (b:=1) (by decide +kernel)).1] at hg
   refine Af Tryz.func78 rfl rfl (Nat.le_of_ble_eq_true rfl) rfl (Nat.le_refl _) ?_
   repeat' (first|refine rl0 ?_|refine rs0 ?_ ?_<;>intro h|fail)
   refine wp1 hg ?_
   repeat' (first|refine rl0 ?_|refine rs0 ?_ ?_<;>intro h|fail)
   ·exfalso;simp at *;omega
   refine wix (B8 1) rfl rfl rfl rfl rfl rfl (by omega) ?_
   repeat' (first|refine rl0 ?_|refine rs0 ?_ ?_<;>intro h|fail)
   rfl
  ·have hd1:=hd1 (by omega)
   have hd2:=hd2 (by omega)
   unfold Adj at hd1 hd2
   rw [Yw] at hd1 hd2
   refine Af Tryz.func78 rfl rfl (Nat.le_of_ble_eq_true rfl) rfl (Nat.le_refl _) ?_
   repeat' (first|refine rl0 ?_|refine rs0 ?_ ?_<;>intro h|fail)
   refine wp1 hg ?_
   repeat' (first|refine rl0 ?_|refine rs0 ?_ ?_<;>intro h|fail)
   ·exfalso;simp at *;omega
   ·refine wp1 hd1 ?_
    repeat' (first|refine rl0 ?_|refine rs0 ?_ ?_<;>intro h|fail)
    refine wp1 hd2 ?_
    repeat' (first|refine rl0 ?_|refine rs0 ?_ ?_<;>intro h|fail)
    rfl
   ·have hl1:(limN G).length=1:=by
     have h2:=of_decide_eq_false h
     have h3:(limN G).length≠0:=fun e=>by have:=limN_nil.1 (List.length_eq_zero_iff.1 e);omega
     simp at h2;omega
    obtain ⟨e,_⟩:=Jc hl1
    refine wix (B8 (G:Int)) rfl rfl rfl rfl rfl (by rw [e];rfl) (by omega) ?_
    repeat' (first|refine rl0 ?_|refine rs0 ?_ ?_<;>intro h|fail)
    ·refine wp1 hd1 ?_
     repeat' (first|refine rl0 ?_|refine rs0 ?_ ?_<;>intro h|fail)
     refine wp1 hd2 ?_
     repeat' (first|refine rl0 ?_|refine rs0 ?_ ?_<;>intro h|fail)
     rfl
    ·exfalso;simp at *;omega
theorem nof_of (a b n e:Int) (ha : -9223372036854775808<=a/\a<=9223372036854775807) (hb : -9223372036854775808<=b/\b<=9223372036854775807) (hk:Mh a b n e):Aw 58 [An a,An b] ⟨[],[]⟩ (.ret (Ou n e)) ⟨[],[]⟩:=by
 have e1:=Sv a ha.1 ha.2
 have e2:=Sv b hb.1 hb.2
 refine Af Tryz.func58 rfl rfl (Nat.le_of_ble_eq_true rfl) rfl (Nat.le_refl _) ?_
 repeat' (first|refine rl0 ?_|refine rs0 ?_ ?_<;>intro h|fail)
 refine wp1 e1 ?_
 repeat' (first|refine rl0 ?_|refine rs0 ?_ ?_<;>intro h|fail)
 refine wp1 e2 ?_
 repeat' (first|refine rl0 ?_|refine rs0 ?_ ?_<;>intro h|fail)
 refine wp1 hk ?_
 repeat' (first|refine rl0 ?_|refine rs0 ?_ ?_<;>intro h|fail)
 rfl
theorem Agd (a:Int) (d:Nat) (hd:0<d):Aw 63 [Ou a d] ⟨[],[]⟩ (.ret (At (decide (d=1)))) ⟨[],[]⟩:=by
 have hn:(d:Int).natAbs=d:=Int.natAbs_natCast d
 unfold Ou
 rw [hn]
 refine Af Tryz.func63 rfl rfl (Nat.le_of_ble_eq_true rfl) rfl (Nat.le_refl _) ?_
 repeat' (first|refine rl0 ?_|refine rs0 ?_ ?_<;>intro h|fail)
 ·have hl1:(limN d).length=1:=by have h2:=of_decide_eq_true h;simp at h2;omega
  obtain ⟨e,_⟩:=Jc hl1
  refine wix (B8 (d:Int)) rfl rfl rfl rfl rfl (by rw [e];rfl) (by omega) ?_
  repeat' (first|refine rl0 ?_|refine rs0 ?_ ?_<;>intro h|fail)
  by_cases h1:d=1
  ·subst h1;rfl
  ·rw [decide_eq_false (show ¬ (d:Int)=1 by omega),decide_eq_false h1]
 ·have h2:=of_decide_eq_false h
  have h1:d≠1:=by
   rintro rfl
   rw [(Jc (b:=1) (by decide +kernel)).1] at h2
   simp at h2
  rw [decide_eq_false h1]
abbrev Fr:=Int×Int
def Red (p:Fr):Prop:=0<p.2/\Nat.gcd p.1.natAbs p.2.natAbs=1
def mkF (x y:Int):Fr:=(x / P9 x y,y / P9 x y)
theorem Ho (x y:Int):(P9 x y).natAbs=Nat.gcd x.natAbs y.natAbs:=by unfold P9;split<;>simp
theorem Kn {x y:Int} (hy:y≠0):0<Nat.gcd x.natAbs y.natAbs:=Nat.gcd_pos_of_pos_right _ (by omega)
theorem Ae7 {x y:Int} (hy:y≠0):P9 x y≠0:=by
 have h:=Ho x y
 have:=Kn (x:=x) hy
 intro e;rw [e] at h;simp at h;omega
theorem gcdI_sg {x y:Int} (hy:y≠0):P9 x y<0<->y<0:=by
 have:=Kn (x:=x) hy
 unfold P9;split<;>omega
theorem gcdI_l (x y:Int):P9 x y∣x:=by rw [<- Int.natAbs_dvd_natAbs,Ho];exact Nat.gcd_dvd_left _ _
theorem gcdI_r (x y:Int):P9 x y∣y:=by rw [<- Int.natAbs_dvd_natAbs,Ho];exact Nat.gcd_dvd_right _ _
theorem Aln (x y:Int):P9 x y*(mkF x y).1=x:=Int.mul_ediv_cancel' (gcdI_l x y)
theorem Alo (x y:Int):P9 x y*(mkF x y).2=y:=Int.mul_ediv_cancel' (gcdI_r x y)
theorem mul_sg {g m y:Int} (h:g*m=y) (hy:y≠0) (hs:g<0<->y<0):0<m:=by
 rcases Int.lt_trichotomy m 0 with h1|h1|h1
 ·rcases Int.lt_trichotomy g 0 with h2|h2|h2
  ·have:=Int.mul_pos_of_neg_of_neg h2 h1;omega
  ·subst h2;simp at h;omega
  ·have:=Int.mul_neg_of_pos_of_neg h2 h1;omega
 ·subst h1;simp at h;omega
 ·exact h1
theorem Aft {x y:Int} (hy:y≠0):Red (mkF x y):=by
 have h1:=Aln x y
 have h2:=Alo x y
 have ha:=Ho x y
 have hp:=Kn (x:=x) hy
 refine ⟨mul_sg h2 hy (gcdI_sg hy),?_⟩
 generalize mkF x y=p at *
 generalize P9 x y=g at *
 have h3:Nat.gcd x.natAbs y.natAbs=g.natAbs*Nat.gcd p.1.natAbs p.2.natAbs:=by
  rw [<- h1,<- h2,Int.natAbs_mul,Int.natAbs_mul,Nat.gcd_mul_left]
 rw [<- ha] at h3 hp
 exact Nat.eq_of_mul_eq_mul_left hp (by rw [Nat.mul_one];exact h3.symm)
theorem red_eq {p q:Fr} (hp:Red p) (hq:Red q) (h:p.1*q.2=q.1*p.2):p=q:=by
 have hn:p.1.natAbs*q.2.natAbs=q.1.natAbs*p.2.natAbs:=by rw [<- Int.natAbs_mul,h,Int.natAbs_mul]
 have h1:p.2.natAbs∣q.2.natAbs:=Nat.Coprime.dvd_of_dvd_mul_left (Nat.Coprime.symm hp.2) (by rw [hn];exact Nat.dvd_mul_left _ _)
 have h2:q.2.natAbs∣p.2.natAbs:=Nat.Coprime.dvd_of_dvd_mul_left (Nat.Coprime.symm hq.2) (by rw [<- hn];exact Nat.dvd_mul_left _ _)
 have h3:=Nat.dvd_antisymm h1 h2
 have h4:p.2=q.2:=by have:=hp.1;have:=hq.1;omega
 rw [<- h4] at h
 have h5:p.1=q.1:=Int.eq_of_mul_eq_mul_right (by have:=hp.1;omega) h
 exact Prod.ext h5 h4
theorem Ano {x y:Int} {p:Fr} (hp:Red p) (hy:y≠0) (h:p.1*y=x*p.2):mkF x y=p:=by
 refine red_eq (Aft hy) hp ?_
 have h1:=Aln x y
 have h2:=Alo x y
 have hg:=Ae7 (x:=x) hy
 generalize mkF x y=m at *
 generalize P9 x y=g at *
 refine Int.eq_of_mul_eq_mul_left hg ?_
 rw [<- Int.mul_assoc,h1,<- h,<- Int.mul_assoc,Int.mul_comm g,Int.mul_assoc,h2]
theorem mkF_id {p:Fr} (hp:Red p):mkF p.1 p.2=p:=Ano hp (by have:=hp.1;omega) rfl
theorem Aks (n:Int):mkF n 1=(n,1):=Ano (p:=(n,1)) ⟨by omega,by simp⟩ (by omega) rfl
theorem Anp {x y:Int} (hy:y≠0):(mkF x y).1.natAbs<=x.natAbs:=by
 have h1:=congrArg Int.natAbs (Aln x y)
 have hp:=Kn (x:=x) hy
 rw [Int.natAbs_mul,Ho] at h1
 rw [<- h1];exact Nat.le_mul_of_pos_left _ hp
theorem Anq {x y:Int} (hy:y≠0):(mkF x y).2.natAbs<=y.natAbs:=by
 have h1:=congrArg Int.natAbs (Alo x y)
 have hp:=Kn (x:=x) hy
 rw [Int.natAbs_mul,Ho] at h1
 rw [<- h1];exact Nat.le_mul_of_pos_left _ hp
theorem dv_mul {g m:Int} (hg:g≠0):dQ (g*m) g=m/\dR (g*m) g=0:=by
 have h1:(g*m).natAbs / g.natAbs=m.natAbs:=by rw [Int.natAbs_mul,Nat.mul_div_cancel_left _ (by omega)]
 have h2:(g*m).natAbs % g.natAbs=0:=by rw [Int.natAbs_mul,Nat.mul_mod_right]
 refine ⟨?_,by unfold dR;rw [h2];split<;>rfl⟩
 unfold dQ
 rw [h1]
 rcases Int.lt_trichotomy m 0 with h|h|h
 ·rcases Int.lt_or_gt_of_ne hg with h3|h3
  ·have h4:=Int.mul_pos_of_neg_of_neg h3 h
   have h5:¬ g*m<0:=Int.not_lt.2 (Int.le_of_lt h4)
   rw [decide_eq_false h5,decide_eq_true h3,if_pos (by rfl)];omega
  ·have h4:=Int.mul_neg_of_pos_of_neg h3 h
   have h5:¬ g<0:=by omega
   rw [decide_eq_true h4,decide_eq_false h5,if_pos (by rfl)];omega
 ·subst h;split<;>rfl
 ·rcases Int.lt_or_gt_of_ne hg with h3|h3
  ·have h4:=Int.mul_neg_of_neg_of_pos h3 h
   rw [decide_eq_true h4,decide_eq_true h3,if_neg (by decide)];omega
  ·have h4:=Int.mul_pos h3 h
   have h5:¬ g*m<0:=Int.not_lt.2 (Int.le_of_lt h4)
   have h6:¬ g<0:=by omega
   rw [decide_eq_false h5,decide_eq_false h6,if_neg (by decide)];omega
theorem div_is {g m x:Int} (hg:g≠0) (hx:g*m=x) (hxl:(limN x.natAbs).length<=100000) (hgl:(limN g.natAbs).length<=100000):Adj x g m 0:=by
 subst hx
 have h:=wdiv_do (g*m) g hg hxl hgl
 obtain ⟨h1,h2⟩:=dv_mul (m:=m) hg
 have h3:dF (g*m) g=false:=by unfold dF;rw [h2];rfl
 rw [h3,if_neg (by simp),if_neg (by simp),h1,h2] at h
 exact h
theorem Afu (x y:Int) (hy:y≠0) (hxl:(limN x.natAbs).length<=100000) (hyl:(limN y.natAbs).length<=100000):Mh x y (mkF x y).1 (mkF x y).2:=by
 have h1:=Aln x y
 have h2:=Alo x y
 have hg:=Ae7 (x:=x) hy
 have hgl:(limN (P9 x y).natAbs).length<=100000:=Nat.le_trans (Hq (by rw [Ho];exact Nat.gcd_le_right _ (by omega))) hyl
 refine make_of x y _ _ 0 0 hxl hyl hy (fun e=>?_) (fun _=>div_is hg h1 hxl hgl) (fun _=>div_is hg h2 hyl hgl)
 rw [e,Int.one_mul] at h1 h2
 exact ⟨h1,h2⟩
def Lim (k n:Nat):Prop:=n<1000000000 ^ k
theorem Lim.mul {j k a b:Nat} (h1:Lim j a) (h2:Lim k b):Lim (j+k) (a*b):=by
 unfold Lim at *
 rw [Nat.pow_add]
 exact Nat.mul_lt_mul'' h1 h2
theorem Lim.mono {j k a:Nat} (h:Lim j a) (hk:j<=k):Lim k a:=Nat.lt_of_lt_of_le h (Nat.pow_le_pow_right (by decide) hk)
theorem Lim.le {k a b:Nat} (h:Lim k b) (hab:a<=b):Lim k a:=Nat.lt_of_le_of_lt hab h
theorem Lim.add {k a b:Nat} (h1:Lim k a) (h2:Lim k b):Lim (k+1) (a+b):=by
 unfold Lim at *
 rw [Nat.pow_succ];omega
theorem Lim.len {k a:Nat} (h:Lim k a):(limN a).length<=k:=limN_len h
structure Fit (k:Nat) (p:Fr):Prop where
 red:Red p
 num:Lim k p.1.natAbs
 den:Lim k p.2.natAbs
theorem Fit.mono {j k:Nat} {p:Fr} (h:Fit j p) (hk:j<=k):Fit k p:=⟨h.red,h.num.mono hk,h.den.mono hk⟩
theorem Ae0 {k:Nat} {x y:Int} (hy:y≠0) (h1:Lim k x.natAbs) (h2:Lim k y.natAbs):Fit k (mkF x y):=⟨Aft hy,h1.le (Anp hy),h2.le (Anq hy)⟩
def addF (p q:Fr):Fr:=mkF (p.1*q.2+q.1*p.2) (p.2*q.2)
def subF (p q:Fr):Fr:=mkF (p.1*q.2 + -q.1*p.2) (p.2*q.2)
def Amp (p q:Fr):Fr:=mkF (p.1*q.1) (p.2*q.2)
def divF (p q:Fr):Fr:=mkF (p.1*q.2) (p.2*q.1)
def Ans (p:Fr):Fr:=(-p.1,p.2)
def cmpF (p q:Fr):Int:=Cx (p.1*q.2) (q.1*p.2)
@[reducible] def fcP (p:Fr):PV:=Ou p.1 p.2
section
variable {j k:Nat} {p q:Fr}
theorem Bq {x y:Int} (h1:Lim j x.natAbs) (h2:Lim k y.natAbs):Lim (j+k) (x*y).natAbs:=by rw [Int.natAbs_mul];exact h1.mul h2
theorem Xw {x y:Int} (h1:Lim k x.natAbs) (h2:Lim k y.natAbs):Lim (k+1) (x+y).natAbs:=(h1.add h2).le (Int.natAbs_add_le _ _)
theorem Ua {x y:Int} (h1:0<x) (h2:0<y):x*y≠0:=by have:=Int.mul_pos h1 h2;omega
theorem Xr (hp:Fit j p):Fit j (Ans p):=⟨⟨hp.red.1,by unfold Ans;rw [Int.natAbs_neg];exact hp.red.2⟩,by unfold Ans;rw [Int.natAbs_neg];exact hp.num,hp.den⟩
theorem An8:subF p q=addF p (Ans q):=rfl
theorem Aez (hp:Fit j p) (hq:Fit k q):Fit (j+k+1) (addF p q) :=
 Ae0 (Ua hp.red.1 hq.red.1) (Xw (Bq hp.num hq.den) ((Bq hq.num hp.den).mono (by omega))) ((Bq hp.den hq.den).mono (by omega))
theorem fit_sub (hp:Fit j p) (hq:Fit k q):Fit (j+k+1) (subF p q):=by rw [An8];exact Aez hp (Xr hq)
theorem fit_mul (hp:Fit j p) (hq:Fit k q):Fit (j+k) (Amp p q):=Ae0 (Ua hp.red.1 hq.red.1) (Bq hp.num hq.num) (Bq hp.den hq.den)
theorem fit_div (hp:Fit j p) (hq:Fit k q) (h0:q.1≠0):Fit (j+k) (divF p q):=Ae0 (by have:=hp.red.1;exact Int.mul_ne_zero (by omega) h0) (Bq hp.num hq.den) (Bq hp.den hq.num)
theorem fadd_do (hp:Fit j p) (hq:Fit k q) (hj:j<=1000) (hk:k<=1000):Aw 44 [fcP p,fcP q] ⟨[],[]⟩ (.ret (fcP (addF p q))) ⟨[],[]⟩:=by
 have l1:=hp.num.len
 have l2:=hp.den.len
 have l3:=hq.num.len
 have l4:=hq.den.len
 have l5:=(Bq hp.num hq.den).len
 have l6:=(Bq hq.num hp.den).len
 refine Afx p.1 p.2 q.1 q.2 _ _ (by omega) (by omega) (by omega) (by omega) (by omega) (by omega) (Afu _ _ (Ua hp.red.1 hq.red.1) ?_ ?_)
 ·have:=(Xw (Bq hp.num hq.den) ((Bq hq.num hp.den).mono (show k+j<=j+k by omega))).len;omega
 ·have:=(Bq hp.den hq.den).len;omega
theorem fneg_do (p:Fr):Aw 60 [fcP p] ⟨[],[]⟩ (.ret (fcP (Ans p))) ⟨[],[]⟩:=Af7 p.1 p.2
theorem fsub_do (hp:Fit j p) (hq:Fit k q) (hj:j<=1000) (hk:k<=1000):Aw 43 [fcP p,fcP q] ⟨[],[]⟩ (.ret (fcP (subF p q))) ⟨[],[]⟩:=by
 have hq':=Xr hq
 have l1:=hp.num.len
 have l2:=hp.den.len
 have l3:=hq.num.len
 have l4:=hq.den.len
 have l5:=(Bq hp.num hq.den).len
 have l6:=(Bq hq'.num hp.den).len
 refine nsub_of p.1 p.2 q.1 q.2 _ _ (by omega) (by omega) (by omega) (by omega) (by omega) (by show (limN (-q.1*p.2).natAbs).length<=_;exact Nat.le_trans l6 (by omega)) (Afu _ _ (Ua hp.red.1 hq.red.1) ?_ ?_)
 ·have:=(Xw (Bq hp.num hq.den) ((Bq hq'.num hp.den).mono (show k+j<=j+k by omega))).len;exact Nat.le_trans this (by omega)
 ·have:=(Bq hp.den hq.den).len;omega
theorem fmul_do (hp:Fit j p) (hq:Fit k q) (hj:j<=1000) (hk:k<=1000):Aw 45 [fcP p,fcP q] ⟨[],[]⟩ (.ret (fcP (Amp p q))) ⟨[],[]⟩:=by
 have l1:=hp.num.len
 have l2:=hp.den.len
 have l3:=hq.num.len
 have l4:=hq.den.len
 refine nmul_of p.1 p.2 q.1 q.2 _ _ (by omega) (by omega) (by omega) (by omega) (Afu _ _ (Ua hp.red.1 hq.red.1) ?_ ?_)
 ·have:=(Bq hp.num hq.num).len;omega
 ·have:=(Bq hp.den hq.den).len;omega
theorem fdiv_do (hp:Fit j p) (hq:Fit k q) (h0:q.1≠0) (hj:j<=1000) (hk:k<=1000):Aw 50 [fcP p,fcP q] ⟨[],[]⟩ (.ret (fcP (divF p q))) ⟨[],[]⟩:=by
 have l1:=hp.num.len
 have l2:=hp.den.len
 have l3:=hq.num.len
 have l4:=hq.den.len
 refine ndiv_of p.1 p.2 q.1 q.2 _ _ (by omega) (by omega) (by omega) (by omega) (Afu _ _ (by have:=hp.red.1;exact Int.mul_ne_zero (by omega) h0) ?_ ?_)
 ·have:=(Bq hp.num hq.den).len;omega
 ·have:=(Bq hp.den hq.num).len;omega
theorem fcmp_do (hp:Fit j p) (hq:Fit k q) (hj:j<=1000) (hk:k<=1000):Aw 53 [fcP p,fcP q] ⟨[],[]⟩ (.ret (An (cmpF p q))) ⟨[],[]⟩:=by
 have l1:=hp.num.len
 have l2:=hp.den.len
 have l3:=hq.num.len
 have l4:=hq.den.len
 have l5:=(Bq hp.num hq.den).len
 have l6:=(Bq hq.num hp.den).len
 exact ncmp_do p.1 p.2 q.1 q.2 (by omega) (by omega) (by omega) (by omega) (by omega) (by omega)
theorem Rf (n:Int) (h:n.natAbs<1000000000):Fit 1 (n,1):=⟨⟨by omega,by simp⟩,by unfold Lim;simpa using h,by unfold Lim;simp⟩
theorem fof_do (n:Int) (h:n.natAbs<1000000000):Aw 58 [An n,An 1] ⟨[],[]⟩ (.ret (fcP (n,1))) ⟨[],[]⟩:=by
 have hm:=Afu n 1 (by omega) (by have:=(Rf n h).num.len;exact Nat.le_trans this (by decide)) (by have:=(Rf n h).den.len;exact Nat.le_trans this (by decide))
 rw [Aks] at hm
 exact nof_of n 1 n 1 (by omega) (by omega) hm
end
def e1:Ex := .mk 1 1 ⟨#[]⟩ []
def e2:Ex := .mk 1 2 ⟨#[]⟩ []
def e3:Ex := .mk 1 3 ⟨#[]⟩ []
def e0:Ex := .mk 1 0 ⟨#[]⟩ []
def eX:Ex := .mk 2 0 ⟨#[120]⟩ []
def eY:Ex := .mk 2 0 ⟨#[121]⟩ []
def eT:Ex := .mk 3 0 ⟨#[]⟩ []
def eF:Ex := .mk 4 0 ⟨#[]⟩ []
def nd (op:Int) (l:List Ex):Ex := .mk op 0 ⟨#[]⟩ l
def txt1:ByteArray:=⟨#[49,32,43,32,50,32,42,32,120,32,45,32,51]⟩
def txt2:ByteArray:=⟨#[49,32,60,32,120,32,60,32,50]⟩
def txt3:ByteArray:=⟨#[40,32,49,32,43,32,41]⟩
def txt4:ByteArray:=⟨#[49,32,43,32,45,32,50]⟩
def txt5:ByteArray:=⟨#[110,111,116,32,49]⟩
def txt6:ByteArray:=⟨#[111,114]⟩
def tl1:List TkZ:=[(3,⟨#[49]⟩,0),(4,⟨#[43]⟩,2),(3,⟨#[50]⟩,4),(4,⟨#[42]⟩,6),(1,⟨#[120]⟩,8),(4,⟨#[45]⟩,10),(3,⟨#[51]⟩,12)]
def tl2:List TkZ:=[(3,⟨#[49]⟩,0),(4,⟨#[60]⟩,2),(1,⟨#[120]⟩,4),(4,⟨#[60]⟩,6),(3,⟨#[50]⟩,8)]
def tl3:List TkZ:=[(4,⟨#[40]⟩,0),(3,⟨#[49]⟩,2),(4,⟨#[43]⟩,4),(4,⟨#[41]⟩,6)]
def tl4:List TkZ:=[(3,⟨#[49]⟩,0),(4,⟨#[43]⟩,2),(4,⟨#[45]⟩,4),(3,⟨#[50]⟩,6)]
def tl5:List TkZ:=[(2,⟨#[110,111,116]⟩,0),(3,⟨#[49]⟩,4)]
def tl6:List TkZ:=[(2,⟨#[111,114]⟩,0)]
mutual
def Qs:Ex->Bool
 |.mk _ _ s l=>Nat.ble s.size 9223372036854775807&&Su l
def Su:List Ex->Bool
 |[]=>true
 |x::l=>Qs x&&Su l
end
mutual
theorem C4:∀ {x:Ex},Qs x=true->x.small
 |.mk _ _ s l,h=>by
  simp only [Qs,Bool.and_eq_true] at h
  exact ⟨Nat.le_of_ble_eq_true h.1,Qt h.2⟩
theorem Qt:∀ {l:List Ex},Su l=true->Qu l
 |[],_=>trivial
 |x::l,h=>by
  simp only [Su,Bool.and_eq_true] at h
  exact ⟨C4 h.1,Qt h.2⟩
end
theorem reads1:Aw 36 [Fi txt1,exP (nd 8 [nd 7 [e1,nd 9 [e2,eX]],e3]),An 7] ⟨[],[]⟩ (.ret (At true)) ⟨[],[]⟩ :=
 K8 tl1 _ (by decide +kernel) (by decide +kernel) (by decide +kernel) (by decide +kernel) (by kernel_rfl) (C4 (by decide +kernel)) (by decide +kernel) (by decide +kernel)
theorem reads2:Aw 36 [Fi txt2,exP (nd 13 [e1,eX]),An 3] ⟨[],[]⟩ (.ret (At true)) ⟨[],[]⟩ :=
 K8 tl2 _ (by decide +kernel) (by decide +kernel) (by decide +kernel) (by decide +kernel) (by kernel_rfl) (C4 (by decide +kernel)) (by decide +kernel) (by decide +kernel)
theorem reads4:Aw 36 [Fi txt4,exP (nd 7 [e1,nd 5 [e2]]),An 4] ⟨[],[]⟩ (.ret (At true)) ⟨[],[]⟩ :=
 K8 tl4 _ (by decide +kernel) (by decide +kernel) (by decide +kernel) (by decide +kernel) (by kernel_rfl) (C4 (by decide +kernel)) (by decide +kernel) (by decide +kernel)
theorem reads5:Aw 36 [Fi txt5,exP (nd 6 [e1]),An 2] ⟨[],[]⟩ (.ret (At true)) ⟨[],[]⟩ :=
 K8 tl5 _ (by decide +kernel) (by decide +kernel) (by decide +kernel) (by decide +kernel) (by kernel_rfl) (C4 (by decide +kernel)) (by decide +kernel) (by decide +kernel)
theorem fails3:Aw 37 [Fi txt3,An 3,An 350] ⟨[],[]⟩ (.ret (At true)) ⟨[],[]⟩ :=
 Ug tl3 (by decide +kernel) (by decide +kernel) (by decide +kernel) (by decide +kernel) (by kernel_rfl)
theorem fails6:Aw 37 [Fi txt6,An 0,An 350] ⟨[],[]⟩ (.ret (At true)) ⟨[],[]⟩ :=
 Ug tl6 (by decide +kernel) (by decide +kernel) (by decide +kernel) (by decide +kernel) (by kernel_rfl)
def sIf:ByteArray:=⟨#[105,102,32]⟩
def Yh:ByteArray:=⟨#[32,116,104,101,110,32]⟩
def sElse:ByteArray:=⟨#[32,101,108,115,101,32]⟩
def sSp:ByteArray:=⟨#[32]⟩
def sOpen:ByteArray:=⟨#[40,32]⟩
def sShut:ByteArray:=⟨#[32,41]⟩
def sTrue:ByteArray:=⟨#[116,114,117,101]⟩
def sFalse:ByteArray:=⟨#[102,97,108,115,101]⟩
def Gf (p:ByteArray×Int) (least:Int):ByteArray:=if p.2<least then (sOpen++p.1)++sShut else p.1
def Pp (o n:Int) (s:ByteArray) (l:List (ByteArray×Int)):ByteArray :=
 if o=1 then Y5 n else if o=2 then s else if o=3 then sTrue else if o=4 then sFalse else
 match l with
 |[a,b,c]=>if o=19 then ((((sIf++a.1)++Yh)++b.1)++sElse)++c.1 else ⟨#[]⟩
 |[a]=>(Ey o++sSp)++Gf a (Bi o)
 |[a,b]=>if Bi o=4 then (((Gf a 5++sSp)++Ey o)++sSp)++Gf b 5 else (((Gf a (Bi o)++sSp)++Ey o)++sSp)++Gf b (Bi o+1)
 |_=>⟨#[]⟩
mutual
def A3:Ex->ByteArray
 |.mk o n s l=>Pp o n s (Kf l)
def Kf:List Ex->List (ByteArray×Int)
 |[]=>[]
 |.mk o n s l::r=>(A3 (.mk o n s l),Bi o)::Kf r
end
theorem Ad6 (x:Ex):A3 x=Pp x.op x.n x.name (Kf x.args):=by cases x;rw [A3];rfl
theorem Gy:∀ l:List Ex,Kf l=l.map fun x=>(A3 x,Bi x.op)
 |[]=>rfl
 |.mk o n s l::r=>by rw [Kf,Gy r];rfl
mutual
def wtX:Ex->Nat
 |.mk _ _ s l=>40+s.size+wtL l
def wtL:List Ex->Nat
 |[]=>0
 |x::r=>wtX x+wtL r
end
mutual
def Ex.fine:Ex->Bool
 |.mk o n _ l=>decide ((l.length:Int)=Dq o)&&decide (0<=n)&&decide (n<=9999)&&Rd l
def Rd:List Ex->Bool
 |[]=>true
 |x::l=>x.fine&&Rd l
end
theorem N9 {x:Ex} (h:x.fine=true):(x.args.length:Int)=Dq x.op/\0<=x.n/\x.n<=9999/\Rd x.args=true:=by
 cases x;simp only [Ex.fine,Bool.and_eq_true,decide_eq_true_eq] at h;exact ⟨h.1.1.1,h.1.1.2,h.1.2,h.2⟩
theorem Uh:∀ {l:List Ex},Rd l=true->∀ x∈l,x.fine=true
 |y::l,h,x,hx=>by
  simp only [Rd,Bool.and_eq_true] at h
  rcases List.mem_cons.1 hx with rfl|hx
  ·exact h.1
  ·exact Uh h.2 x hx
theorem size_ite {c:Prop} [Decidable c] {a b:ByteArray} {k:Nat} (ha:a.size<=k) (hb:b.size<=k):(if c then a else b).size<=k:=by split<;>assumption
theorem Acs (o:Int):(Ey o).size<=3:=by
 unfold Ey
 repeat' apply size_ite
 all_goals exact Nat.le_of_ble_eq_true rfl
theorem C5 (p:ByteArray×Int) (k:Int):(Gf p k).size<=p.1.size+4:=by
 unfold Gf
 split
 ·simp only [ByteArray.size_append];show 2+_+2<=_;omega
 ·omega
theorem Aed {n:Int} (h0:0<=n) (h1:n<=9999):(Y5 n).size<=19:=by
 obtain ⟨m,rfl⟩:=Int.eq_ofNat_of_zero_le h0
 exact Aee (by omega)
theorem Abw {o n:Int} {s:ByteArray} {l:List (ByteArray×Int)} (h0:0<=n) (h1:n<=9999):(Pp o n s l).size<=36+s.size+(l.map fun p=>p.1.size+4).sum:=by
 have hs:=Acs o
 unfold Pp
 split
 ·have:=Aed h0 h1;omega
 split
 ·omega
 split
 ·show 4<=_;omega
 split
 ·show 5<=_;omega
 split
 ·rename_i a b c
  split
  ·simp only [ByteArray.size_append,List.map_cons,List.map_nil,List.sum_cons,List.sum_nil];show 3+_+6+_+6+_<=_;omega
  ·show 0<=_;omega
 ·rename_i a
  have:=C5 a (Bi o)
  simp only [ByteArray.size_append,List.map_cons,List.map_nil,List.sum_cons,List.sum_nil];show _+1+_<=_;omega
 ·rename_i a b
  split
  ·have:=C5 a 5
   have:=C5 b 5
   simp only [ByteArray.size_append,List.map_cons,List.map_nil,List.sum_cons,List.sum_nil];show _+1+_+1+_<=_;omega
  ·have:=C5 a (Bi o)
   have:=C5 b (Bi o+1)
   simp only [ByteArray.size_append,List.map_cons,List.map_nil,List.sum_cons,List.sum_nil];show _+1+_+1+_<=_;omega
 ·show 0<=_;omega
mutual
theorem J2:∀ x:Ex,x.fine=true->(A3 x).size+4<=wtX x
 |.mk o n s l,h=>by
  have h':=N9 h
  rw [A3,wtX]
  have h1:=Abw (o:=o) (n:=n) (s:=s) (l:=Kf l) h'.2.1 h'.2.2.1
  have h2:=N1 l h'.2.2.2
  omega
theorem N1:∀ l:List Ex,Rd l=true->((Kf l).map fun p=>p.1.size+4).sum<=wtL l
 |[],_=>by simp [Kf,wtL]
 |.mk o n s a::r,h=>by
  simp only [Rd,Bool.and_eq_true] at h
  have h1:=J2 (.mk o n s a) h.1
  have h2:=N1 r h.2
  rw [Kf,wtL]
  simp only [List.map_cons,List.sum_cons]
  omega
end
abbrev Id:=Nat×List PV×POut
def Id.holds (e:Id):Prop:=Aw e.1 e.2.1 ⟨[],[]⟩ e.2.2 ⟨[],[]⟩
def normA:PV->PV
 |.d (.v (.slice none 0 0)) => .d (.sl 1 [])
 |p=>normX p
theorem Af9 (S:PS) (p:PV):Coe S p (normA p):=by
 unfold normA
 split
 ·exact Er
 ·exact Vm S _
theorem Qi (S:PS):∀ l:List PV,F7 S l (l.map normA)
 |[]=>Ae
 |p::r=>Ab (Af9 S p) (Qi S r)
def eqPA:PV->PV->Bool
 |.agg l,.agg l'=>eqPs l l'
 |p,q=>eqP p q
theorem eqPA_ok {p q:PV} (h:eqPA p q=true):p=q:=by
 unfold eqPA at h
 split at h
 ·rw [Xp h]
 ·exact eqP_ok h
def Xo:List PV->List PV->Bool
 |[],[]=>true
 |c::r,c'::r'=>eqPA c c'&&Xo r r'
 |_,_=>false
theorem Zd:∀ {l l':List PV},Xo l l'=true->l=l'
 |[],[],_=>rfl
 |c::r,c'::r',h=>by
  simp only [Xo,Bool.and_eq_true] at h
  rw [eqPA_ok h.1,Zd h.2]
 |[],_::_,h=>by simp [Xo] at h
 |_::_,[],h=>by simp [Xo] at h
def findT (f:Nat) (args:List PV):List Id->Option POut
 |[]=>none
 |e::r=>bif Nat.beq e.1 f&&Xo e.2.1 args then some e.2.2 else findT f args r
def orcT (T:List Id) (f:Nat) (args:List PV) (S:PS):Option (POut×PS):=match S with
 |⟨[],[]⟩=>match findT f (args.map normA) T with
  |some o=>some (o,⟨[],[]⟩)
  |none=>none
 |_=>none
theorem Abr {f:Nat} {args args':List PV} {S S':PS} {out:POut} (h:Aw f args' S out S') (hc:F7 S args args'):Aw f args S out S' :=
 ⟨h.1,fun K w vs hI hA=>h.2 K w vs hI (F7.rep hI hc hA)⟩
theorem Zl {f:Nat} {args:List PV} {o:POut}:∀ {T:List Id},(∀ e∈T,Id.holds e)->findT f args T=some o->Aw f args ⟨[],[]⟩ o ⟨[],[]⟩
 |[],_,h=>by cases h
 |e::r,hT,h=>by
  unfold findT at h
  cases hb:(Nat.beq e.1 f&&Xo e.2.1 args) with
  |true =>
   rw [hb] at h
   simp only [Bool.and_eq_true] at hb
   simp only [cond_true,Option.some.injEq] at h
   have:=hT e List.mem_cons_self
   unfold Id.holds at this
   rw [Nat.eq_of_beq_eq_true hb.1,Zd hb.2,h] at this
   exact this
  |false =>
   rw [hb] at h
   exact Zl (fun e he=>hT e (List.mem_cons_of_mem _ he)) h
theorem orcT_ok {T:List Id} (hT:∀ e∈T,Id.holds e):Pk (orcT T):=by
 intro f args S out S' h
 unfold orcT at h
 split at h
 ·split at h
  ·rename_i o ho
   cases h
   exact Abr (Zl hT ho) (Qi _ _)
  ·cases h
 ·cases h
theorem Aex:∀ e∈([]:List Id),Id.holds e:=fun _ h=>by cases h
theorem A5 {e:Id} {T:List Id} (h:e.holds) (h':∀ e∈T,Id.holds e):∀ x∈e::T,Id.holds x:=fun x hx=>by
 rcases List.mem_cons.1 hx with rfl|hx
 ·exact h
 ·exact h' x hx
theorem Re {x y:Ex} (h:x.fine=true) (hy:y∈x.args):y.fine=true:=Uh (N9 h).2.2.2 y hy
theorem wt_mem:∀ {l:List Ex} {y:Ex},y∈l->wtX y<=wtL l
 |x::l,y,h=>by
  rw [wtL]
  rcases List.mem_cons.1 h with rfl|h
  ·omega
  ·have:=wt_mem h;omega
theorem wt_eq (x:Ex):wtX x=40+x.name.size+wtL x.args:=by cases x;rw [wtX];rfl
theorem one_arg {x:Ex} (h:(x.args.length:Int)=1):∃ a,x.args=[a]:=by
 match e:x.args,h with
 |[a],_=>exact ⟨a,rfl⟩
 |[],h=>simp at h
 |_::_::_,h=>simp at h;omega
theorem Aa4 {x:Ex} (h:(x.args.length:Int)=2):∃ a b,x.args=[a,b]:=by
 match e:x.args,h with
 |[a,b],_=>exact ⟨a,b,rfl⟩
 |[],h=>simp at h
 |[_],h=>simp at h
 |_::_::_::_,h=>simp at h;omega
theorem Rq {o n : Int} {s : ByteArray} {l : List (ByteArray × Int)} (h : 5 <= o /\ o <= 18) : Pp o n s l = match l with
    | [_, _, _] => ⟨#[]⟩
    | [a] => (Ey o ++ sSp) ++ Gf a (Bi o)
    | [a, b] => if Bi o = 4 then (((Gf a 5 ++ sSp) ++ Ey o) ++ sSp) ++ Gf b 5 else (((Gf a (Bi o) ++ sSp) ++ Ey o) ++ sSp) ++ Gf b (Bi o + 1)
    | _ => ⟨#[]⟩ := by
  unfold Pp
  rw [if_neg (by omega), if_neg (by omega), if_neg (by omega), if_neg (by omega)]
  split
  . rw [if_neg (by omega)]
  . rfl
  . rfl
  . rename_i h1 h2 h3
    first
      | rfl
      | (split
         . exact absurd rfl (h1 _ _ _)
         . exact absurd rfl (h2 _)
         . exact absurd rfl (h3 _ _)
         . rfl)
theorem opZ_all {op:Int} (h1:1<=op) (h2:op<=19):(opZ op).1=Dq op/\(opZ op).2.2.2.1=Bi op/\(5<=op->op<=18->(opZ op).2.2.2.2=Ey op)/\(op=3->(opZ op).2.2.2.2=sTrue)/\(op=4->(opZ op).2.2.2.2=sFalse):=by
 rcases L0 h1 h2 with rfl|rfl|rfl|rfl|rfl|rfl|rfl|rfl|rfl|rfl|rfl|rfl|rfl|rfl|rfl|rfl|rfl|rfl|rfl<;>exact ⟨rfl,rfl,fun _ _=>by first|rfl|omega,fun h=>by first|rfl|omega,fun h=>by first|rfl|omega⟩
theorem ar_lv {op:Int} (h1:1<=op) (h2:op<=19):0<=Bi op/\Bi op<=8/\((op=1\/op=2\/op=3\/op=4)/\Dq op=0/\Bi op=8\/op=19/\Dq op=3\/5<=op/\op<=18/\(Dq op=1/\Bi op≠4\/Dq op=2)):=by
 rcases L0 h1 h2 with rfl|rfl|rfl|rfl|rfl|rfl|rfl|rfl|rfl|rfl|rfl|rfl|rfl|rfl|rfl|rfl|rfl|rfl|rfl<;>decide
theorem sg_size {op:Int} (h1:1<=op) (h2:op<=19):(opZ op).2.2.2.2.size<=5:=by
 rcases L0 h1 h2 with rfl|rfl|rfl|rfl|rfl|rfl|rfl|rfl|rfl|rfl|rfl|rfl|rfl|rfl|rfl|rfl|rfl|rfl|rfl<;>exact Nat.le_of_ble_eq_true rfl
set_option maxHeartbeats 4000000 in
theorem text_do:∀ (n:Nat) (x:Ex),x.hgt<=n->x.fine=true->wtX x<=1000000->∀ k:Int,0<=k->k<=9->Aw 108 [exP x,An k] ⟨[],[]⟩ (.ret (Fi (Gf (A3 x,Bi x.op) k))) ⟨[],[]⟩:=by
 intro n
 induction n with
 |zero=>intro a h;cases a;simp [Ex.hgt] at h
 |succ n ih =>
  intro x hn hx hw k hk0 hk9
  have hf:=N9 hx
  have hc:=Ad6 x
  have hsz:=J2 x hx
  have hsub:∀ y∈x.args,(∀ k:Int,0<=k->k<=9->Aw 108 [exP y,An k] ⟨[],[]⟩ (.ret (Fi (Gf (A3 y,Bi y.op) k))) ⟨[],[]⟩)/\(A3 y).size+4<=wtX y:=fun y hy =>
   ⟨ih y (by have:=Ga hy;omega) (Re hx hy) (by have:=wt_mem hy;have:=wt_eq x;omega),J2 y (Re hx hy)⟩
  have hwx:=wt_eq x
  have hop:1<=x.op/\x.op<=19:=by
   have:=hf.1
   unfold Dq at this
   repeat' split at this
   all_goals omega
  have hkd:=Zx x.op
  have hall:=opZ_all hop.1 hop.2
  have hcs:=ar_lv hop.1 hop.2
  have hss:=sg_size hop.1 hop.2
  rw [show H8 x.op=true from by simp [H8,hop],cond_true] at hkd
  obtain ⟨z,hz⟩:∃ z,opZ x.op=z:=⟨_,rfl⟩
  rw [hz] at hall hss hkd
  obtain ⟨ar,wa,is,lv,sg⟩:=z
  simp only at hall hss
  obtain ⟨rfl,rfl,h5,h3,h4⟩:=hall
  refine Af Tryz.func108 rfl rfl (Nat.le_of_ble_eq_true rfl) rfl (Nat.le_refl _) ?_
  repeat' (first|refine rl4 ?_|refine rs4 ?_ ?_<;>intro h|fail)
  refine Gh hkd rfl rfl rfl rfl rfl (by repeat (first|exact Ae|refine Ab (Ac _) ?_)) ?_
  repeat' (first|refine rl4 ?_|refine rs4 ?_ ?_<;>intro h|fail)
  refine V8 (ι := Unit) (fun _=>True) (fun _=>[(1,An k),(5,.ptr 1 0),(7,Fi (A3 x))]) (fun _=>⟨[(exP x).parts,opP (Dq x.op,wa,is,Bi x.op,sg)],[]⟩) ?_ (fun _ _=>?_)
  ·repeat' (first|refine rl0 ?_|refine rs0 ?_ ?_<;>intro h|fail)
   ·have ho:x.op=1:=by simpa using h
    refine Gh (Anj x.n (by omega) (by omega)) rfl rfl rfl rfl rfl (by repeat (first|exact Ae|refine Ab (Ac _) ?_)) ?_
    repeat' (first|refine rl0 ?_|refine rs0 ?_ ?_<;>intro h|fail)
    refine ⟨(),trivial,Aa rfl (Aa rfl (Aa (show PV.d (.v (.string _))=_ from ?_) Ag)),rfl⟩
    rw [hc];unfold Pp;rw [if_pos ho];rfl
   ·have ho:x.op=2:=by simpa using h
    refine ⟨(),trivial,Aa rfl (Aa rfl (Aa (show PV.d (.v (.string _))=_ from ?_) Ag)),rfl⟩
    rw [hc];unfold Pp;rw [if_neg (by omega),if_pos ho]
   ·have ho:x.op=19:=by simpa using h
    obtain ⟨a,b,c,he⟩:∃ a b c,x.args=[a,b,c]:=by
     have:=hf.1
     rw [ho,show Dq 19=3 from rfl] at this
     match e:x.args,this with
     |[a,b,c],_=>exact ⟨a,b,c,rfl⟩
     |[],h=>simp at h
     |[_],h=>simp at h
     |[_,_],h=>simp at h
     |_::_::_::_::_,h=>simp at h;omega
    have ha:=hsub a (by rw [he];simp)
    have hb:=hsub b (by rw [he];simp)
    have hcc:=hsub c (by rw [he];simp)
    have hwl:wtL x.args=wtX a+(wtX b+(wtX c+0)):=by rw [he];rfl
    have l0:∀ y:Ex,y.op>=1->y.op<=19->Gf (A3 y,Bi y.op) 0=A3 y:=fun y h1 h2=>if_neg (by have:=ar_lv h1 h2;simp only;omega)
    have hop':∀ y∈x.args,1<=y.op/\y.op<=19:=fun y hy=>by
     have:=(N9 (Re hx hy)).1
     unfold Dq at this
     repeat' split at this
     all_goals omega
    have da:=ha.1 0 (by omega) (by omega)
    have db:=hb.1 0 (by omega) (by omega)
    have dc:=hcc.1 0 (by omega) (by omega)
    rw [l0 a (hop' a (by rw [he];simp)).1 (hop' a (by rw [he];simp)).2] at da
    rw [l0 b (hop' b (by rw [he];simp)).1 (hop' b (by rw [he];simp)).2] at db
    rw [l0 c (hop' c (by rw [he];simp)).1 (hop' c (by rw [he];simp)).2] at dc
    have e1:(sIf++A3 a).size=3+(A3 a).size:=by rw [ByteArray.size_append];rfl
    have e2:((sIf++A3 a)++Yh).size=9+(A3 a).size:=by rw [ByteArray.size_append,e1];show 3+_+6=_;omega
    have e3:(((sIf++A3 a)++Yh)++A3 b).size=9+(A3 a).size+(A3 b).size:=by rw [ByteArray.size_append,e2]
    have e4:((((sIf++A3 a)++Yh)++A3 b)++sElse).size=15+(A3 a).size+(A3 b).size:=by rw [ByteArray.size_append,e3];show _+6=_;omega
    refine Tj _ rfl rfl rfl rfl rfl (Ak (i:=0) (x:=a) (by rw [he];rfl)) (by omega) ?_
    repeat' (first|refine rl0 ?_|refine rs0 ?_ ?_<;>intro h|fail)
    refine wcn da rfl rfl rfl rfl rfl (by repeat (first|exact Ae|refine Ab (Ac _) ?_)) ?_
    refine wan rfl rfl (by show 3+(A3 a).size<=_;omega) ?_
    refine wan rfl rfl (by show (sIf++A3 a).size+6<=_;omega) ?_
    repeat' (first|refine rl0 ?_|refine rs0 ?_ ?_<;>intro h|fail)
    refine Tj _ rfl rfl rfl rfl rfl (Ak (i:=1) (x:=b) (by rw [he];rfl)) (by omega) ?_
    repeat' (first|refine rl0 ?_|refine rs0 ?_ ?_<;>intro h|fail)
    refine wcn db rfl rfl rfl rfl rfl (by repeat (first|exact Ae|refine Ab (Ac _) ?_)) ?_
    refine wan rfl rfl (by show ((sIf++A3 a)++Yh).size+(A3 b).size<=_;omega) ?_
    refine wan rfl rfl (by show (((sIf++A3 a)++Yh)++A3 b).size+6<=_;omega) ?_
    repeat' (first|refine rl0 ?_|refine rs0 ?_ ?_<;>intro h|fail)
    refine Tj _ rfl rfl rfl rfl rfl (Ak (i:=2) (x:=c) (by rw [he];rfl)) (by omega) ?_
    repeat' (first|refine rl0 ?_|refine rs0 ?_ ?_<;>intro h|fail)
    refine wcn dc rfl rfl rfl rfl rfl (by repeat (first|exact Ae|refine Ab (Ac _) ?_)) ?_
    refine wan rfl rfl (by show ((((sIf++A3 a)++Yh)++A3 b)++sElse).size+(A3 c).size<=_;omega) ?_
    repeat' (first|refine rl0 ?_|refine rs0 ?_ ?_<;>intro h|fail)
    refine ⟨(),trivial,Aa rfl (Aa rfl (Aa (show PV.d (.v (.string _))=_ from ?_) Ag)),rfl⟩
    rw [hc,he,Gy];unfold Pp;rw [if_neg (by omega),if_neg (by omega),if_neg (by omega),if_neg (by omega)]
    simp only [List.map_cons,List.map_nil];rw [if_pos ho];rfl
   ·rename_i g1 g2 g3
    simp at g1 g2 g3
    have h1:Dq x.op=1:=by simpa using h
    have hops:5<=x.op/\x.op<=18:=by omega
    obtain rfl:=h5 hops.1 hops.2
    obtain ⟨a,he⟩:=one_arg (by rw [hf.1];omega:(x.args.length:Int)=1)
    have ha:=hsub a (by rw [he];simp)
    have hwl:wtL x.args=wtX a+0:=by rw [he];rfl
    have hwr:=C5 (A3 a,Bi a.op) (Bi x.op)
    have e1:(Ey x.op++sSp).size=(Ey x.op).size+1:=by rw [ByteArray.size_append];rfl
    refine wan rfl rfl (by show (Ey x.op).size+1<=_;omega) ?_
    repeat' (first|refine rl0 ?_|refine rs0 ?_ ?_<;>intro h|fail)
    refine Tj _ rfl rfl rfl rfl rfl (Ak (i:=0) (x:=a) (by rw [he];rfl)) (by omega) ?_
    repeat' (first|refine rl0 ?_|refine rs0 ?_ ?_<;>intro h|fail)
    refine wcn (ha.1 (Bi x.op) (by omega) (by omega)) rfl rfl rfl rfl rfl (by repeat (first|exact Ae|refine Ab (Ac _) ?_)) ?_
    refine wan rfl rfl (by show (Ey x.op++sSp).size+(Gf (A3 a,Bi a.op) (Bi x.op)).size<=_;dsimp only at hwr;omega) ?_
    repeat' (first|refine rl0 ?_|refine rs0 ?_ ?_<;>intro h|fail)
    refine ⟨(),trivial,Aa rfl (Aa rfl (Aa (show PV.d (.v (.string _))=_ from ?_) Ag)),rfl⟩
    rw [hc,Rq hops,he,Gy];rfl
   ·rename_i g1 g2 g3 g4
    simp at g1 g2 g3 g4
    have h4':Bi x.op=4:=by simpa using h
    have hops:5<=x.op/\x.op<=18:=by omega
    obtain rfl:=h5 hops.1 hops.2
    obtain ⟨a,b,he⟩:=Aa4 (by rw [hf.1];omega:(x.args.length:Int)=2)
    have ha:=hsub a (by rw [he];simp)
    have hb:=hsub b (by rw [he];simp)
    have hwl:wtL x.args=wtX a+(wtX b+0):=by rw [he];rfl
    have w1:=C5 (A3 a,Bi a.op) 5
    have w2:=C5 (A3 b,Bi b.op) 5
    have dA:=ha.1 5 (by omega) (by omega)
    have dB:=hb.1 5 (by omega) (by omega)
    dsimp only at w1 w2
    generalize hA:Gf (A3 a,Bi a.op) 5=A at w1 dA
    generalize hB:Gf (A3 b,Bi b.op) 5=B at w2 dB
    have e1:(A++sSp).size=A.size+1:=by rw [ByteArray.size_append];rfl
    have e2:((A++sSp)++Ey x.op).size=A.size+1+(Ey x.op).size:=by rw [ByteArray.size_append,e1]
    have e3:(((A++sSp)++Ey x.op)++sSp).size=A.size+1+(Ey x.op).size+1:=by rw [ByteArray.size_append,e2];rfl
    refine Tj _ rfl rfl rfl rfl rfl (Ak (i:=0) (x:=a) (by rw [he];rfl)) (by omega) ?_
    repeat' (first|refine rl0 ?_|refine rs0 ?_ ?_<;>intro h|fail)
    refine wcn dA rfl rfl rfl rfl rfl (by repeat (first|exact Ae|refine Ab (Ac _) ?_)) ?_
    refine wan rfl rfl (by show A.size+1<=_;omega) ?_
    repeat' (first|refine rl0 ?_|refine rs0 ?_ ?_<;>intro h|fail)
    refine wan rfl rfl (by show (A++sSp).size+(Ey x.op).size<=_;omega) ?_
    refine wan rfl rfl (by show ((A++sSp)++Ey x.op).size+1<=_;omega) ?_
    repeat' (first|refine rl0 ?_|refine rs0 ?_ ?_<;>intro h|fail)
    refine Tj _ rfl rfl rfl rfl rfl (Ak (i:=1) (x:=b) (by rw [he];rfl)) (by omega) ?_
    repeat' (first|refine rl0 ?_|refine rs0 ?_ ?_<;>intro h|fail)
    refine wcn dB rfl rfl rfl rfl rfl (by repeat (first|exact Ae|refine Ab (Ac _) ?_)) ?_
    refine wan rfl rfl (by show (((A++sSp)++Ey x.op)++sSp).size+B.size<=_;omega) ?_
    repeat' (first|refine rl0 ?_|refine rs0 ?_ ?_<;>intro h|fail)
    refine ⟨(),trivial,Aa rfl (Aa rfl (Aa (show PV.d (.v (.string _))=_ from ?_) Ag)),rfl⟩
    rw [hc,Rq hops,he,Gy]
    simp only [List.map_cons,List.map_nil]
    rw [hA,hB]
    rw [if_pos h4'];rfl
   ·rename_i g1 g2 g3 g4 g5
    simp at g1 g2 g3 g4 g5
    have h2:Dq x.op=2:=by simpa using h
    have hops:5<=x.op/\x.op<=18:=by omega
    obtain rfl:=h5 hops.1 hops.2
    obtain ⟨a,b,he⟩:=Aa4 (by rw [hf.1];omega:(x.args.length:Int)=2)
    have ha:=hsub a (by rw [he];simp)
    have hb:=hsub b (by rw [he];simp)
    have hwl:wtL x.args=wtX a+(wtX b+0):=by rw [he];rfl
    have w1:=C5 (A3 a,Bi a.op) (Bi x.op)
    have w2:=C5 (A3 b,Bi b.op) (Bi x.op+1)
    have dA:=ha.1 (Bi x.op) (by omega) (by omega)
    have dB:=hb.1 (Bi x.op+1) (by omega) (by omega)
    dsimp only at w1 w2
    generalize hA:Gf (A3 a,Bi a.op) (Bi x.op)=A at w1 dA
    generalize hB:Gf (A3 b,Bi b.op) (Bi x.op+1)=B at w2 dB
    have e1:(A++sSp).size=A.size+1:=by rw [ByteArray.size_append];rfl
    have e2:((A++sSp)++Ey x.op).size=A.size+1+(Ey x.op).size:=by rw [ByteArray.size_append,e1]
    have e3:(((A++sSp)++Ey x.op)++sSp).size=A.size+1+(Ey x.op).size+1:=by rw [ByteArray.size_append,e2];rfl
    refine Tj _ rfl rfl rfl rfl rfl (Ak (i:=0) (x:=a) (by rw [he];rfl)) (by omega) ?_
    repeat' (first|refine rl0 ?_|refine rs0 ?_ ?_<;>intro h|fail)
    refine wcn dA rfl rfl rfl rfl rfl (by repeat (first|exact Ae|refine Ab (Ac _) ?_)) ?_
    refine wan rfl rfl (by show A.size+1<=_;omega) ?_
    repeat' (first|refine rl0 ?_|refine rs0 ?_ ?_<;>intro h|fail)
    refine wan rfl rfl (by show (A++sSp).size+(Ey x.op).size<=_;omega) ?_
    refine wan rfl rfl (by show ((A++sSp)++Ey x.op).size+1<=_;omega) ?_
    repeat' (first|refine rl0 ?_|refine rs0 ?_ ?_<;>intro h|fail)
    refine Tj _ rfl rfl rfl rfl rfl (Ak (i:=1) (x:=b) (by rw [he];rfl)) (by omega) ?_
    repeat' (first|refine rl0 ?_|refine rs0 ?_ ?_<;>intro h|fail)
    refine wcn dB rfl rfl rfl rfl rfl (by repeat (first|exact Ae|refine Ab (Ac _) ?_)) ?_
    refine wan rfl rfl (by show (((A++sSp)++Ey x.op)++sSp).size+B.size<=_;omega) ?_
    repeat' (first|refine rl0 ?_|refine rs0 ?_ ?_<;>intro h|fail)
    refine ⟨(),trivial,Aa rfl (Aa rfl (Aa (show PV.d (.v (.string _))=_ from ?_) Ag)),rfl⟩
    rw [hc,Rq hops,he,Gy]
    simp only [List.map_cons,List.map_nil]
    rw [hA,hB]
    rw [if_neg g5];rfl
   ·rename_i g1 g2 g3 g4 g5
    simp at g1 g2 g3 g4 g5 h
    refine ⟨(),trivial,Aa rfl (Aa rfl (Aa (show PV.d (.v (.string _))=_ from ?_) Ag)),rfl⟩
    rw [hc];unfold Pp
    rcases hcs.2.2 with ⟨h1,_⟩|⟨h1,_⟩|⟨h1,h2,h3⟩
    ·rcases h1 with h1|h1|h1|h1
     ·omega
     ·omega
     ·rw [if_neg (by omega),if_neg (by omega),if_pos h1];exact congrArg _ (congrArg _ (congrArg _ (h3 h1)))
     ·rw [if_neg (by omega),if_neg (by omega),if_neg (by omega),if_pos h1];exact congrArg _ (congrArg _ (congrArg _ (h4 h1)))
    ·omega
    ·omega
  have e1:(sOpen++A3 x).size<=1000002:=by simp only [ByteArray.size_append];show 2+_<=_;omega
  repeat' (first|refine rl0 ?_|refine rs0 ?_ ?_<;>intro h|fail)
  ·refine wst rfl rfl (by show 2+(A3 x).size<=_;omega) ?_
   refine wst rfl rfl (by show (sOpen++A3 x).size+2<=_;omega) ?_
   repeat' (first|refine rl0 ?_|refine rs0 ?_ ?_<;>intro h|fail)
   rw [show Gf (A3 x,Bi x.op) k=(sOpen++A3 x)++sShut from if_pos (by simpa using h)];rfl
  ·rw [show Gf (A3 x,Bi x.op) k=A3 x from if_neg (by simpa using h)]
theorem name_12 {l:List UInt8} (h:Du 1 l 0=0):l.length<=12:=by
 unfold Du at h
 split at h
 ·omega
 ·rename_i hc
  simp only [not_or] at hc
  have h1:C3 1 l=true:=by simpa using hc.2.2
  have h2:Lz l=true:=h1
  rw [Aby] at h2
  simp only [Bool.and_eq_true,decide_eq_true_eq] at h2
  exact h2.1.2
theorem plain_wt {x:Ex} (h:Cc x=true):x.name.size<=12:=by
 simp only [Cc,Bool.and_eq_true] at h
 have h2:=h.2
 split at h2
 ·have:=name_12 (by simpa using h2);simpa using this
 ·have:x.name.size=0:=by simpa using h2
  omega
mutual
theorem vis_wt:∀ (x:Ex) (left d k:Nat),vis left d x=some k->x.fine=true/\wtX x+52*k<=52*left
 |.mk o n s l,left,d,k,h=>by
  rw [vis] at h
  split at h
  ·simp at h
  ·rename_i hc
   simp only [not_or] at hc
   have hp:Cc (.mk o n s l)=true:=by simpa using hc.2.2
   have hw:=plain_wt hp
   simp only [Cc,Bool.and_eq_true,decide_eq_true_eq] at hp
   obtain ⟨h1,h2⟩:=Ah4 l _ _ _ h
   simp only [Ex.fine,Bool.and_eq_true,decide_eq_true_eq]
   refine ⟨⟨⟨⟨hp.1.1.1.1,hp.1.1.1.2⟩,hp.1.1.2⟩,h1⟩,?_⟩
   rw [wtX]
   simp only [Ex.name] at hw
   omega
theorem Ah4:∀ (l:List Ex) (left d k:Nat),Mv left d l=some k->Rd l=true/\wtL l+52*k<=52*left
 |[],left,d,k,h=>by
  rw [Mv] at h;cases h
  exact ⟨rfl,by rw [wtL];omega⟩
 |x::r,left,d,k,h=>by
  rw [Mv] at h
  split at h
  ·cases h
  ·rename_i j e
   obtain ⟨h1,h2⟩:=vis_wt x _ _ _ e
   obtain ⟨h3,h4⟩:=Ah4 r _ _ _ h
   refine ⟨by simp only [Rd,h1,h3,Bool.and_self],?_⟩
   rw [wtL];omega
end
theorem Abm {x:Ex} (h:Bp x=0):x.fine=true/\wtX x<=1000000:=by
 have:=(E0 x).1 h
 unfold Mu at this
 obtain ⟨k,hk⟩:=Option.isSome_iff_exists.1 this
 obtain ⟨h1,h2⟩:=vis_wt x _ _ _ hk
 exact ⟨h1,by omega⟩
theorem fine_op {x:Ex} (h:x.fine=true):1<=x.op/\x.op<=19:=by
 have:=(N9 h).1
 unfold Dq at this
 repeat' split at this
 all_goals omega
theorem wrap0 {x:Ex} (h:x.fine=true):Gf (A3 x,Bi x.op) 0=A3 x:=if_neg (by have h1:=fine_op h;have:=ar_lv h1.1 h1.2;simp only;omega)
def Ac6 (x:Ex):ByteArray×Int:=if Bp x=0 then (A3 x,0) else (⟨#[]⟩,350)
theorem ptext_do (x:Ex) (hs:x.small):Aw 72 [exP x] ⟨[],[]⟩ (.ret (.tup [Fi (Ac6 x).1,An (Ac6 x).2])) ⟨[],[]⟩:=by
 refine Af Tryz.func72 rfl rfl (Nat.le_of_ble_eq_true rfl) rfl (Nat.le_refl _) ?_
 repeat' (first|refine rl0 ?_|refine rs0 ?_ ?_<;>intro h|fail)
 refine Gh (Ea x hs) rfl rfl rfl rfl rfl (by repeat (first|exact Ae|refine Ab (Ac _) ?_)) ?_
 repeat' (first|refine rl0 ?_|refine rs0 ?_ ?_<;>intro h|fail)
 ·rw [show Ac6 x=(⟨#[]⟩,Bp x) from by unfold Ac6 Bp at *;split<;>simp_all]
 have hc:Bp x=0:=by simpa using h
 have hf:=Abm hc
 have hd:=text_do x.hgt x (Nat.le_refl _) hf.1 hf.2 0 (by omega) (by omega)
 rw [wrap0 hf.1] at hd
 refine Gh hd rfl rfl rfl rfl rfl (by repeat (first|exact Ae|refine Ab (Ac _) ?_)) ?_
 repeat' (first|refine rl0 ?_|refine rs0 ?_ ?_<;>intro h|fail)
 rw [show Ac6 x=(A3 x,0) from if_pos hc]
inductive Good:Ex->Prop
 |num (n:Int):0<=n->n<=9999->Good (.mk 1 n ⟨#[]⟩ [])
 |name (s:ByteArray):Lz s.data.toList=true->Good (.mk 2 0 s [])
 |yes:Good (nd 3 [])
 |no:Good (nd 4 [])
 |neg (a:Ex):Good a->Good (nd 5 [a])
 |not (a:Ex):Good a->Good (nd 6 [a])
 |bin (op:Int) (a b:Ex):7<=op->op<=18->Good a->Good b->Good (nd op [a,b])
 |ite (a b c:Ex):Good a->Good b->Good c->Good (nd 19 [a,b,c])
theorem Fo {s:ByteArray} (h:s.size=0):s=⟨#[]⟩:=by
 apply ByteArray.ext;apply Array.eq_empty_of_size_eq_zero;exact h
theorem Rx {l:List UInt8} (h:Du 1 l 0=0):Lz l=true:=by
 unfold Du at h
 split at h
 ·omega
 ·rename_i hc
  simp only [not_or] at hc
  have h1:C3 1 l=true:=by simpa using hc.2.2
  exact h1
theorem W8 {op:Int} {n:Nat} (h:(n:Int)=F8 op):(op=1\/op=2\/op=3\/op=4)/\n=0\/(op=5\/op=6)/\n=1\/(7<=op/\op<=18)/\n=2\/op=19/\n=3:=by
 have h':(n:Int)=Dq op:=h
 unfold Dq at h'
 repeat' split at h'
 all_goals omega
mutual
theorem Aa8:∀ (x:Ex) (left d k:Nat),vis left d x=some k->Good x
 |.mk o n s l,left,d,k,h=>by
  rw [vis] at h
  split at h
  ·simp at h
  ·rename_i hc
   simp only [not_or] at hc
   have hp:Cc (.mk o n s l)=true:=by simpa using hc.2.2
   simp only [Cc,Bool.and_eq_true,Bool.or_eq_true,Ex.args,Ex.op,Ex.n,Ex.name] at hp
   obtain ⟨⟨⟨⟨h1,h2⟩,h3⟩,h4⟩,h5⟩:=hp
   have h1:=of_decide_eq_true h1
   have h2:=of_decide_eq_true h2
   have h3:=of_decide_eq_true h3
   have h4:n=0\/o=1:=h4.imp (fun h=>of_decide_eq_true h) (fun h=>of_decide_eq_true h)
   have hl:=Ws l _ _ _ h
   rcases W8 h1 with ⟨h6,h7⟩|⟨h6,h7⟩|⟨h6,h7⟩|⟨h6,h7⟩
   ·have e:l=[]:=List.eq_nil_of_length_eq_zero h7
    subst e
    rcases h6 with rfl|rfl|rfl|rfl
    ·have:=Fo (s:=s) (of_decide_eq_true (show decide (s.size=0)=true from h5))
     subst this
     exact .num n (of_decide_eq_true ‹decide (0<=n)=true›) (of_decide_eq_true ‹decide (n<=9999)=true›)
    ·have:n=0:=by rcases h4 with h4|h4<;>omega
     subst this
     exact .name s (Rx (of_decide_eq_true (show decide (Du 1 s.data.toList 0=0)=true from h5)))
    ·have:=Fo (s:=s) (of_decide_eq_true (show decide (s.size=0)=true from h5))
     subst this
     have:n=0:=by rcases h4 with h4|h4<;>omega
     subst this
     exact .yes
    ·have:=Fo (s:=s) (of_decide_eq_true (show decide (s.size=0)=true from h5))
     subst this
     have:n=0:=by rcases h4 with h4|h4<;>omega
     subst this
     exact .no
   all_goals
    have h5':s.size=0:=by
     have ho:o≠2:=by omega
     revert h5
     show (if o=2 then _ else decide (s.size=0))=true->_
     rw [if_neg ho];exact fun h=>of_decide_eq_true h
    have:=Fo h5'
    subst this
    have:n=0:=by rcases h4 with h4|h4<;>omega
    subst this
   ·obtain ⟨a,rfl⟩:∃ a,l=[a]:=by
     match l,h7 with
     |[a],_=>exact ⟨a,rfl⟩
    rcases h6 with rfl|rfl
    ·exact .neg a (hl a (by simp))
    ·exact .not a (hl a (by simp))
   ·obtain ⟨a,b,rfl⟩:∃ a b,l=[a,b]:=by
     match l,h7 with
     |[a,b],_=>exact ⟨a,b,rfl⟩
    exact .bin o a b h6.1 h6.2 (hl a (by simp)) (hl b (by simp))
   ·obtain ⟨a,b,c,rfl⟩:∃ a b c,l=[a,b,c]:=by
     match l,h7 with
     |[a,b,c],_=>exact ⟨a,b,c,rfl⟩
    subst h6
    exact .ite a b c (hl a (by simp)) (hl b (by simp)) (hl c (by simp))
theorem Ws:∀ (l:List Ex) (left d k:Nat),Mv left d l=some k->∀ x∈l,Good x
 |[],left,d,k,h=>by simp
 |x::r,left,d,k,h=>by
  rw [Mv] at h
  split at h
  ·cases h
  ·rename_i j e
   intro y hy
   rcases List.mem_cons.1 hy with hy|hy
   ·rw [hy];exact Aa8 x _ _ _ e
   ·exact Ws r _ _ _ h y hy
end
theorem Abo {x:Ex} (h:Bp x=0):Good x:=by
 have:=(E0 x).1 h
 unfold Mu at this
 obtain ⟨k,hk⟩:=Option.isSome_iff_exists.1 this
 exact Aa8 x _ _ _ hk
@[reducible] def Bg (x:Ex):Nat:=(Abh x).length
theorem A8 (o n:Int) (s:ByteArray) (l:List Ex):Bg (.mk o n s l)=1+(Ia l).length:=by unfold Bg;rw [Abh];simp;omega
theorem B2:(Ia []).length=0:=by rw [Ia];rfl
theorem Be (x:Ex) (r:List Ex):(Ia (x::r)).length=Bg x+(Ia r).length:=by rw [Ia];simp
theorem Xf {x:Ex} (h:Bp x=0):Bg x<=60:=by
 obtain ⟨k,hk⟩:=Option.isSome_iff_exists.1 ((E0 x).1 h)
 have:=(Yu x _ _ _ hk).1
 unfold Bg;omega
def Iv (vars:List ByteArray) (vals:List Int) (i:Nat):Bool := !Je (vars.take i) (vars.getD i ⟨#[]⟩)&&decide (-9999<=vals.getD i 0)&&decide (vals.getD i 0<=9999)
def E8 (vars:List ByteArray) (vals:List Int):Bool:=(List.range vars.length).all (Iv vars vals)
theorem Acf {p:Nat->Bool} {n:Nat} (h:(List.range n).all p=true) (hn:p n=true):(List.range (n+1)).all p=true:=by
 rw [List.range_succ,List.all_append,h];simp [hn]
theorem L4 {p:Nat->Bool} {n i:Nat} (hi:i<n) (h:p i=false):(List.range n).all p=false:=by
 rw [List.all_eq_false];exact ⟨i,List.mem_range.2 hi,by rw [h];simp⟩
theorem Amd {l:List ByteArray} {i:Nat} (h:i<l.length):(l.map Ajm)[((i:Nat):Int).toNat]? = some (Ajm (l.getD i ⟨#[]⟩)):=by
 rw [Int.toNat_natCast,List.getElem?_map,List.getD_eq_getElem?_getD,List.getElem?_eq_getElem h];rfl
theorem Rp {l:List Int} {i:Nat} (h:i<l.length):(l.map fun n=>[DV.v (.int .i64 n)])[((i:Nat):Int).toNat]? = some [DV.v (.int .i64 (l.getD i 0))]:=by
 rw [Int.toNat_natCast,List.getElem?_map,List.getD_eq_getElem?_getD,List.getElem?_eq_getElem h];rfl
theorem Am2 {S:PS} {p q:PV} (h:p=q):Coe S p q:=h▸Ac _
@[reducible] def Ada (vars:List ByteArray) (vals:List Int):PV := .agg [Db vars,Dv vals]
theorem I1 (vars:List ByteArray) (vals:List Int) (hl:vars.length=vals.length):Aw 26 [Ada vars vals] ⟨[],[]⟩ (.ret (At (E8 vars vals))) ⟨[],[]⟩:=by
 refine Es Tryz.func26 rfl rfl (Nat.le_of_ble_eq_true rfl) rfl (Nat.le_refl _) ?_
 intro hf
 have hlen:vars.length<=9223372036854775807:=by have:=hf.1.1;simpa [Al0] using this
 repeat' (first|refine rl0 ?_|refine rs0 ?_ ?_<;>intro h|fail)
 refine Ca (ι := Nat) (ok:=fun i=>i<=vars.length/\(List.range i).all (Iv vars vals)=true) (L:=fun i=>[(1,.ptr 0 0),(6,Db vars),(7,An (vars.map Ajm).length),(8,An i)]) (Sx:=fun _=>⟨[[Db vars,Dv vals]],[]⟩) (μ := fun i=>vars.length-i) 0 ⟨Nat.zero_le _,rfl⟩ (by repeat (first|exact Ag|refine Aa rfl ?_)) rfl ?_
 rintro i ⟨hi,hm⟩
 repeat' (first|refine rl0 ?_|refine rs0 ?_ ?_<;>intro h|fail)
 ·have hlt:i<vars.length:=by simpa using h
  refine wix _ rfl rfl rfl rfl rfl (Amd hlt) (by omega) ?_
  repeat' (first|refine rl0 ?_|refine rs0 ?_ ?_<;>intro h|fail)
  refine wst rfl rfl ⟨by omega,by omega,by simp;omega⟩ ?_
  repeat' (first|refine rl0 ?_|refine rs0 ?_ ?_<;>intro h|fail)
  have e:((vars.map Ajm).take ((i:Int)).toNat).drop (0:Int).toNat=(vars.take i).map Ajm:=by simp [List.map_take]
  refine Gh (J3 (vars.take i) (vars.getD i ⟨#[]⟩)) rfl rfl rfl rfl rfl (Ab (Am2 (congrArg (fun z=>PV.d (DV.sl 1 z)) e)) (by repeat (first|exact Ae|refine Ab (Ac _) ?_))) ?_
  repeat' (first|refine rl0 ?_|refine rs0 ?_ ?_<;>intro h|fail)
  ·rw [show E8 vars vals=false from L4 hlt (by unfold Iv;rw [h];rfl)]
  have hm2:=h
  refine wix _ rfl rfl rfl rfl rfl (Rp (l:=vals) (by omega)) (by omega) ?_
  repeat' (first|refine rl0 ?_|refine rs0 ?_ ?_<;>intro h|fail)
  ·rw [show E8 vars vals=false from L4 hlt (by unfold Iv;rw [show decide (-9999<=vals.getD i 0)=false by simp at h |-;omega];simp)]
  have hm3:=h
  refine wix _ rfl rfl rfl rfl rfl (Rp (l:=vals) (by omega)) (by omega) ?_
  repeat' (first|refine rl0 ?_|refine rs0 ?_ ?_<;>intro h|fail)
  ·rw [show E8 vars vals=false from L4 hlt (by unfold Iv;rw [show decide (vals.getD i 0<=9999)=false by simp at h |-;omega];simp)]
  ·refine ⟨i+1,⟨by omega,Acf hm ?_⟩,by omega,(by repeat (first|exact Ag|refine Aa rfl ?_)),rfl⟩
   unfold Iv
   rw [hm2]
   simp at hm3 h |-
   omega
 ·obtain rfl:i=vars.length:=by simp at h;omega
  rw [show E8 vars vals=true from hm]
def divV:Value := .iface 70 (.agg #[])
theorem Xa (w:World):(Instr.typeAssert .nilIface 20 70 true).run Tryz.prog w = .ok (.tuple #[.agg #[],.bool false]) w:=by kernel_rfl
theorem W9 (w:World):(Instr.typeAssert divV 20 70 true).run Tryz.prog w = .ok (.tuple #[.agg #[],.bool true]) w:=by kernel_rfl
@[reducible] def vlP (t:Int) (s:ByteArray) (y:Bool):PV := .agg [An t,Fi s,At y]
@[reducible] def resC (na:Bool) (n:List Int) (nb:Bool) (d:List Int) (y:Bool):List PV:=[At na,B3 n,At nb,B3 d,At y]
@[reducible] def evS (x:Ex) (vc:List PV) (er:PV) (vars:List ByteArray) (vals:List Int):PS:=⟨[(exP x).parts,vc,[er],[Db vars,Dv vals]],[]⟩
@[reducible] def evS1 (x:Ex) (vc:List PV) (er:PV) (vars:List ByteArray) (vals:List Int) (r:List PV):PS:=⟨[(exP x).parts,vc,[er],[Db vars,Dv vals],r],[]⟩
theorem Ue (x:Ex) (c0 c1 c2 er:DV) (vars:List ByteArray) (vals:List Int) (na nb y:Bool) (n d:List Int):EvD Tryz.prog 28 [.ptr 1 0,.ptr 2 0] (evS1 x [.d c0,.d c1,.d c2] (.d er) vars vals (resC na n nb d y)) none (evS1 x [.d c0,.d c1,.d c2] (.d er) vars vals (resC na n nb d y)):=by
 refine Nc Tryz.func28 rfl rfl (fun _ _=>rfl) rfl (Nat.le_of_ble_eq_true rfl) (by simp) rfl (Nat.le_refl _) ?_
 refine Eo rfl (Ky rfl rfl Xa (by kernel_rfl)) ?_
 repeat' (first|refine rl0 ?_|refine rs0 ?_ ?_<;>intro h|fail)
 rfl
theorem edef_div (x:Ex) (c0 c1 c2 er:DV) (vars:List ByteArray) (vals:List Int):EvD Tryz.prog 28 [.ptr 1 0,.ptr 2 0] (evS x [.d c0,.d c1,.d c2] (.d er) vars vals) (some divV) (evS x [An 0,Fi ⟨#[]⟩,At false] (An 2) vars vals):=by
 refine Nc Tryz.func28 rfl rfl (fun _ _=>rfl) rfl (Nat.le_of_ble_eq_true rfl) (fun c e=>by cases e;rfl) rfl (Nat.le_refl _) ?_
 refine Eo rfl (Ky rfl rfl W9 (by kernel_rfl)) ?_
 repeat' (first|refine rl0 ?_|refine rs0 ?_ ?_<;>intro h|fail)
 rfl
theorem eval_bad (x:Ex) (vars:List ByteArray) (vals:List Int) (hs:x.small) (hc:Bp x≠0):Aw 10 [exP x,Db vars,Dv vals] ⟨[],[]⟩ (.ret (.tup [vlP 0 ⟨#[]⟩ false,An (Bp x)])) ⟨[],[]⟩:=by
 have hchk:=Ea x hs
 refine ⟨enters_of Tryz.func10 rfl rfl,Ec Ju Tryz.func10 rfl (Nat.le_of_ble_eq_true rfl) rfl (Nat.le_refl _) ?_⟩
 refine Av (Bj ?_)
 repeat' (first|refine rl0 ?_|refine rs0 ?_ ?_<;>intro h|fail)
 refine Av (Bj ?_)
 repeat' (first|refine rl0 ?_|refine rs0 ?_ ?_<;>intro h|fail)
 refine Gh hchk rfl rfl rfl rfl rfl (by repeat (first|exact Ae|refine Ab (Ac _) ?_)) ?_
 repeat' (first|refine rl0 ?_|refine rs0 ?_ ?_<;>intro h|fail)
 ·exact ⟨none,.inl ⟨rfl,.inr rfl⟩,_,rfl,rfl,rfl,.inr rfl,_,B5 rfl,rfl,rfl⟩
 ·exfalso;simp at h;omega
theorem Uf (x:Ex) (vars:List ByteArray) (vals:List Int) (hs:x.small) (hc:Bp x=0) (h0:vars.length≠vals.length\/E8 vars vals=false):Aw 10 [exP x,Db vars,Dv vals] ⟨[],[]⟩ (.ret (.tup [vlP 0 ⟨#[]⟩ false,An 2])) ⟨[],[]⟩:=by
 have hchk:=Ea x hs
 rw [hc] at hchk
 refine ⟨enters_of Tryz.func10 rfl rfl,Ec Ju Tryz.func10 rfl (Nat.le_of_ble_eq_true rfl) rfl (Nat.le_refl _) ?_⟩
 refine Av (Bj ?_)
 repeat' (first|refine rl0 ?_|refine rs0 ?_ ?_<;>intro h|fail)
 refine Av (Bj ?_)
 repeat' (first|refine rl0 ?_|refine rs0 ?_ ?_<;>intro h|fail)
 refine Gh hchk rfl rfl rfl rfl rfl (by repeat (first|exact Ae|refine Ab (Ac _) ?_)) ?_
 repeat' (first|refine rl0 ?_|refine rs0 ?_ ?_<;>intro h|fail)
 refine Av (Bj ?_)
 repeat' (first|refine rl0 ?_|refine rs0 ?_ ?_<;>intro h|fail)
 refine Av (Bj ?_)
 repeat' (first|refine rl0 ?_|refine rs0 ?_ ?_<;>intro h|fail)
 ·exact ⟨none,.inl ⟨rfl,.inr rfl⟩,_,rfl,rfl,rfl,.inr rfl,_,B5 rfl,rfl,rfl⟩
 have hl:vars.length=vals.length:=by simp at h;omega
 rcases h0 with h0|h0
 ·exact absurd hl h0
 have hr:=I1 vars vals hl
 rw [h0] at hr
 refine Gh hr rfl rfl rfl rfl rfl (by repeat (first|exact Ae|refine Ab (Ac _) ?_)) ?_
 repeat' (first|refine rl0 ?_|refine rs0 ?_ ?_<;>intro h|fail)
 exact ⟨none,.inl ⟨rfl,.inr rfl⟩,_,rfl,rfl,rfl,.inr rfl,_,B5 rfl,rfl,rfl⟩
theorem Rg {x:Ex} (h:Bp x=0):x.fits=true:=Te x 60 1 ((E0 x).1 h)
theorem Aeu (x:Ex) (vars:List ByteArray) (vals:List Int) (hs:x.small) (hc:Bp x=0) (hl:vars.length=vals.length) (h0:E8 vars vals=true) (hk:A6 vars x=0):Aw 10 [exP x,Db vars,Dv vals] ⟨[],[]⟩ (.ret (.tup [vlP 0 ⟨#[]⟩ false,An 351])) ⟨[],[]⟩:=by
 have hchk:=Ea x hs
 have ht:=Ll vars _ x (Nat.le_refl _) (Rg hc)
 rw [hk] at ht
 rw [hc] at hchk
 refine ⟨enters_of Tryz.func10 rfl rfl,Ec Ju Tryz.func10 rfl (Nat.le_of_ble_eq_true rfl) rfl (Nat.le_refl _) ?_⟩
 refine Av (Bj ?_)
 repeat' (first|refine rl0 ?_|refine rs0 ?_ ?_<;>intro h|fail)
 refine Av (Bj ?_)
 repeat' (first|refine rl0 ?_|refine rs0 ?_ ?_<;>intro h|fail)
 refine Gh hchk rfl rfl rfl rfl rfl (by repeat (first|exact Ae|refine Ab (Ac _) ?_)) ?_
 repeat' (first|refine rl0 ?_|refine rs0 ?_ ?_<;>intro h|fail)
 refine Av (Bj ?_)
 repeat' (first|refine rl0 ?_|refine rs0 ?_ ?_<;>intro h|fail)
 refine Av (Bj ?_)
 repeat' (first|refine rl0 ?_|refine rs0 ?_ ?_<;>intro h|fail)
 ·exfalso;simp at h;omega
 have hr:=I1 vars vals hl
 rw [h0] at hr
 refine Gh hr rfl rfl rfl rfl rfl (by repeat (first|exact Ae|refine Ab (Ac _) ?_)) ?_
 repeat' (first|refine rl0 ?_|refine rs0 ?_ ?_<;>intro h|fail)
 refine Av (Bj ?_)
 repeat' (first|refine rl0 ?_|refine rs0 ?_ ?_<;>intro h|fail)
 refine Gh ht rfl rfl rfl rfl rfl (by repeat (first|exact Ae|refine Ab (Ac _) ?_)) ?_
 repeat' (first|refine rl0 ?_|refine rs0 ?_ ?_<;>intro h|fail)
 refine Av (Bj ?_)
 repeat' (first|refine rl0 ?_|refine rs0 ?_ ?_<;>intro h|fail)
 ·exact ⟨none,.inl ⟨rfl,.inr rfl⟩,_,rfl,rfl,rfl,.inr rfl,_,B5 rfl,rfl,rfl⟩
theorem P3 (x:Ex) (vars:List ByteArray) (vals:List Int) (hs:x.small) (hc:Bp x=0) (hl:vars.length=vals.length) (h0:E8 vars vals=true) (hk:A6 vars x=2) (na:Bool) (n:List Int) (nb:Bool) (d:List Int) (y:Bool)
  (he:Aw 29 [Ada vars vals,exP x] ⟨[],[]⟩ (.ret (.agg (resC na n nb d y))) ⟨[],[]⟩):Aw 10 [exP x,Db vars,Dv vals] ⟨[],[]⟩ (.ret (.tup [vlP 2 ⟨#[]⟩ y,An 0])) ⟨[],[]⟩:=by
 have hchk:=Ea x hs
 have ht:=Ll vars _ x (Nat.le_refl _) (Rg hc)
 rw [hk] at ht
 rw [hc] at hchk
 refine ⟨enters_of Tryz.func10 rfl rfl,Ec Ju Tryz.func10 rfl (Nat.le_of_ble_eq_true rfl) rfl (Nat.le_refl _) ?_⟩
 refine Av (Bj ?_)
 repeat' (first|refine rl0 ?_|refine rs0 ?_ ?_<;>intro h|fail)
 refine Av (Bj ?_)
 repeat' (first|refine rl0 ?_|refine rs0 ?_ ?_<;>intro h|fail)
 refine Gh hchk rfl rfl rfl rfl rfl (by repeat (first|exact Ae|refine Ab (Ac _) ?_)) ?_
 repeat' (first|refine rl0 ?_|refine rs0 ?_ ?_<;>intro h|fail)
 refine Av (Bj ?_)
 repeat' (first|refine rl0 ?_|refine rs0 ?_ ?_<;>intro h|fail)
 refine Av (Bj ?_)
 repeat' (first|refine rl0 ?_|refine rs0 ?_ ?_<;>intro h|fail)
 ·exfalso;simp at h;omega
 have hr:=I1 vars vals hl
 rw [h0] at hr
 refine Gh hr rfl rfl rfl rfl rfl (by repeat (first|exact Ae|refine Ab (Ac _) ?_)) ?_
 repeat' (first|refine rl0 ?_|refine rs0 ?_ ?_<;>intro h|fail)
 refine Av (Bj ?_)
 repeat' (first|refine rl0 ?_|refine rs0 ?_ ?_<;>intro h|fail)
 refine Gh ht rfl rfl rfl rfl rfl (by repeat (first|exact Ae|refine Ab (Ac _) ?_)) ?_
 repeat' (first|refine rl0 ?_|refine rs0 ?_ ?_<;>intro h|fail)
 refine Av (Bj ?_)
 repeat' (first|refine rl0 ?_|refine rs0 ?_ ?_<;>intro h|fail)
 refine Av (K3 rfl rfl rfl rfl rfl rfl (by decide) ?_)
 refine Av (Bj ?_)
 repeat' (first|refine rl0 ?_|refine rs0 ?_ ?_<;>intro h|fail)
 refine Gh he rfl rfl rfl rfl rfl (by repeat (first|exact Ae|refine Ab (Ac _) ?_)) ?_
 repeat' (first|refine rl0 ?_|refine rs0 ?_ ?_<;>intro h|fail)
 refine Av (Bj ?_)
 repeat' (first|refine rl0 ?_|refine rs0 ?_ ?_<;>intro h|fail)
 exact ⟨none,.inl ⟨rfl,.inr rfl⟩,⟨_,Tryz.func28,rfl,rfl⟩,_,Ue _ _ _ _ (.v (.int .i64 0)) _ _ _ _ _ _ _,_,rfl,rfl,rfl,.inr rfl,_,B5 rfl,rfl,rfl⟩
theorem Zi (x:Ex) (vars:List ByteArray) (vals:List Int) (hs:x.small) (hc:Bp x=0) (hl:vars.length=vals.length) (h0:E8 vars vals=true) (hk:A6 vars x=1) (na:Bool) (n:List Int) (nb:Bool) (d:List Int) (y:Bool) (s:ByteArray)
  (he:Aw 29 [Ada vars vals,exP x] ⟨[],[]⟩ (.ret (.agg (resC na n nb d y))) ⟨[],[]⟩) (htx:Aw 30 [.agg [At na,B3 n,At nb,B3 d]] ⟨[],[]⟩ (.ret (Fi s)) ⟨[],[]⟩):Aw 10 [exP x,Db vars,Dv vals] ⟨[],[]⟩ (.ret (.tup [vlP 1 s false,An 0])) ⟨[],[]⟩:=by
 have hchk:=Ea x hs
 have ht:=Ll vars _ x (Nat.le_refl _) (Rg hc)
 rw [hk] at ht
 rw [hc] at hchk
 refine ⟨enters_of Tryz.func10 rfl rfl,Ec Ju Tryz.func10 rfl (Nat.le_of_ble_eq_true rfl) rfl (Nat.le_refl _) ?_⟩
 refine Av (Bj ?_)
 repeat' (first|refine rl0 ?_|refine rs0 ?_ ?_<;>intro h|fail)
 refine Av (Bj ?_)
 repeat' (first|refine rl0 ?_|refine rs0 ?_ ?_<;>intro h|fail)
 refine Gh hchk rfl rfl rfl rfl rfl (by repeat (first|exact Ae|refine Ab (Ac _) ?_)) ?_
 repeat' (first|refine rl0 ?_|refine rs0 ?_ ?_<;>intro h|fail)
 refine Av (Bj ?_)
 repeat' (first|refine rl0 ?_|refine rs0 ?_ ?_<;>intro h|fail)
 refine Av (Bj ?_)
 repeat' (first|refine rl0 ?_|refine rs0 ?_ ?_<;>intro h|fail)
 ·exfalso;simp at h;omega
 have hr:=I1 vars vals hl
 rw [h0] at hr
 refine Gh hr rfl rfl rfl rfl rfl (by repeat (first|exact Ae|refine Ab (Ac _) ?_)) ?_
 repeat' (first|refine rl0 ?_|refine rs0 ?_ ?_<;>intro h|fail)
 refine Av (Bj ?_)
 repeat' (first|refine rl0 ?_|refine rs0 ?_ ?_<;>intro h|fail)
 refine Gh ht rfl rfl rfl rfl rfl (by repeat (first|exact Ae|refine Ab (Ac _) ?_)) ?_
 repeat' (first|refine rl0 ?_|refine rs0 ?_ ?_<;>intro h|fail)
 refine Av (Bj ?_)
 repeat' (first|refine rl0 ?_|refine rs0 ?_ ?_<;>intro h|fail)
 refine Av (K3 rfl rfl rfl rfl rfl rfl (by decide) ?_)
 refine Av (Bj ?_)
 repeat' (first|refine rl0 ?_|refine rs0 ?_ ?_<;>intro h|fail)
 refine Gh he rfl rfl rfl rfl rfl (by repeat (first|exact Ae|refine Ab (Ac _) ?_)) ?_
 repeat' (first|refine rl0 ?_|refine rs0 ?_ ?_<;>intro h|fail)
 refine Av (Bj ?_)
 repeat' (first|refine rl0 ?_|refine rs0 ?_ ?_<;>intro h|fail)
 refine Av (Bj ?_)
 repeat' (first|refine rl0 ?_|refine rs0 ?_ ?_<;>intro h|fail)
 refine Gh htx rfl rfl rfl rfl rfl (by repeat (first|exact Ae|refine Ab (Ac _) ?_)) ?_
 repeat' (first|refine rl0 ?_|refine rs0 ?_ ?_<;>intro h|fail)
 refine Bj ?_
 repeat' (first|refine rl0 ?_|refine rs0 ?_ ?_<;>intro h|fail)
 exact ⟨none,.inl ⟨rfl,.inr rfl⟩,⟨_,Tryz.func28,rfl,rfl⟩,_,Ue _ _ _ _ (.v (.int .i64 0)) _ _ _ _ _ _ _,_,rfl,rfl,rfl,.inr rfl,_,B5 rfl,rfl,rfl⟩
theorem Zh (x:Ex) (vars:List ByteArray) (vals:List Int) (hs:x.small) (hc:Bp x=0) (hl:vars.length=vals.length) (h0:E8 vars vals=true) (hk:A6 vars x≠0)
  (he:Aw 29 [Ada vars vals,exP x] ⟨[],[]⟩ (.panic divV) ⟨[],[]⟩):Aw 10 [exP x,Db vars,Dv vals] ⟨[],[]⟩ (.ret (.tup [vlP 0 ⟨#[]⟩ false,An 2])) ⟨[],[]⟩:=by
 have hchk:=Ea x hs
 have ht:=Ll vars _ x (Nat.le_refl _) (Rg hc)
 rw [hc] at hchk
 refine ⟨enters_of Tryz.func10 rfl rfl,Ec Ju Tryz.func10 rfl (Nat.le_of_ble_eq_true rfl) rfl (Nat.le_refl _) ?_⟩
 refine Av (Bj ?_)
 repeat' (first|refine rl0 ?_|refine rs0 ?_ ?_<;>intro h|fail)
 refine Av (Bj ?_)
 repeat' (first|refine rl0 ?_|refine rs0 ?_ ?_<;>intro h|fail)
 refine Gh hchk rfl rfl rfl rfl rfl (by repeat (first|exact Ae|refine Ab (Ac _) ?_)) ?_
 repeat' (first|refine rl0 ?_|refine rs0 ?_ ?_<;>intro h|fail)
 refine Av (Bj ?_)
 repeat' (first|refine rl0 ?_|refine rs0 ?_ ?_<;>intro h|fail)
 refine Av (Bj ?_)
 repeat' (first|refine rl0 ?_|refine rs0 ?_ ?_<;>intro h|fail)
 ·exfalso;simp at h;omega
 have hr:=I1 vars vals hl
 rw [h0] at hr
 refine Gh hr rfl rfl rfl rfl rfl (by repeat (first|exact Ae|refine Ab (Ac _) ?_)) ?_
 repeat' (first|refine rl0 ?_|refine rs0 ?_ ?_<;>intro h|fail)
 refine Av (Bj ?_)
 repeat' (first|refine rl0 ?_|refine rs0 ?_ ?_<;>intro h|fail)
 refine Gh ht rfl rfl rfl rfl rfl (by repeat (first|exact Ae|refine Ab (Ac _) ?_)) ?_
 repeat' (first|refine rl0 ?_|refine rs0 ?_ ?_<;>intro h|fail)
 refine Av (Bj ?_)
 repeat' (first|refine rl0 ?_|refine rs0 ?_ ?_<;>intro h|fail)
 ·exfalso;simp at h;omega
 refine Av (K3 rfl rfl rfl rfl rfl rfl (by decide) ?_)
 refine Av (Bj ?_)
 refine Qm ?_
 repeat' (first|refine rl0 ?_|refine rs0 ?_ ?_<;>intro h|fail)
 refine Tk rfl (B4 rfl he.1 rfl rfl (Bh _) he.2) ?_
 exact ⟨some divV,.inr ⟨_,rfl,rfl⟩,⟨_,Tryz.func28,rfl,rfl⟩,_,edef_div x (.v (.int .i64 0)) (.v (.string ⟨#[]⟩)) (.v (.bool false)) (.v (.int .i64 0)) _ _,_,rfl,rfl,rfl,.inr rfl,_,B5 rfl,rfl,rfl⟩
abbrev Res:=Fr×Bool
def zF:Fr:=(0,0)
def cmpZ (o c:Int):Bool:=if o=11 then decide (c=0) else if o=12 then !decide (c=0) else if o=13 then decide (c<0) else if o=14 then decide (c<=0) else if o=15 then decide (0<c) else decide (0<=c)
def ariF (o:Int) (p q:Fr):Fr:=if o=7 then addF p q else if o=8 then subF p q else if o=9 then Amp p q else divF p q
def varV (vars:List ByteArray) (vals:List Int) (s:ByteArray):Int:=vals.getD (Uu vars s).toNat 0
def Aoa (o:Int) (a b:Res):Option Res:=if 11<=o then some (zF,cmpZ o (cmpF a.1 b.1)) else if o=10/\b.1.1=0 then none else some (ariF o a.1 b.1,false)
def evO (o:Int) (l:List (Option Res)):Option Res :=
 match l with
 |some a::r=>if o=5 then some (Ans a.1,false) else if o=6 then some (zF,!a.2) else if o=19 then (if a.2=true then r.getD 0 none else r.getD 1 none)
  else if o=17\/o=18 then (if a.2=decide (o=18) then some a else r.getD 0 none)
  else match r with
   |some b::_=>Aoa o a b
   |_=>none
 |_=>none
mutual
def evX (vars:List ByteArray) (vals:List Int):Ex->Option Res
 |.mk o n s l=>if o=1 then some ((n,1),false) else if o=2 then some ((varV vars vals s,1),false) else if o=3\/o=4 then some (zF,decide (o=3)) else evO o (W4 vars vals l)
def W4 (vars:List ByteArray) (vals:List Int):List Ex->List (Option Res)
 |[]=>[]
 |x::l=>evX vars vals x::W4 vars vals l
end
section
variable (vars:List ByteArray) (vals:List Int)
theorem Zf (n:Int):evX vars vals (.mk 1 n ⟨#[]⟩ [])=some ((n,1),false):=rfl
theorem Aer (s:ByteArray):evX vars vals (.mk 2 0 s [])=some ((varV vars vals s,1),false):=rfl
theorem ev_yes:evX vars vals (nd 3 [])=some (zF,true):=rfl
theorem ev_no:evX vars vals (nd 4 [])=some (zF,false):=rfl
theorem Ana (a:Ex):evX vars vals (nd 5 [a])=(evX vars vals a).map fun r=>(Ans r.1,false):=by
 rw [nd,evX,W4,W4];cases evX vars vals a<;>rfl
theorem Aes (a:Ex):evX vars vals (nd 6 [a])=(evX vars vals a).map fun r=>(zF,!r.2):=by
 rw [nd,evX,W4,W4];cases evX vars vals a<;>rfl
theorem Aeq (a b c:Ex):evX vars vals (nd 19 [a,b,c])=(evX vars vals a).bind fun r=>if r.2=true then evX vars vals b else evX vars vals c:=by
 rw [nd,evX,W4,W4,W4,W4];cases evX vars vals a<;>rfl
theorem Ze (o:Int) (ho:o=17\/o=18) (a b:Ex):evX vars vals (nd o [a,b])=(evX vars vals a).bind fun r=>if r.2=decide (o=18) then some r else evX vars vals b:=by
 rw [nd,evX,W4,W4,W4,if_neg (by omega),if_neg (by omega),if_neg (by omega)]
 unfold evO
 cases evX vars vals a with
 |none=>rfl
 |some r=>dsimp only;rw [if_neg (by omega),if_neg (by omega),if_neg (by omega),if_pos ho];rfl
theorem Zg (o:Int) (h1:7<=o) (h2:o<=16) (a b:Ex):evX vars vals (nd o [a,b])=(evX vars vals a).bind fun r=>(evX vars vals b).bind fun t=>Aoa o r t:=by
 rw [nd,evX,W4,W4,W4,if_neg (by omega),if_neg (by omega),if_neg (by omega)]
 unfold evO
 cases evX vars vals a with
 |none=>rfl
 |some r =>
  dsimp only;rw [if_neg (by omega),if_neg (by omega),if_neg (by omega),if_neg (by omega)]
  cases evX vars vals b<;>rfl
end
theorem Gt (vars:List ByteArray) (o:Int) (l:List Ex):A6 vars (nd o l)=if o=2/\Je vars ⟨#[]⟩=false then 0 else if o=19 then (match Bm vars l with|[a,b,c]=>if a≠2\/b≠c then 0 else b|_=>0) else if (Bm vars l).all (· == H1 o) then isZ o else 0:=by rw [nd,A6];rfl
theorem Ng {vars:List ByteArray} {o:Int} {a:Ex} (h:A6 vars (nd o [a])≠0) (h2:o≠2) (h19:o≠19):A6 vars a=H1 o/\A6 vars (nd o [a])=isZ o:=by
 rw [Gt,if_neg (by omega),if_neg h19] at h |-
 rw [Bm,Bm] at h |-
 split at h
 ·rename_i hc
  rw [if_pos hc];exact ⟨by simpa using hc,rfl⟩
 ·exact absurd rfl h
theorem Zv {vars:List ByteArray} {o:Int} {a b:Ex} (h:A6 vars (nd o [a,b])≠0) (h2:o≠2) (h19:o≠19):A6 vars a=H1 o/\A6 vars b=H1 o/\A6 vars (nd o [a,b])=isZ o:=by
 rw [Gt,if_neg (by omega),if_neg h19] at h |-
 rw [Bm,Bm,Bm] at h |-
 split at h
 ·rename_i hc
  rw [if_pos hc];exact ⟨by simp at hc;exact hc.1,by simp at hc;exact hc.2,rfl⟩
 ·exact absurd rfl h
theorem Zu {vars:List ByteArray} {a b c:Ex} (h:A6 vars (nd 19 [a,b,c])≠0):A6 vars a=2/\A6 vars b=A6 vars c/\A6 vars (nd 19 [a,b,c])=A6 vars b:=by
 rw [Gt,if_neg (by omega),if_pos rfl] at h |-
 rw [Bm,Bm,Bm,Bm] at h |-
 dsimp only at h |-
 split at h
 ·exact absurd rfl h
 ·rename_i hc
  rw [if_neg hc]
  simp only [not_or,Decidable.not_not] at hc
  exact ⟨hc.1,hc.2,rfl⟩
theorem Uz {vars:List ByteArray} {s:ByteArray} (h:A6 vars (.mk 2 0 s [])≠0):Je vars s=true:=by
 rw [A6] at h
 cases hm:Je vars s with
 |true=>rfl
 |false=>rw [if_pos ⟨rfl,hm⟩] at h;exact absurd rfl h
def Yz (vals:List Int):Prop:=∀ v∈vals,v.natAbs<1000000000
theorem Age {vals:List Int} (h:Yz vals) (i:Nat):(vals.getD i 0).natAbs<1000000000:=by
 rw [List.getD_eq_getElem?_getD]
 cases e:vals[i]? with
 |none=>simp
 |some v=>exact h v (List.mem_of_getElem? e)
def Vk (t:Int) (k:Nat) (r:Res):Prop:=(t=1->Fit k r.1/\r.2=false)/\(t=2->r.1=zF)
theorem Rb {vars:List ByteArray} {vals:List Int} (hv:Yz vals):∀ {x:Ex},Good x->A6 vars x≠0->∀ r,evX vars vals x=some r->Vk (A6 vars x) (Bg x) r:=by
 intro x hx
 induction hx with
 |num n h1 h2 =>
  intro _ r hr
  rw [Zf] at hr;cases hr
  refine ⟨fun _=>⟨(Rf n (by omega)).mono (by rw [A8];omega),rfl⟩,fun h=>?_⟩
  rw [show A6 vars (.mk 1 n ⟨#[]⟩ [])=1 from rfl] at h;omega
 |name s hs =>
  intro hk r hr
  rw [Aer] at hr;cases hr
  refine ⟨fun _=>⟨(Rf _ (Age hv _)).mono (by rw [A8];omega),rfl⟩,fun h=>?_⟩
  have hm:=Uz hk
  rw [show A6 vars (.mk 2 0 s [])=if (2:Int)=2/\Je vars s=false then 0 else 1 from rfl,if_neg (by simp [hm])] at h
  omega
 |yes =>
  intro _ r hr
  rw [ev_yes] at hr;cases hr
  exact ⟨fun h=>by rw [show A6 vars (nd 3 [])=2 from rfl] at h;omega,fun _=>rfl⟩
 |no =>
  intro _ r hr
  rw [ev_no] at hr;cases hr
  exact ⟨fun h=>by rw [show A6 vars (nd 4 [])=2 from rfl] at h;omega,fun _=>rfl⟩
 |neg a _ ih =>
  intro hk r hr
  obtain ⟨h1,h2⟩:=Ng hk (by omega) (by omega)
  rw [Ana,Option.map_eq_some_iff] at hr
  obtain ⟨q,hq,rfl⟩:=hr
  rw [show H1 5=1 from rfl] at h1
  rw [show isZ 5=1 from rfl] at h2
  have hf:=((ih (by omega) q hq).1 h1).1
  refine ⟨fun _=>⟨(Xr hf).mono ?_,rfl⟩,fun h=>by omega⟩
  rw [nd,A8,Be,B2];omega
 |not a _ ih =>
  intro hk r hr
  obtain ⟨h1,h2⟩:=Ng hk (by omega) (by omega)
  rw [Aes,Option.map_eq_some_iff] at hr
  obtain ⟨q,hq,rfl⟩:=hr
  rw [show isZ 6=2 from rfl] at h2
  exact ⟨fun h=>by omega,fun _=>rfl⟩
 |bin o a b h7 h18 _ _ iha ihb =>
  intro hk r hr
  obtain ⟨h1,h2,h3⟩:=Zv hk (by omega) (by omega)
  by_cases hlog:o=17\/o=18
  ·rw [Ze _ _ o hlog,Option.bind_eq_some_iff] at hr
   obtain ⟨q,hq,hr⟩:=hr
   have hw:H1 o=2:=by unfold H1;rw [if_pos (by omega)]
   have hi:isZ o=2:=by unfold isZ;rw [if_pos (by omega)]
   rw [hw] at h1 h2
   refine ⟨fun h=>by omega,fun _=>?_⟩
   split at hr
   ·cases hr;exact (iha (by omega) _ hq).2 h1
   ·exact (ihb (by omega) _ hr).2 h2
  ·rw [Zg _ _ o h7 (by omega),Option.bind_eq_some_iff] at hr
   obtain ⟨q,hq,hr⟩:=hr
   rw [Option.bind_eq_some_iff] at hr
   obtain ⟨t,ht,hr⟩:=hr
   have hw:H1 o=1:=by unfold H1;rw [if_neg (by omega)]
   rw [hw] at h1 h2
   have fq:=((iha (by omega) _ hq).1 h1).1
   have ft:=((ihb (by omega) _ ht).1 h2).1
   have hn:Bg (nd o [a,b])=Bg a+Bg b+1:=by rw [nd,A8,Be,Be,B2];omega
   unfold Aoa at hr
   split at hr
   ·cases hr
    have hi:isZ o=2:=by unfold isZ;rw [if_pos (by omega)]
    exact ⟨fun h=>by omega,fun _=>rfl⟩
   ·split at hr
    ·cases hr
    ·rename_i hd
     cases hr
     have hi:isZ o=1:=by unfold isZ;rw [if_neg (by omega)]
     refine ⟨fun _=>⟨?_,rfl⟩,fun h=>by omega⟩
     rw [hn]
     show Fit _ (ariF o q.1 t.1)
     unfold ariF
     split
     ·exact Aez fq ft
     split
     ·exact fit_sub fq ft
     split
     ·exact (fit_mul fq ft).mono (by omega)
     ·exact (fit_div fq ft (fun e=>hd ⟨by omega,e⟩)).mono (by omega)
 |ite a b c _ _ _ iha ihb ihc =>
  intro hk r hr
  obtain ⟨h1,h2,h3⟩:=Zu hk
  rw [Aeq,Option.bind_eq_some_iff] at hr
  obtain ⟨q,hq,hr⟩:=hr
  rw [h3] at hk |-
  have hn:Bg (nd 19 [a,b,c])=Bg a+Bg b+Bg c+1:=by rw [nd,A8,Be,Be,Be,B2];omega
  split at hr
  ·have:=ihb (by omega) r hr
   exact ⟨fun h=>⟨((this.1 h).1).mono (by omega),(this.1 h).2⟩,this.2⟩
  ·have:=ihc (by omega) r hr
   rw [<- h2] at this
   exact ⟨fun h=>⟨((this.1 h).1).mono (by omega),(this.1 h).2⟩,this.2⟩
set_option maxRecDepth 4000 in
set_option maxHeartbeats 4000000 in
theorem cmpZ_do (o c:Int) (h1:11<=o) (h2:o<=16):Aw 61 [An o,An c] ⟨[],[]⟩ (.ret (At (cmpZ o c))) ⟨[],[]⟩:=by
 have:o=11\/o=12\/o=13\/o=14\/o=15\/o=16:=by omega
 rcases this with rfl|rfl|rfl|rfl|rfl|rfl
 all_goals
  refine Af Tryz.func61 rfl rfl (Nat.le_of_ble_eq_true rfl) rfl (Nat.le_refl _) ?_
  refine Co ?_
  refine Bf ?_
  refine wst rfl rfl trivial ?_
  refine Cq ?_
  refine Co ?_
  refine Bf ?_
  iterate 12 refine wst rfl rfl trivial ?_
  refine Aod rfl rfl rfl rfl trivial ?_
  refine wst rfl rfl trivial ?_
  refine wivc rfl rfl rfl rfl rfl (by omega) (by show _<(17:Int);omega) rfl ?_
  repeat' (first|refine rl0 ?_|refine rs0 ?_ ?_<;>intro h|fail)
  rfl
@[reducible] def rsP (r:Res):PV := .agg (resC (decide (r.1.1<0)) (limN r.1.1.natAbs) (decide (r.1.2<0)) (limN r.1.2.natAbs) r.2)
def evOut:Option Res->POut
 |none => .panic divV
 |some r => .ret (rsP r)
theorem rsP_z (b:Bool):rsP (zF,b) = .agg (resC false [] false [] b):=by
 unfold rsP zF;simp [limN_zero]
theorem Y8 {f:Nat} {args:List PV} {S S':PS} {b:Bool} (h:Aw f args S (.ret (.agg [At false,.d (.v (.slice none 0 0)),At false,.d (.v (.slice none 0 0)),At b])) S'):Aw f args S (.ret (rsP (zF,b))) S':=by
 rw [rsP_z]
 exact Dy h (by repeat' (first|exact Ae|refine Ab ?_ ?_|exact Er|exact Ac _|refine Eb ?_|refine Hl ?_))
theorem Afa:∀ (l:List ByteArray) (s:ByteArray),Uu l s<l.length
 |[],_=>by simp [Uu]
 |x::r,s=>by
  have:=Afa r s
  rw [Uu]
  simp only [List.length_cons]
  split
  ·omega
  ·split<;>omega
section
variable {N:Nat} {ops:Array Oper} {rest:List Oper} {o:Oper} {F:Nat->PV} {S:PS} {q:WRes->Prop} {ch:Nat->Bool} {us:List (Nat×List Nat)} {k:Nat} {bm:Bool} {D:List Nat}
theorem biv {t:TypeId} {x y:Operand} {l:List PV} {kd:IntKind} {j:Int} {p:PV} (h0:0<=j) (kk:Bw.WB Tryz.prog N ops ch (Ck us) (fun _=>[]) (k+1) rest (Cd N o.dst p F) S bm D q) (hg:Al ops F o=some true:=by exact rfl) (hc:ch k=false:=by first|exact rfl|kernel_rfl) (ho:o.op = .index t x y:=by exact rfl)
  (hk:(Ba t&&Nat.beq (tyi t).kind 3&&Ba (tyi t).elem && !(tyi (tyi t).elem).isRow)=true:=by exact rfl) (hx:evP F x = .agg l:=by exact rfl) (hy:evP F y = .d (.v (.int kd j)):=by exact rfl) (hp:l[j.toNat*(tyi (tyi t).elem).size]? = some p:=by exact rfl) (h1:decide (j<((tyi t).len:Int))=true:=by kernel_rfl):Bw.WB Tryz.prog N ops ch (Ck us) (fun _=>[]) k (o::rest) F S bm D q:=by
 simp only [Bool.and_eq_true,Bool.not_eq_true'] at hk
 exact Xb (fun S' _=>G9 ho (Fj t hk.1.1.1) (Nat.eq_of_beq_eq_true hk.1.1.2) (Fj _ hk.1.2) hx hy h0 (of_decide_eq_true h1) (.inr ⟨hk.2,hp⟩)) kk hg hc
end
@[reducible] def nfP:PV := .d (.v .nilFunc)
theorem arith_do:Aw 62 [] ⟨[],[]⟩ (.ret (.agg [nfP,nfP,nfP,nfP,nfP,nfP,nfP,.fn 44 [],.fn 43 [],.fn 45 [],.fn 50 []])) ⟨[],[]⟩:=by
 refine Af Tryz.func62 rfl rfl (Nat.le_of_ble_eq_true rfl) rfl (Nat.le_refl _) ?_
 repeat' (first|refine rl0 ?_|refine rs0 ?_ ?_<;>intro h|fail)
 rfl
set_option maxHeartbeats 4000000 in
theorem eval_do (vars:List ByteArray) (vals:List Int) (hl:vars.length=vals.length) (hv:Yz vals):∀ (n:Nat) (x:Ex),x.hgt<=n->Good x->A6 vars x≠0->Bg x<=60->Aw 29 [Ada vars vals,exP x] ⟨[],[]⟩ (evOut (evX vars vals x)) ⟨[],[]⟩:=by
 intro n
 induction n with
 |zero=>intro a h;cases a;simp [Ex.hgt] at h
 |succ n ih =>
  intro x hn hx hk hs
  cases hx with
  |num m h1 h2 =>
   rw [Zf]
   have ho:=fof_do m (by omega)
   show Aw _ _ _ (.ret (rsP ((m,1),false))) _
   refine Af Tryz.func29 rfl rfl (Nat.le_of_ble_eq_true rfl) rfl (Nat.le_refl _) ?_
   repeat' (first|refine rl0 ?_|refine rs0 ?_ ?_<;>intro h|fail)
   refine wp1 ho ?_
   repeat' (first|refine rl0 ?_|refine rs0 ?_ ?_<;>intro h|fail)
   rfl
  |name s h1 =>
   rw [Aer]
   have hm:=Uz hk
   rw [Zs] at hm
   have hi:=of_decide_eq_true hm
   have hlt:=Afa vars s
   obtain ⟨i,hii⟩:∃ i:Nat,Uu vars s=i:=⟨(Uu vars s).toNat,by omega⟩
   have hx:=Zt vars s
   rw [hii] at hx
   have ho:=fof_do (vals.getD i 0) (Age hv i)
   show Aw _ _ _ (.ret (rsP ((varV vars vals s,1),false))) _
   unfold varV
   rw [hii,Int.toNat_natCast]
   refine Af Tryz.func29 rfl rfl (Nat.le_of_ble_eq_true rfl) rfl (Nat.le_refl _) ?_
   repeat' (first|refine rl2 ?_|refine rs2 ?_ ?_<;>intro h|fail)
   refine b0 (fun k=>Nat.beq k 11) [(1,[0]),(3,[0]),(5,[1])] ?_
   repeat' (first|refine rl7 ?_|refine rs7 ?_ ?_<;>intro h|fail)
   refine Ah hx ?_
   repeat' (first|refine rl7 ?_|refine rs7 ?_ ?_<;>intro h|fail)
   refine Fk _ (Rp (l:=vals) (i:=i) (by omega)) (by omega) ?_
   repeat' (first|refine rl7 ?_|refine rs7 ?_ ?_<;>intro h|fail)
   refine Dj ho ?_
   repeat' (first|refine rl7 ?_|refine rs7 ?_ ?_<;>intro h|fail)
   repeat' (first|refine rl0 ?_|refine rs0 ?_ ?_<;>intro h|fail)
   rfl
  |yes =>
   rw [ev_yes]
   refine Y8 ?_
   refine Af Tryz.func29 rfl rfl (Nat.le_of_ble_eq_true rfl) rfl (Nat.le_refl _) ?_
   repeat' (first|refine rl0 ?_|refine rs0 ?_ ?_<;>intro h|fail)
   rfl
  |no =>
   rw [ev_no]
   refine Y8 ?_
   refine Af Tryz.func29 rfl rfl (Nat.le_of_ble_eq_true rfl) rfl (Nat.le_refl _) ?_
   repeat' (first|refine rl0 ?_|refine rs0 ?_ ?_<;>intro h|fail)
   rfl
  |neg a ha =>
   have hka:=(Ng hk (by omega) (by omega)).1
   rw [show H1 5=1 from rfl] at hka
   have hna:Bg a+1=Bg (nd 5 [a]):=by rw [nd,A8,Be,B2];omega
   have hc:=ih a (by have:=Ga (x:=nd 5 [a]) (y:=a) (by simp [nd,Ex.args]);omega) ha (by omega) (by omega)
   have hkk:=Rb (vars:=vars) hv ha (by omega)
   rw [Ana]
   cases e:evX vars vals a with
   |none =>
    rw [e] at hc
    refine Fh Tryz.func29 rfl rfl (Nat.le_of_ble_eq_true rfl) ?_
    repeat' (first|refine rl2 ?_|refine rs2 ?_ ?_<;>intro h|fail)
    refine b0w 5 (fun k=>Nat.beq k 5||Nat.beq k 6||Nat.beq k 7) (fun k=>Nat.beq k 5||Nat.beq k 6||Nat.beq k 7) [(0,[0]),(2,[1])] [(0,[0]),(2,[1])] (by dsimp only [mkE]) (by dsimp only [mkE,Fb,List.map]) ?_ ?_
    ·repeat' (first|refine rl7 ?_|refine rs7 ?_ ?_<;>intro h|fail)
     refine Fk _ (Ak (i:=0) rfl) (by omega) ?_
     repeat' (first|refine rl7 ?_|refine rs7 ?_ ?_<;>intro h|fail)
     exact Ib (B4 rfl (hc).1 rfl rfl (Bh _) (hc).2) ⟨rfl,rfl,rfl⟩
    ·repeat' (first|refine rl7 ?_|refine rs7 ?_ ?_<;>intro h|fail)
     refine Fk _ (Ak (i:=0) rfl) (by omega) ?_
     repeat' (first|refine rl7 ?_|refine rs7 ?_ ?_<;>intro h|fail)
     exact Ib (B4 rfl (hc).1 rfl rfl (Bh _) (hc).2) ⟨rfl,rfl,rfl⟩
   |some r =>
    rw [e] at hc
    obtain ⟨hf,hb⟩:=(hkk r e).1 hka
    have hg:=fneg_do r.1
    show Aw _ _ _ (.ret (rsP (Ans r.1,false))) _
    refine Af Tryz.func29 rfl rfl (Nat.le_of_ble_eq_true rfl) rfl (Nat.le_refl _) ?_
    repeat' (first|refine rl2 ?_|refine rs2 ?_ ?_<;>intro h|fail)
    refine b0 (fun k=>Nat.beq k 6||Nat.beq k 7) [(0,[0]),(2,[1])] ?_
    repeat' (first|refine rl7 ?_|refine rs7 ?_ ?_<;>intro h|fail)
    refine Fk _ (Ak (i:=0) rfl) (by omega) ?_
    repeat' (first|refine rl7 ?_|refine rs7 ?_ ?_<;>intro h|fail)
    refine Ah hc ?_
    repeat' (first|refine rl7 ?_|refine rs7 ?_ ?_<;>intro h|fail)
    repeat' (first|refine rl0 ?_|refine rs0 ?_ ?_<;>intro h|fail)
    refine wp1 hg ?_
    repeat' (first|refine rl0 ?_|refine rs0 ?_ ?_<;>intro h|fail)
    rfl
  |not a ha =>
   have hka:=(Ng hk (by omega) (by omega)).1
   rw [show H1 6=2 from rfl] at hka
   have hna:Bg a+1=Bg (nd 6 [a]):=by rw [nd,A8,Be,B2];omega
   have hc:=ih a (by have:=Ga (x:=nd 6 [a]) (y:=a) (by simp [nd,Ex.args]);omega) ha (by omega) (by omega)
   rw [Aes]
   cases e:evX vars vals a with
   |none =>
    rw [e] at hc
    refine Fh Tryz.func29 rfl rfl (Nat.le_of_ble_eq_true rfl) ?_
    repeat' (first|refine rl2 ?_|refine rs2 ?_ ?_<;>intro h|fail)
    refine b0w 5 (fun k=>Nat.beq k 5||Nat.beq k 6||Nat.beq k 7) (fun k=>Nat.beq k 5||Nat.beq k 6||Nat.beq k 7) [(0,[0]),(2,[1])] [(0,[0]),(2,[1])] (by dsimp only [mkE]) (by dsimp only [mkE,Fb,List.map]) ?_ ?_
    ·repeat' (first|refine rl7 ?_|refine rs7 ?_ ?_<;>intro h|fail)
     refine Fk _ (Ak (i:=0) rfl) (by omega) ?_
     repeat' (first|refine rl7 ?_|refine rs7 ?_ ?_<;>intro h|fail)
     exact Ib (B4 rfl (hc).1 rfl rfl (Bh _) (hc).2) ⟨rfl,rfl,rfl⟩
    ·repeat' (first|refine rl7 ?_|refine rs7 ?_ ?_<;>intro h|fail)
     refine Fk _ (Ak (i:=0) rfl) (by omega) ?_
     repeat' (first|refine rl7 ?_|refine rs7 ?_ ?_<;>intro h|fail)
     exact Ib (B4 rfl (hc).1 rfl rfl (Bh _) (hc).2) ⟨rfl,rfl,rfl⟩
   |some r =>
    rw [e] at hc
    show Aw _ _ _ (.ret (rsP (zF,!r.2))) _
    refine Y8 ?_
    refine Af Tryz.func29 rfl rfl (Nat.le_of_ble_eq_true rfl) rfl (Nat.le_refl _) ?_
    repeat' (first|refine rl2 ?_|refine rs2 ?_ ?_<;>intro h|fail)
    refine b0 (fun k=>Nat.beq k 6||Nat.beq k 7) [(0,[0]),(2,[1])] ?_
    repeat' (first|refine rl7 ?_|refine rs7 ?_ ?_<;>intro h|fail)
    refine Fk _ (Ak (i:=0) rfl) (by omega) ?_
    repeat' (first|refine rl7 ?_|refine rs7 ?_ ?_<;>intro h|fail)
    refine Ah hc ?_
    repeat' (first|refine rl7 ?_|refine rs7 ?_ ?_<;>intro h|fail)
    repeat' (first|refine rl0 ?_|refine rs0 ?_ ?_<;>intro h|fail)
    rfl
  |bin o a b h1 h2 ha hb =>
   obtain ⟨hka,hkb,hko⟩:=Zv hk (by omega) (by omega)
   have hw:H1 o≠0:=by unfold H1;split<;>omega
   have hna:Bg a+Bg b+1=Bg (nd o [a,b]):=by rw [nd,A8,Be,Be,B2];omega
   have hca:=ih a (by have:=Ga (x:=nd o [a,b]) (y:=a) (by simp [nd,Ex.args]);omega) ha (by omega) (by omega)
   have hcb:=ih b (by have:=Ga (x:=nd o [a,b]) (y:=b) (by simp [nd,Ex.args]);omega) hb (by omega) (by omega)
   have hva:=Rb (vars:=vars) hv ha (by omega)
   have hvb:=Rb (vars:=vars) hv hb (by omega)
   by_cases hlog:o=17\/o=18
   ·rw [Ze _ _ o hlog]
    cases e:evX vars vals a with
    |none =>
     rw [e] at hca
     rcases hlog with rfl|rfl
     ·refine Fh Tryz.func29 rfl rfl (Nat.le_of_ble_eq_true rfl) ?_
      repeat' (first|refine rl2 ?_|refine rs2 ?_ ?_<;>intro h|fail)
      refine b0w 5 (fun k=>Nat.beq k 5||Nat.beq k 6||Nat.beq k 7) (fun k=>Nat.beq k 5||Nat.beq k 6||Nat.beq k 7) [(0,[0]),(2,[1])] [(0,[0]),(2,[1])] (by dsimp only [mkE]) (by dsimp only [mkE,Fb,List.map]) ?_ ?_
      ·repeat' (first|refine rl7 ?_|refine rs7 ?_ ?_<;>intro h|fail)
       refine Fk _ (Ak (i:=0) rfl) (by omega) ?_
       repeat' (first|refine rl7 ?_|refine rs7 ?_ ?_<;>intro h|fail)
       exact Ib (B4 rfl (hca).1 rfl rfl (Bh _) (hca).2) ⟨rfl,rfl,rfl⟩
      ·repeat' (first|refine rl7 ?_|refine rs7 ?_ ?_<;>intro h|fail)
       refine Fk _ (Ak (i:=0) rfl) (by omega) ?_
       repeat' (first|refine rl7 ?_|refine rs7 ?_ ?_<;>intro h|fail)
       exact Ib (B4 rfl (hca).1 rfl rfl (Bh _) (hca).2) ⟨rfl,rfl,rfl⟩
     ·refine Fh Tryz.func29 rfl rfl (Nat.le_of_ble_eq_true rfl) ?_
      repeat' (first|refine rl2 ?_|refine rs2 ?_ ?_<;>intro h|fail)
      refine b0w 5 (fun k=>Nat.beq k 5||Nat.beq k 6||Nat.beq k 7) (fun k=>Nat.beq k 5||Nat.beq k 6||Nat.beq k 7) [(0,[0]),(2,[1])] [(0,[0]),(2,[1])] (by dsimp only [mkE]) (by dsimp only [mkE,Fb,List.map]) ?_ ?_
      ·repeat' (first|refine rl7 ?_|refine rs7 ?_ ?_<;>intro h|fail)
       refine Fk _ (Ak (i:=0) rfl) (by omega) ?_
       repeat' (first|refine rl7 ?_|refine rs7 ?_ ?_<;>intro h|fail)
       exact Ib (B4 rfl (hca).1 rfl rfl (Bh _) (hca).2) ⟨rfl,rfl,rfl⟩
      ·repeat' (first|refine rl7 ?_|refine rs7 ?_ ?_<;>intro h|fail)
       refine Fk _ (Ak (i:=0) rfl) (by omega) ?_
       repeat' (first|refine rl7 ?_|refine rs7 ?_ ?_<;>intro h|fail)
       exact Ib (B4 rfl (hca).1 rfl rfl (Bh _) (hca).2) ⟨rfl,rfl,rfl⟩
    |some r =>
     rw [e] at hca
     obtain ⟨f,y⟩:=r
     rw [Option.bind_some]
     (try dsimp only)
     cases e2:evX vars vals b with
     |none =>
      rw [e2] at hcb
      rcases hlog with rfl|rfl<;>cases y
      ·show Aw _ _ _ (.ret (rsP (f,false))) _
       refine Af Tryz.func29 rfl rfl (Nat.le_of_ble_eq_true rfl) rfl (Nat.le_refl _) ?_
       repeat' (first|refine rl2 ?_|refine rs2 ?_ ?_<;>intro h|fail)
       refine b0 (fun k=>Nat.beq k 6||Nat.beq k 7) [(0,[0]),(2,[1])] ?_
       repeat' (first|refine rl7 ?_|refine rs7 ?_ ?_<;>intro h|fail)
       refine Fk _ (Ak (i:=0) rfl) (by omega) ?_
       repeat' (first|refine rl7 ?_|refine rs7 ?_ ?_<;>intro h|fail)
       refine Ah hca ?_
       repeat' (first|refine rl7 ?_|refine rs7 ?_ ?_<;>intro h|fail)
       repeat' (first|refine rl0 ?_|refine rs0 ?_ ?_<;>intro h|fail)
       rfl
      ·refine Fh Tryz.func29 rfl rfl (Nat.le_of_ble_eq_true rfl) ?_
       repeat' (first|refine rl2 ?_|refine rs2 ?_ ?_<;>intro h|fail)
       refine b0 (fun k=>Nat.beq k 6||Nat.beq k 7) [(0,[0]),(2,[1])] ?_
       repeat' (first|refine rl7 ?_|refine rs7 ?_ ?_<;>intro h|fail)
       refine Fk _ (Ak (i:=0) rfl) (by omega) ?_
       repeat' (first|refine rl7 ?_|refine rs7 ?_ ?_<;>intro h|fail)
       refine Ah hca ?_
       repeat' (first|refine rl7 ?_|refine rs7 ?_ ?_<;>intro h|fail)
       repeat' (first|refine rl2 ?_|refine rs2 ?_ ?_<;>intro h|fail)
       refine b0 (fun k=>Nat.beq k 5||Nat.beq k 6) [(0,[0]),(2,[1])] ?_
       repeat' (first|refine rl7 ?_|refine rs7 ?_ ?_<;>intro h|fail)
       refine Fk _ (Ak (i:=1) rfl) (by omega) ?_
       repeat' (first|refine rl7 ?_|refine rs7 ?_ ?_<;>intro h|fail)
       exact Ib (B4 rfl (hcb).1 rfl rfl (Bh _) (hcb).2) ⟨rfl,rfl,rfl⟩
      ·refine Fh Tryz.func29 rfl rfl (Nat.le_of_ble_eq_true rfl) ?_
       repeat' (first|refine rl2 ?_|refine rs2 ?_ ?_<;>intro h|fail)
       refine b0 (fun k=>Nat.beq k 6||Nat.beq k 7) [(0,[0]),(2,[1])] ?_
       repeat' (first|refine rl7 ?_|refine rs7 ?_ ?_<;>intro h|fail)
       refine Fk _ (Ak (i:=0) rfl) (by omega) ?_
       repeat' (first|refine rl7 ?_|refine rs7 ?_ ?_<;>intro h|fail)
       refine Ah hca ?_
       repeat' (first|refine rl7 ?_|refine rs7 ?_ ?_<;>intro h|fail)
       repeat' (first|refine rl2 ?_|refine rs2 ?_ ?_<;>intro h|fail)
       refine b0 (fun k=>Nat.beq k 5||Nat.beq k 6) [(0,[0]),(2,[1])] ?_
       repeat' (first|refine rl7 ?_|refine rs7 ?_ ?_<;>intro h|fail)
       refine Fk _ (Ak (i:=1) rfl) (by omega) ?_
       repeat' (first|refine rl7 ?_|refine rs7 ?_ ?_<;>intro h|fail)
       exact Ib (B4 rfl (hcb).1 rfl rfl (Bh _) (hcb).2) ⟨rfl,rfl,rfl⟩
      ·show Aw _ _ _ (.ret (rsP (f,true))) _
       refine Af Tryz.func29 rfl rfl (Nat.le_of_ble_eq_true rfl) rfl (Nat.le_refl _) ?_
       repeat' (first|refine rl2 ?_|refine rs2 ?_ ?_<;>intro h|fail)
       refine b0 (fun k=>Nat.beq k 6||Nat.beq k 7) [(0,[0]),(2,[1])] ?_
       repeat' (first|refine rl7 ?_|refine rs7 ?_ ?_<;>intro h|fail)
       refine Fk _ (Ak (i:=0) rfl) (by omega) ?_
       repeat' (first|refine rl7 ?_|refine rs7 ?_ ?_<;>intro h|fail)
       refine Ah hca ?_
       repeat' (first|refine rl7 ?_|refine rs7 ?_ ?_<;>intro h|fail)
       repeat' (first|refine rl0 ?_|refine rs0 ?_ ?_<;>intro h|fail)
       rfl
     |some t =>
      rw [e2] at hcb
      rcases hlog with rfl|rfl<;>cases y
      ·show Aw _ _ _ (.ret (rsP (f,false))) _
       refine Af Tryz.func29 rfl rfl (Nat.le_of_ble_eq_true rfl) rfl (Nat.le_refl _) ?_
       repeat' (first|refine rl2 ?_|refine rs2 ?_ ?_<;>intro h|fail)
       refine b0 (fun k=>Nat.beq k 6||Nat.beq k 7) [(0,[0]),(2,[1])] ?_
       repeat' (first|refine rl7 ?_|refine rs7 ?_ ?_<;>intro h|fail)
       refine Fk _ (Ak (i:=0) rfl) (by omega) ?_
       repeat' (first|refine rl7 ?_|refine rs7 ?_ ?_<;>intro h|fail)
       refine Ah hca ?_
       repeat' (first|refine rl7 ?_|refine rs7 ?_ ?_<;>intro h|fail)
       repeat' (first|refine rl0 ?_|refine rs0 ?_ ?_<;>intro h|fail)
       rfl
      ·show Aw _ _ _ (.ret (rsP t)) _
       refine Af Tryz.func29 rfl rfl (Nat.le_of_ble_eq_true rfl) rfl (Nat.le_refl _) ?_
       repeat' (first|refine rl2 ?_|refine rs2 ?_ ?_<;>intro h|fail)
       refine b0 (fun k=>Nat.beq k 6||Nat.beq k 7) [(0,[0]),(2,[1])] ?_
       repeat' (first|refine rl7 ?_|refine rs7 ?_ ?_<;>intro h|fail)
       refine Fk _ (Ak (i:=0) rfl) (by omega) ?_
       repeat' (first|refine rl7 ?_|refine rs7 ?_ ?_<;>intro h|fail)
       refine Ah hca ?_
       repeat' (first|refine rl7 ?_|refine rs7 ?_ ?_<;>intro h|fail)
       repeat' (first|refine rl2 ?_|refine rs2 ?_ ?_<;>intro h|fail)
       refine b0 (fun k=>Nat.beq k 6) [(0,[0]),(2,[1])] ?_
       repeat' (first|refine rl7 ?_|refine rs7 ?_ ?_<;>intro h|fail)
       refine Fk _ (Ak (i:=1) rfl) (by omega) ?_
       repeat' (first|refine rl7 ?_|refine rs7 ?_ ?_<;>intro h|fail)
       refine Dj hcb ?_
       repeat' (first|refine rl7 ?_|refine rs7 ?_ ?_<;>intro h|fail)
       repeat' (first|refine rl0 ?_|refine rs0 ?_ ?_<;>intro h|fail)
       rfl
      ·show Aw _ _ _ (.ret (rsP t)) _
       refine Af Tryz.func29 rfl rfl (Nat.le_of_ble_eq_true rfl) rfl (Nat.le_refl _) ?_
       repeat' (first|refine rl2 ?_|refine rs2 ?_ ?_<;>intro h|fail)
       refine b0 (fun k=>Nat.beq k 6||Nat.beq k 7) [(0,[0]),(2,[1])] ?_
       repeat' (first|refine rl7 ?_|refine rs7 ?_ ?_<;>intro h|fail)
       refine Fk _ (Ak (i:=0) rfl) (by omega) ?_
       repeat' (first|refine rl7 ?_|refine rs7 ?_ ?_<;>intro h|fail)
       refine Ah hca ?_
       repeat' (first|refine rl7 ?_|refine rs7 ?_ ?_<;>intro h|fail)
       repeat' (first|refine rl2 ?_|refine rs2 ?_ ?_<;>intro h|fail)
       refine b0 (fun k=>Nat.beq k 6) [(0,[0]),(2,[1])] ?_
       repeat' (first|refine rl7 ?_|refine rs7 ?_ ?_<;>intro h|fail)
       refine Fk _ (Ak (i:=1) rfl) (by omega) ?_
       repeat' (first|refine rl7 ?_|refine rs7 ?_ ?_<;>intro h|fail)
       refine Dj hcb ?_
       repeat' (first|refine rl7 ?_|refine rs7 ?_ ?_<;>intro h|fail)
       repeat' (first|refine rl0 ?_|refine rs0 ?_ ?_<;>intro h|fail)
       rfl
      ·show Aw _ _ _ (.ret (rsP (f,true))) _
       refine Af Tryz.func29 rfl rfl (Nat.le_of_ble_eq_true rfl) rfl (Nat.le_refl _) ?_
       repeat' (first|refine rl2 ?_|refine rs2 ?_ ?_<;>intro h|fail)
       refine b0 (fun k=>Nat.beq k 6||Nat.beq k 7) [(0,[0]),(2,[1])] ?_
       repeat' (first|refine rl7 ?_|refine rs7 ?_ ?_<;>intro h|fail)
       refine Fk _ (Ak (i:=0) rfl) (by omega) ?_
       repeat' (first|refine rl7 ?_|refine rs7 ?_ ?_<;>intro h|fail)
       refine Ah hca ?_
       repeat' (first|refine rl7 ?_|refine rs7 ?_ ?_<;>intro h|fail)
       repeat' (first|refine rl0 ?_|refine rs0 ?_ ?_<;>intro h|fail)
       rfl
   ·rw [Zg _ _ o h1 (by omega)]
    cases e:evX vars vals a with
    |none =>
     rw [e] at hca
     show Aw _ _ _ (.panic divV) _
     have ho:o=7\/o=8\/o=9\/o=10\/o=11\/o=12\/o=13\/o=14\/o=15\/o=16:=by omega
     rcases ho with rfl|rfl|rfl|rfl|rfl|rfl|rfl|rfl|rfl|rfl
     all_goals
      refine Fh Tryz.func29 rfl rfl (Nat.le_of_ble_eq_true rfl) ?_
      repeat' (first|refine rl2 ?_|refine rs2 ?_ ?_<;>intro h|fail)
      refine b0w 5 (fun k=>Nat.beq k 5||Nat.beq k 6||Nat.beq k 7) (fun k=>Nat.beq k 5||Nat.beq k 6||Nat.beq k 7) [(0,[0]),(2,[1])] [(0,[0]),(2,[1])] (by dsimp only [mkE]) (by dsimp only [mkE,Fb,List.map]) ?_ ?_
      ·repeat' (first|refine rl7 ?_|refine rs7 ?_ ?_<;>intro h|fail)
       refine Fk _ (Ak (i:=0) rfl) (by omega) ?_
       repeat' (first|refine rl7 ?_|refine rs7 ?_ ?_<;>intro h|fail)
       exact Ib (B4 rfl (hca).1 rfl rfl (Bh _) (hca).2) ⟨rfl,rfl,rfl⟩
      ·repeat' (first|refine rl7 ?_|refine rs7 ?_ ?_<;>intro h|fail)
       refine Fk _ (Ak (i:=0) rfl) (by omega) ?_
       repeat' (first|refine rl7 ?_|refine rs7 ?_ ?_<;>intro h|fail)
       exact Ib (B4 rfl (hca).1 rfl rfl (Bh _) (hca).2) ⟨rfl,rfl,rfl⟩
    |some r =>
     rw [e] at hca
     rw [Option.bind_some]
     (try dsimp only)
     cases e2:evX vars vals b with
     |none =>
      rw [e2] at hcb
      show Aw _ _ _ (.panic divV) _
      have ho:o=7\/o=8\/o=9\/o=10\/o=11\/o=12\/o=13\/o=14\/o=15\/o=16:=by omega
      rcases ho with rfl|rfl|rfl|rfl|rfl|rfl|rfl|rfl|rfl|rfl
      all_goals
       refine Fh Tryz.func29 rfl rfl (Nat.le_of_ble_eq_true rfl) ?_
       repeat' (first|refine rl2 ?_|refine rs2 ?_ ?_<;>intro h|fail)
       refine b0 (fun k=>Nat.beq k 6||Nat.beq k 7) [(0,[0]),(2,[1])] ?_
       repeat' (first|refine rl7 ?_|refine rs7 ?_ ?_<;>intro h|fail)
       refine Fk _ (Ak (i:=0) rfl) (by omega) ?_
       repeat' (first|refine rl7 ?_|refine rs7 ?_ ?_<;>intro h|fail)
       refine Ah hca ?_
       repeat' (first|refine rl7 ?_|refine rs7 ?_ ?_<;>intro h|fail)
       repeat' (first|refine rl2 ?_|refine rs2 ?_ ?_<;>intro h|fail)
       refine b0w 5 (fun k=>Nat.beq k 5||Nat.beq k 6||Nat.beq k 7) (fun k=>Nat.beq k 5||Nat.beq k 6||Nat.beq k 7) [(0,[0]),(2,[1])] [(0,[0]),(2,[1])] (by dsimp only [mkE]) (by dsimp only [mkE,Fb,List.map]) ?_ ?_
       ·repeat' (first|refine rl7 ?_|refine rs7 ?_ ?_<;>intro h|fail)
        refine Fk _ (Ak (i:=1) rfl) (by omega) ?_
        repeat' (first|refine rl7 ?_|refine rs7 ?_ ?_<;>intro h|fail)
        exact Ib (B4 rfl (hcb).1 rfl rfl (Bh _) (hcb).2) ⟨rfl,rfl,rfl⟩
       ·repeat' (first|refine rl7 ?_|refine rs7 ?_ ?_<;>intro h|fail)
        refine Fk _ (Ak (i:=1) rfl) (by omega) ?_
        repeat' (first|refine rl7 ?_|refine rs7 ?_ ?_<;>intro h|fail)
        exact Ib (B4 rfl (hcb).1 rfl rfl (Bh _) (hcb).2) ⟨rfl,rfl,rfl⟩
     |some t =>
      rw [e2] at hcb
      rw [Option.bind_some]
      have hw1:H1 o=1:=by unfold H1;rw [if_neg (by omega)]
      obtain ⟨ra,ya⟩:=r
      obtain ⟨rb,yb⟩:=t
      have fa:=((hva _ e).1 (by omega)).1
      have fb:=((hvb _ e2).1 (by omega)).1
      have hcm:=fcmp_do fa fb (by omega) (by omega)
      have hsg:=nsign_do rb.1 rb.2
      by_cases hrel:11<=o
      ·have hcp:=cmpZ_do o (cmpF ra rb) hrel (by omega)
       unfold Aoa
       rw [if_pos hrel]
       show Aw _ _ _ (.ret (rsP (zF,cmpZ o (cmpF ra rb)))) _
       refine Y8 ?_
       generalize cmpF ra rb=cv at *
       have ho:o=11\/o=12\/o=13\/o=14\/o=15\/o=16:=by omega
       rcases ho with rfl|rfl|rfl|rfl|rfl|rfl
       all_goals
        refine Af Tryz.func29 rfl rfl (Nat.le_of_ble_eq_true rfl) rfl (Nat.le_refl _) ?_
        repeat' (first|refine rl2 ?_|refine rs2 ?_ ?_<;>intro h|fail)
        refine b0 (fun k=>Nat.beq k 6||Nat.beq k 7) [(0,[0]),(2,[1])] ?_
        repeat' (first|refine rl7 ?_|refine rs7 ?_ ?_<;>intro h|fail)
        refine Fk _ (Ak (i:=0) rfl) (by omega) ?_
        repeat' (first|refine rl7 ?_|refine rs7 ?_ ?_<;>intro h|fail)
        refine Ah hca ?_
        repeat' (first|refine rl7 ?_|refine rs7 ?_ ?_<;>intro h|fail)
        repeat' (first|refine rl2 ?_|refine rs2 ?_ ?_<;>intro h|fail)
        refine b0 (fun k=>Nat.beq k 6||Nat.beq k 7) [(0,[0]),(2,[1])] ?_
        repeat' (first|refine rl7 ?_|refine rs7 ?_ ?_<;>intro h|fail)
        refine Fk _ (Ak (i:=1) rfl) (by omega) ?_
        repeat' (first|refine rl7 ?_|refine rs7 ?_ ?_<;>intro h|fail)
        refine Ah hcb ?_
        repeat' (first|refine rl7 ?_|refine rs7 ?_ ?_<;>intro h|fail)
        repeat' (first|refine rl2 ?_|refine rs2 ?_ ?_<;>intro h|fail)
        refine b0 (fun k=>Nat.beq k 9) [(1,[1]),(3,[3]),(5,[4])] ?_
        repeat' (first|refine rl7 ?_|refine rs7 ?_ ?_<;>intro h|fail)
        refine Ah hcm ?_
        repeat' (first|refine rl7 ?_|refine rs7 ?_ ?_<;>intro h|fail)
        refine Ah hcp ?_
        repeat' (first|refine rl7 ?_|refine rs7 ?_ ?_<;>intro h|fail)
        repeat' (first|refine rl0 ?_|refine rs0 ?_ ?_<;>intro h|fail)
        rfl
      ·have har:=arith_do
       unfold Aoa
       rw [if_neg hrel]
       have ho:o=7\/o=8\/o=9\/o=10:=by omega
       by_cases hz:o=10/\rb.1=0
       ·obtain ⟨rfl,hz⟩:=hz
        rw [if_pos ⟨rfl,hz⟩]
        show Aw _ _ _ (.panic divV) _
        rw [N2.2 hz] at hsg
        refine Fh Tryz.func29 rfl rfl (Nat.le_of_ble_eq_true rfl) ?_
        repeat' (first|refine rl2 ?_|refine rs2 ?_ ?_<;>intro h|fail)
        refine b0 (fun k=>Nat.beq k 6||Nat.beq k 7) [(0,[0]),(2,[1])] ?_
        repeat' (first|refine rl7 ?_|refine rs7 ?_ ?_<;>intro h|fail)
        refine Fk _ (Ak (i:=0) rfl) (by omega) ?_
        repeat' (first|refine rl7 ?_|refine rs7 ?_ ?_<;>intro h|fail)
        refine Ah hca ?_
        repeat' (first|refine rl7 ?_|refine rs7 ?_ ?_<;>intro h|fail)
        repeat' (first|refine rl2 ?_|refine rs2 ?_ ?_<;>intro h|fail)
        refine b0 (fun k=>Nat.beq k 6||Nat.beq k 7) [(0,[0]),(2,[1])] ?_
        repeat' (first|refine rl7 ?_|refine rs7 ?_ ?_<;>intro h|fail)
        refine Fk _ (Ak (i:=1) rfl) (by omega) ?_
        repeat' (first|refine rl7 ?_|refine rs7 ?_ ?_<;>intro h|fail)
        refine Ah hcb ?_
        repeat' (first|refine rl7 ?_|refine rs7 ?_ ?_<;>intro h|fail)
        repeat' (first|refine rl2 ?_|refine rs2 ?_ ?_<;>intro h|fail)
        refine wp1 hsg ?_
        repeat' (first|refine rl2 ?_|refine rs2 ?_ ?_<;>intro h|fail)
        refine Tk rfl (Aac rfl rfl) ?_
        exact ⟨rfl,rfl,rfl⟩
       ·rw [if_neg hz]
        show Aw _ _ _ (.ret (rsP (ariF o ra rb,false))) _
        rcases ho with rfl|rfl|rfl|rfl
        ·have hfn:=fadd_do fa fb (by omega) (by omega)
         show Aw _ _ _ (.ret (rsP (addF ra rb,false))) _
         refine Af Tryz.func29 rfl rfl (Nat.le_of_ble_eq_true rfl) rfl (Nat.le_refl _) ?_
         repeat' (first|refine rl2 ?_|refine rs2 ?_ ?_<;>intro h|fail)
         refine b0 (fun k=>Nat.beq k 6||Nat.beq k 7) [(0,[0]),(2,[1])] ?_
         repeat' (first|refine rl7 ?_|refine rs7 ?_ ?_<;>intro h|fail)
         refine Fk _ (Ak (i:=0) rfl) (by omega) ?_
         repeat' (first|refine rl7 ?_|refine rs7 ?_ ?_<;>intro h|fail)
         refine Ah hca ?_
         repeat' (first|refine rl7 ?_|refine rs7 ?_ ?_<;>intro h|fail)
         repeat' (first|refine rl2 ?_|refine rs2 ?_ ?_<;>intro h|fail)
         refine b0 (fun k=>Nat.beq k 6||Nat.beq k 7) [(0,[0]),(2,[1])] ?_
         repeat' (first|refine rl7 ?_|refine rs7 ?_ ?_<;>intro h|fail)
         refine Fk _ (Ak (i:=1) rfl) (by omega) ?_
         repeat' (first|refine rl7 ?_|refine rs7 ?_ ?_<;>intro h|fail)
         refine Ah hcb ?_
         repeat' (first|refine rl7 ?_|refine rs7 ?_ ?_<;>intro h|fail)
         repeat' (first|refine rl2 ?_|refine rs2 ?_ ?_<;>intro h|fail)
         refine b0 (fun k=>Nat.beq k 10) [(2,[1]),(5,[3]),(7,[4])] ?_
         repeat' (first|refine rl7 ?_|refine rs7 ?_ ?_<;>intro h|fail)
         refine Ah har ?_
         repeat' (first|refine rl7 ?_|refine rs7 ?_ ?_<;>intro h|fail)
         refine biv (j:=7) (by decide) ?_
         repeat' (first|refine rl7 ?_|refine rs7 ?_ ?_<;>intro h|fail)
         refine Ah hfn ?_
         repeat' (first|refine rl7 ?_|refine rs7 ?_ ?_<;>intro h|fail)
         repeat' (first|refine rl0 ?_|refine rs0 ?_ ?_<;>intro h|fail)
         rfl
        ·have hfn:=fsub_do fa fb (by omega) (by omega)
         show Aw _ _ _ (.ret (rsP (subF ra rb,false))) _
         refine Af Tryz.func29 rfl rfl (Nat.le_of_ble_eq_true rfl) rfl (Nat.le_refl _) ?_
         repeat' (first|refine rl2 ?_|refine rs2 ?_ ?_<;>intro h|fail)
         refine b0 (fun k=>Nat.beq k 6||Nat.beq k 7) [(0,[0]),(2,[1])] ?_
         repeat' (first|refine rl7 ?_|refine rs7 ?_ ?_<;>intro h|fail)
         refine Fk _ (Ak (i:=0) rfl) (by omega) ?_
         repeat' (first|refine rl7 ?_|refine rs7 ?_ ?_<;>intro h|fail)
         refine Ah hca ?_
         repeat' (first|refine rl7 ?_|refine rs7 ?_ ?_<;>intro h|fail)
         repeat' (first|refine rl2 ?_|refine rs2 ?_ ?_<;>intro h|fail)
         refine b0 (fun k=>Nat.beq k 6||Nat.beq k 7) [(0,[0]),(2,[1])] ?_
         repeat' (first|refine rl7 ?_|refine rs7 ?_ ?_<;>intro h|fail)
         refine Fk _ (Ak (i:=1) rfl) (by omega) ?_
         repeat' (first|refine rl7 ?_|refine rs7 ?_ ?_<;>intro h|fail)
         refine Ah hcb ?_
         repeat' (first|refine rl7 ?_|refine rs7 ?_ ?_<;>intro h|fail)
         repeat' (first|refine rl2 ?_|refine rs2 ?_ ?_<;>intro h|fail)
         refine b0 (fun k=>Nat.beq k 10) [(2,[1]),(5,[3]),(7,[4])] ?_
         repeat' (first|refine rl7 ?_|refine rs7 ?_ ?_<;>intro h|fail)
         refine Ah har ?_
         repeat' (first|refine rl7 ?_|refine rs7 ?_ ?_<;>intro h|fail)
         refine biv (j:=8) (by decide) ?_
         repeat' (first|refine rl7 ?_|refine rs7 ?_ ?_<;>intro h|fail)
         refine Ah hfn ?_
         repeat' (first|refine rl7 ?_|refine rs7 ?_ ?_<;>intro h|fail)
         repeat' (first|refine rl0 ?_|refine rs0 ?_ ?_<;>intro h|fail)
         rfl
        ·have hfn:=fmul_do fa fb (by omega) (by omega)
         show Aw _ _ _ (.ret (rsP (Amp ra rb,false))) _
         refine Af Tryz.func29 rfl rfl (Nat.le_of_ble_eq_true rfl) rfl (Nat.le_refl _) ?_
         repeat' (first|refine rl2 ?_|refine rs2 ?_ ?_<;>intro h|fail)
         refine b0 (fun k=>Nat.beq k 6||Nat.beq k 7) [(0,[0]),(2,[1])] ?_
         repeat' (first|refine rl7 ?_|refine rs7 ?_ ?_<;>intro h|fail)
         refine Fk _ (Ak (i:=0) rfl) (by omega) ?_
         repeat' (first|refine rl7 ?_|refine rs7 ?_ ?_<;>intro h|fail)
         refine Ah hca ?_
         repeat' (first|refine rl7 ?_|refine rs7 ?_ ?_<;>intro h|fail)
         repeat' (first|refine rl2 ?_|refine rs2 ?_ ?_<;>intro h|fail)
         refine b0 (fun k=>Nat.beq k 6||Nat.beq k 7) [(0,[0]),(2,[1])] ?_
         repeat' (first|refine rl7 ?_|refine rs7 ?_ ?_<;>intro h|fail)
         refine Fk _ (Ak (i:=1) rfl) (by omega) ?_
         repeat' (first|refine rl7 ?_|refine rs7 ?_ ?_<;>intro h|fail)
         refine Ah hcb ?_
         repeat' (first|refine rl7 ?_|refine rs7 ?_ ?_<;>intro h|fail)
         repeat' (first|refine rl2 ?_|refine rs2 ?_ ?_<;>intro h|fail)
         refine b0 (fun k=>Nat.beq k 10) [(2,[1]),(5,[3]),(7,[4])] ?_
         repeat' (first|refine rl7 ?_|refine rs7 ?_ ?_<;>intro h|fail)
         refine Ah har ?_
         repeat' (first|refine rl7 ?_|refine rs7 ?_ ?_<;>intro h|fail)
         refine biv (j:=9) (by decide) ?_
         repeat' (first|refine rl7 ?_|refine rs7 ?_ ?_<;>intro h|fail)
         refine Ah hfn ?_
         repeat' (first|refine rl7 ?_|refine rs7 ?_ ?_<;>intro h|fail)
         repeat' (first|refine rl0 ?_|refine rs0 ?_ ?_<;>intro h|fail)
         rfl
        ·have hb0:rb.1≠0:=fun e=>hz ⟨rfl,e⟩
         have hfn:=fdiv_do fa fb hb0 (by omega) (by omega)
         show Aw _ _ _ (.ret (rsP (divF ra rb,false))) _
         refine Af Tryz.func29 rfl rfl (Nat.le_of_ble_eq_true rfl) rfl (Nat.le_refl _) ?_
         repeat' (first|refine rl2 ?_|refine rs2 ?_ ?_<;>intro h|fail)
         refine b0 (fun k=>Nat.beq k 6||Nat.beq k 7) [(0,[0]),(2,[1])] ?_
         repeat' (first|refine rl7 ?_|refine rs7 ?_ ?_<;>intro h|fail)
         refine Fk _ (Ak (i:=0) rfl) (by omega) ?_
         repeat' (first|refine rl7 ?_|refine rs7 ?_ ?_<;>intro h|fail)
         refine Ah hca ?_
         repeat' (first|refine rl7 ?_|refine rs7 ?_ ?_<;>intro h|fail)
         repeat' (first|refine rl2 ?_|refine rs2 ?_ ?_<;>intro h|fail)
         refine b0 (fun k=>Nat.beq k 6||Nat.beq k 7) [(0,[0]),(2,[1])] ?_
         repeat' (first|refine rl7 ?_|refine rs7 ?_ ?_<;>intro h|fail)
         refine Fk _ (Ak (i:=1) rfl) (by omega) ?_
         repeat' (first|refine rl7 ?_|refine rs7 ?_ ?_<;>intro h|fail)
         refine Ah hcb ?_
         repeat' (first|refine rl7 ?_|refine rs7 ?_ ?_<;>intro h|fail)
         repeat' (first|refine rl2 ?_|refine rs2 ?_ ?_<;>intro h|fail)
         refine wp1 hsg ?_
         repeat' (first|refine rl2 ?_|refine rs2 ?_ ?_<;>intro h|fail)
         ·exfalso;have:=N2 (x:=rb.1);simp at *;omega
         refine b0 (fun k=>Nat.beq k 10) [(2,[1]),(5,[3]),(7,[4])] ?_
         repeat' (first|refine rl7 ?_|refine rs7 ?_ ?_<;>intro h|fail)
         refine Ah har ?_
         repeat' (first|refine rl7 ?_|refine rs7 ?_ ?_<;>intro h|fail)
         refine biv (j:=10) (by decide) ?_
         repeat' (first|refine rl7 ?_|refine rs7 ?_ ?_<;>intro h|fail)
         refine Ah hfn ?_
         repeat' (first|refine rl7 ?_|refine rs7 ?_ ?_<;>intro h|fail)
         repeat' (first|refine rl0 ?_|refine rs0 ?_ ?_<;>intro h|fail)
         rfl
  |ite a b c ha hb hc =>
   obtain ⟨hka,hkb,hkc⟩:=Zu hk
   have hna:Bg a+Bg b+Bg c+1=Bg (nd 19 [a,b,c]):=by rw [nd,A8,Be,Be,Be,B2];omega
   have hca:=ih a (by have:=Ga (x:=nd 19 [a,b,c]) (y:=a) (by simp [nd,Ex.args]);omega) ha (by omega) (by omega)
   have hcb:=ih b (by have:=Ga (x:=nd 19 [a,b,c]) (y:=b) (by simp [nd,Ex.args]);omega) hb (by omega) (by omega)
   have hcc:=ih c (by have:=Ga (x:=nd 19 [a,b,c]) (y:=c) (by simp [nd,Ex.args]);omega) hc (by omega) (by omega)
   rw [Aeq]
   cases e:evX vars vals a with
   |none =>
    rw [e] at hca
    refine Fh Tryz.func29 rfl rfl (Nat.le_of_ble_eq_true rfl) ?_
    repeat' (first|refine rl2 ?_|refine rs2 ?_ ?_<;>intro h|fail)
    refine b0w 5 (fun k=>Nat.beq k 5||Nat.beq k 6||Nat.beq k 7) (fun k=>Nat.beq k 5||Nat.beq k 6||Nat.beq k 7) [(0,[0]),(2,[1])] [(0,[0]),(2,[1])] (by dsimp only [mkE]) (by dsimp only [mkE,Fb,List.map]) ?_ ?_
    ·repeat' (first|refine rl7 ?_|refine rs7 ?_ ?_<;>intro h|fail)
     refine Fk _ (Ak (i:=0) rfl) (by omega) ?_
     repeat' (first|refine rl7 ?_|refine rs7 ?_ ?_<;>intro h|fail)
     exact Ib (B4 rfl (hca).1 rfl rfl (Bh _) (hca).2) ⟨rfl,rfl,rfl⟩
    ·repeat' (first|refine rl7 ?_|refine rs7 ?_ ?_<;>intro h|fail)
     refine Fk _ (Ak (i:=0) rfl) (by omega) ?_
     repeat' (first|refine rl7 ?_|refine rs7 ?_ ?_<;>intro h|fail)
     exact Ib (B4 rfl (hca).1 rfl rfl (Bh _) (hca).2) ⟨rfl,rfl,rfl⟩
   |some r =>
    rw [e] at hca
    obtain ⟨f,y⟩:=r
    rw [Option.bind_some]
    (try dsimp only)
    cases y with
    |true =>
     rw [if_pos rfl]
     cases e2:evX vars vals b with
     |none =>
      rw [e2] at hcb
      refine Fh Tryz.func29 rfl rfl (Nat.le_of_ble_eq_true rfl) ?_
      repeat' (first|refine rl2 ?_|refine rs2 ?_ ?_<;>intro h|fail)
      refine b0 (fun k=>Nat.beq k 6||Nat.beq k 7) [(0,[0]),(2,[1])] ?_
      repeat' (first|refine rl7 ?_|refine rs7 ?_ ?_<;>intro h|fail)
      refine Fk _ (Ak (i:=0) rfl) (by omega) ?_
      repeat' (first|refine rl7 ?_|refine rs7 ?_ ?_<;>intro h|fail)
      refine Ah hca ?_
      repeat' (first|refine rl7 ?_|refine rs7 ?_ ?_<;>intro h|fail)
      repeat' (first|refine rl2 ?_|refine rs2 ?_ ?_<;>intro h|fail)
      refine b0 (fun k=>Nat.beq k 5||Nat.beq k 6) [(0,[0]),(2,[1])] ?_
      repeat' (first|refine rl7 ?_|refine rs7 ?_ ?_<;>intro h|fail)
      refine Fk _ (Ak (i:=1) rfl) (by omega) ?_
      repeat' (first|refine rl7 ?_|refine rs7 ?_ ?_<;>intro h|fail)
      exact Ib (B4 rfl (hcb).1 rfl rfl (Bh _) (hcb).2) ⟨rfl,rfl,rfl⟩
     |some t =>
      rw [e2] at hcb
      show Aw _ _ _ (.ret (rsP t)) _
      refine Af Tryz.func29 rfl rfl (Nat.le_of_ble_eq_true rfl) rfl (Nat.le_refl _) ?_
      repeat' (first|refine rl2 ?_|refine rs2 ?_ ?_<;>intro h|fail)
      refine b0 (fun k=>Nat.beq k 6||Nat.beq k 7) [(0,[0]),(2,[1])] ?_
      repeat' (first|refine rl7 ?_|refine rs7 ?_ ?_<;>intro h|fail)
      refine Fk _ (Ak (i:=0) rfl) (by omega) ?_
      repeat' (first|refine rl7 ?_|refine rs7 ?_ ?_<;>intro h|fail)
      refine Ah hca ?_
      repeat' (first|refine rl7 ?_|refine rs7 ?_ ?_<;>intro h|fail)
      repeat' (first|refine rl2 ?_|refine rs2 ?_ ?_<;>intro h|fail)
      refine b0 (fun k=>Nat.beq k 6) [(0,[0]),(2,[1])] ?_
      repeat' (first|refine rl7 ?_|refine rs7 ?_ ?_<;>intro h|fail)
      refine Fk _ (Ak (i:=1) rfl) (by omega) ?_
      repeat' (first|refine rl7 ?_|refine rs7 ?_ ?_<;>intro h|fail)
      refine Dj hcb ?_
      repeat' (first|refine rl7 ?_|refine rs7 ?_ ?_<;>intro h|fail)
      repeat' (first|refine rl0 ?_|refine rs0 ?_ ?_<;>intro h|fail)
      rfl
    |false =>
     rw [if_neg (by simp)]
     cases e2:evX vars vals c with
     |none =>
      rw [e2] at hcc
      refine Fh Tryz.func29 rfl rfl (Nat.le_of_ble_eq_true rfl) ?_
      repeat' (first|refine rl2 ?_|refine rs2 ?_ ?_<;>intro h|fail)
      refine b0 (fun k=>Nat.beq k 6||Nat.beq k 7) [(0,[0]),(2,[1])] ?_
      repeat' (first|refine rl7 ?_|refine rs7 ?_ ?_<;>intro h|fail)
      refine Fk _ (Ak (i:=0) rfl) (by omega) ?_
      repeat' (first|refine rl7 ?_|refine rs7 ?_ ?_<;>intro h|fail)
      refine Ah hca ?_
      repeat' (first|refine rl7 ?_|refine rs7 ?_ ?_<;>intro h|fail)
      repeat' (first|refine rl2 ?_|refine rs2 ?_ ?_<;>intro h|fail)
      refine b0 (fun k=>Nat.beq k 5||Nat.beq k 6) [(0,[0]),(2,[1])] ?_
      repeat' (first|refine rl7 ?_|refine rs7 ?_ ?_<;>intro h|fail)
      refine Fk _ (Ak (i:=2) rfl) (by omega) ?_
      repeat' (first|refine rl7 ?_|refine rs7 ?_ ?_<;>intro h|fail)
      exact Ib (B4 rfl (hcc).1 rfl rfl (Bh _) (hcc).2) ⟨rfl,rfl,rfl⟩
     |some t =>
      rw [e2] at hcc
      show Aw _ _ _ (.ret (rsP t)) _
      refine Af Tryz.func29 rfl rfl (Nat.le_of_ble_eq_true rfl) rfl (Nat.le_refl _) ?_
      repeat' (first|refine rl2 ?_|refine rs2 ?_ ?_<;>intro h|fail)
      refine b0 (fun k=>Nat.beq k 6||Nat.beq k 7) [(0,[0]),(2,[1])] ?_
      repeat' (first|refine rl7 ?_|refine rs7 ?_ ?_<;>intro h|fail)
      refine Fk _ (Ak (i:=0) rfl) (by omega) ?_
      repeat' (first|refine rl7 ?_|refine rs7 ?_ ?_<;>intro h|fail)
      refine Ah hca ?_
      repeat' (first|refine rl7 ?_|refine rs7 ?_ ?_<;>intro h|fail)
      repeat' (first|refine rl2 ?_|refine rs2 ?_ ?_<;>intro h|fail)
      refine b0 (fun k=>Nat.beq k 6) [(0,[0]),(2,[1])] ?_
      repeat' (first|refine rl7 ?_|refine rs7 ?_ ?_<;>intro h|fail)
      refine Fk _ (Ak (i:=2) rfl) (by omega) ?_
      repeat' (first|refine rl7 ?_|refine rs7 ?_ ?_<;>intro h|fail)
      refine Dj hcc ?_
      repeat' (first|refine rl7 ?_|refine rs7 ?_ ?_<;>intro h|fail)
      repeat' (first|refine rl0 ?_|refine rs0 ?_ ?_<;>intro h|fail)
      rfl
set_option maxRecDepth 100000 in
set_option maxHeartbeats 1000000 in
theorem bld_used (b:Nat) (w:World) (h0:w.cell? ⟨b,0,none⟩=some (.pointer (some ⟨b,0,none⟩))) :
  Calls Tryz.prog 123 #[.pointer (some ⟨b,0,none⟩)] w fun e w'=>e = .returned (.tuple #[])/\w'=w:=by
 obtain ⟨j,hj,_⟩:∃ j,Tryz.prog.info? 151=some j/\j.size=2:=Option.map_eq_some_iff.1 (by kernel_rfl)
 go_enter Tryz.func123,Tryz.ntmps123
 go_wp2
 rw [Lib.run_neq_ptr_same w _ Tryz.underlying149 hj]
 go_wp2
 go_end0
 exact ⟨rfl,rfl⟩
set_option maxRecDepth 100000 in
set_option maxHeartbeats 1000000 in
theorem Ad3 (b:Nat) (w:World) (h0:w.cell? ⟨b,0,none⟩=some (.pointer none)) (hsh:w.shape? b=some (151,2)) (hfz:w.frozen? ⟨b,0,none⟩=false) :
  Calls Tryz.prog 123 #[.pointer (some ⟨b,0,none⟩)] w fun e w'=>e = .returned (.tuple #[])/\w'=w.setCell ⟨b,0,none⟩ (.pointer (some ⟨b,0,none⟩)):=by
 obtain ⟨j,hj,hjs⟩:∃ j,Tryz.prog.info? 151=some j/\j.size=2:=Option.map_eq_some_iff.1 (by kernel_rfl)
 go_enter Tryz.func123,Tryz.ntmps123
 go_wp2
 rw [Lib.run_to_unsafe w ⟨b,0,none⟩ Tryz.underlying149 Tryz.underlying216 hj (by rw [hjs];decide) hsh (Nat.zero_lt_succ 1)]
 simp only [Result.andThen]
 rw [Oper.upon_value]
 go_wp2
 rw [run_callFunc_extern Tryz.func157 (by kernel_rfl) (by kernel_rfl) (by kernel_rfl) (e:=Extern.AbiNoEscape.same) (by kernel_rfl)]
 rw [Lib.run_noEscape]
 simp only [Result.andThen]
 rw [Oper.upon_value]
 go_wp2
 rw [Lib.run_from_unsafe w ⟨b,0,none⟩ Tryz.underlying216 Tryz.underlying149 hj hsh (by kernel_rfl)]
 simp only [Result.andThen]
 rw [Oper.upon_value]
 go_wp2
 go_end0
 exact ⟨rfl,rfl⟩
theorem Tw (B b:Nat) (bs:List Value) (w:World) (h:Lib.IsBuilder 151 5 B b bs w) :
  Calls Tryz.prog 123 #[.pointer (some ⟨b,0,none⟩)] w fun e w'=>e = .returned (.tuple #[])/\(Lib.BuilderAt 151 5 B b (.pointer (some ⟨b,0,none⟩)) bs w'/\Below B w w'):=by
 rcases h with h|h
 ·refine (Ad3 b w h.cell0 h.shape h.frozen0).mono ?_
  rintro e w' ⟨rfl,rfl⟩
  exact ⟨rfl,h.used _,(Below.refl B w).setCell (p:=⟨b,0,none⟩) h.1 _⟩
 ·refine (bld_used b w h.cell0).mono ?_
  rintro e w' ⟨rfl,rfl⟩
  exact ⟨rfl,h,Below.refl B _⟩
set_option maxHeartbeats 2000000 in
set_option maxRecDepth 100000 in
theorem Fx (B b:Nat) (bs:List Value) (s:ByteArray) (w:World) (h:Lib.IsBuilder 151 5 B b bs w) (hlen:bs.length+s.size<=140737488355328) (hBw:B<=w.heap.size) :
  Calls Tryz.prog 92 #[.pointer (some ⟨b,0,none⟩),.string s] w fun e w'=>e = .returned (.tuple #[.int .i64 s.size,.nilIface])/\(Lib.BuilderAt 151 5 B b (.pointer (some ⟨b,0,none⟩)) (bs++Lib.strCells s) w'/\Below B w w'):=by
 obtain ⟨i0,hi,hz0,hz1,hz2⟩:=info_parts (P:=Tryz.prog) (e:=5) (size:=1) (bytes:=1) (z := .int .u8 0) (by kernel_rfl)
 go_enter Tryz.func92,Tryz.ntmps92
 go_wp2_with (go_at_call 123;refine (Tw B b bs _ h).mono ?_)
 rintro e w1 ⟨rfl,h1,hb1⟩
 obtain ⟨hB,v,hbk,hown,hne⟩:=h1
 have c0:w1.cell? ⟨b,0,none⟩=some (.pointer (some ⟨b,0,none⟩)):=by rw [Lib.cell_of_heap hbk];rfl
 have c1:w1.cell? ⟨b,1,none⟩=some v:=by rw [Lib.cell_of_heap hbk];rfl
 go_wp2_with (at_builtin;refine Lib.wpList_append_own_string _ rfl _ _ 25 9 rfl B 5 i0 Tryz.underlying25 Tryz.underlying9 hi hz0 hz1 hz2 _ _ _ rfl hown s rfl ?c3 ?c4 ?c5 ?_)
 case c3=>unfold maxLen;omega
 case c4=>omega
 case c5=>have:=hb1.size;omega
 intro v' w2 hown' hgrow _
 have hlt:b<w1.heap.size:=by
  rcases Nat.lt_or_ge b w1.heap.size with h'|h'
  ·exact h'
  ·simp [Array.getElem?_eq_none h'] at hbk
 have hb2:w2.heap[b]? = some (.cells #[.pointer (some ⟨b,0,none⟩),v] 151 (0,0)):=by
  rw [hgrow.block b hlt (fun e=>hne e.symm)]
  exact hbk
 have d0:w2.cell? ⟨b,0,none⟩=some (.pointer (some ⟨b,0,none⟩)):=by rw [Lib.cell_of_heap hb2];rfl
 have d1:w2.cell? ⟨b,1,none⟩=some v:=by rw [Lib.cell_of_heap hb2];rfl
 have f1:w2.frozen? ⟨b,1,none⟩=false:=Lib.frozen_of_heap hb2 1
 obtain ⟨ao,n',cap,rfl⟩:∃ ao n' cap,v' = .slice ao n' cap:=by
  rcases hown'.2 with ⟨hv,_⟩|⟨g,cap,cur,hv,_⟩
  ·exact ⟨_,_,_,hv⟩
  ·exact ⟨_,_,_,hv⟩
 go_wp2
 go_ret2
 refine ⟨rfl,?_,?_⟩
 ·exact Lib.BuilderAt.put (T:=151) (e:=5) hB hb2 (bs':=bs++Lib.strCells s) (by simpa [Lib.strCells_length] using hown') (by decide)
 ·exact (hb1.grown hgrow (by have:=hb1.size;omega) (fun k hk=>(hown.lt k hk).1)).setCell (p:=⟨b,1,none⟩) hB _
set_option maxHeartbeats 2000000 in
set_option maxRecDepth 100000 in
theorem bld_byte (B b:Nat) (bs:List Value) (c:Int) (w:World) (h:Lib.IsBuilder 151 5 B b bs w) (hlen:bs.length+1<=140737488355328) (hBw:B<=w.heap.size) :
  Calls Tryz.prog 90 #[.pointer (some ⟨b,0,none⟩),.int .u8 c] w fun e w'=>e = .returned .nilIface/\(Lib.BuilderAt 151 5 B b (.pointer (some ⟨b,0,none⟩)) (bs++[.int .u8 c]) w'/\Below B w w'):=by
 obtain ⟨i0,hi,hz0,hz1,hz2⟩:=info_parts (P:=Tryz.prog) (e:=5) (size:=1) (bytes:=1) (z := .int .u8 0) (by kernel_rfl)
 go_enter Tryz.func90,Tryz.ntmps90
 go_wp2_with (go_at_call 123;refine (Tw B b bs _ h).mono ?_)
 rintro e w1 ⟨rfl,h1,hb1⟩
 obtain ⟨hB,v,hbk,hown,hne⟩:=h1
 have c0:w1.cell? ⟨b,0,none⟩=some (.pointer (some ⟨b,0,none⟩)):=by rw [Lib.cell_of_heap hbk];rfl
 have c1:w1.cell? ⟨b,1,none⟩=some v:=by rw [Lib.cell_of_heap hbk];rfl
 go_wp2_with (at_builtin;refine wpList_append_own _ rfl _ _ 25 rfl B 5 i0 (.int .u8 0) 1 1 Tryz.underlying25 hi hz0 hz1 hz2 rfl (by decide) _ _ _ rfl (hown.alloc _) ⟨w1.heap.size,0,none⟩ 1 1 [.int .u8 c] rfl rfl ?c1 ?c2 ?c3 ?c4 ?c5 ?_)
 case c1 =>
  intro j u hj
  match j,hj with
  |0,hj=>simp at hj;subst hj;simp [Addr.add]
 case c2=>intro u hu;simp at hu;subst hu;rfl
 case c3=>unfold maxLen;omega
 case c4=>omega
 case c5=>have:=hb1.size;simp;omega
 intro v' w2 hown' hgrow _
 have hlt:b<w1.heap.size:=by
  rcases Nat.lt_or_ge b w1.heap.size with h'|h'
  ·exact h'
  ·simp [Array.getElem?_eq_none h'] at hbk
 have hb2:w2.heap[b]? = some (.cells #[.pointer (some ⟨b,0,none⟩),v] 151 (0,0)):=by
  rw [hgrow.block b (by simp;omega) (fun e=>hne e.symm),Lib.alloc_old w1 _ b hlt]
  exact hbk
 have d0:w2.cell? ⟨b,0,none⟩=some (.pointer (some ⟨b,0,none⟩)):=by rw [Lib.cell_of_heap hb2];rfl
 have d1:w2.cell? ⟨b,1,none⟩=some v:=by rw [Lib.cell_of_heap hb2];rfl
 have f1:w2.frozen? ⟨b,1,none⟩=false:=Lib.frozen_of_heap hb2 1
 obtain ⟨g,cap,rfl⟩:∃ g cap,v' = .slice (some ⟨g,0,none⟩) (bs.length+1) cap:=by
  rcases hown'.2 with ⟨_,h0⟩|⟨g,cap,cur,hv,_⟩
  ·omega
  ·exact ⟨g,cap,hv⟩
 go_wp2
 go_ret
 refine ⟨rfl,?_,?_⟩
 ·exact Lib.BuilderAt.put (T:=151) (e:=5) hB hb2 (bs':=bs++[.int .u8 c]) (by simpa using hown') (by decide)
 ·exact ((hb1.alloc (by have:=hb1.size;omega) _).grown hgrow (by have:=hb1.size;simp;omega) (fun k hk=>(hown.lt k hk).1)).setCell (p:=⟨b,1,none⟩) hB _
attribute [local go_sem] Oper.semAt_some
def J0:List Int->List UInt8
 |[]=>[]
 |[x]=>Lib.itoa x
 |x::y::r=>J0 (y::r)++((List.replicate 9 48).drop (Lib.itoa x).length++Lib.itoa x)
def Pc (neg:Bool) (l:List Int):List UInt8:=if l=[] then [48] else (if neg then [45] else [])++J0 l
theorem Afv:∀ (k u:Nat),u<10 ^ (k+1)->Lib.nDigits u<=k+1
 |0,u,h=>by rw [Lib.nDigits_small (by omega)];exact Nat.le_refl _
 |k+1,u,h=>by
  rw [Lib.nDigits]
  split
  ·omega
  ·have:=Afv k (u / 10) (by rw [Nat.pow_succ] at h;omega)
   omega
theorem Nd {x:Int} (h:limbOk x):(Lib.itoa x).length<=9:=by
 obtain ⟨n,rfl⟩:=Int.eq_ofNat_of_zero_le h.1
 rw [show ((n:Nat):Int)=Int.ofNat n from rfl] at *
 rw [show Int.ofNat n=(n:Int) from rfl,Lib.itoa_nonneg,Lib.decDigits_length]
 have h2:=h.2
 exact Afv 8 n (by rw [show Int.ofNat n=(n:Int) from rfl] at h2;omega)
theorem Lk:∀ {l:List Int},(∀ x∈l,limbOk x)->(J0 l).length<=9*l.length
 |[],_=>by simp [J0]
 |[x],h=>by have:=Nd (h x List.mem_cons_self);simpa [J0] using this
 |x::y::r,h=>by
  have h1:=Lk (l:=y::r) fun z hz=>h z (List.mem_cons_of_mem _ hz)
  have h2:=Nd (h x List.mem_cons_self)
  simp only [J0,List.length_append,List.length_drop,List.length_replicate,List.length_cons] at h1 |-
  omega
theorem lims_of {G:Nat->Nat->Prop} {w:World} {sl:Value} {l:List Int} (h:Cj G w (.sl 1 (l.map B8)) sl):∃ p cap,sl = .slice p l.length cap/\l.length<=cap/\cap<=9223372036854775807 /\
  ∀ (j:Nat),j<l.length->∃ b o,p=some ⟨b,o,none⟩/\w.cell? ⟨b,o+j,none⟩=some (.int .u32 (l.getD j 0)):=by
 simp only [Cj] at h
 obtain ⟨p,cap,rfl,h1,h2,h3⟩:=h
 simp only [List.length_map] at h1 h3
 refine ⟨p,cap,by simp,h1,h2,fun j hlt=>?_⟩
 obtain ⟨b,o,rfl,h4,h5⟩:=h3 (by intro e;simp at e;subst e;simp at hlt)
 have h6:=Iw (j:=j) (e:=B8 l[j]) h5 (by simp [hlt])
 simp only [Aq] at h6
 obtain ⟨⟨u0,c0,r0⟩,_⟩:=h6
 simp only [Cj] at r0
 rw [r0.1,Nat.mul_one] at c0
 refine ⟨b,o,rfl,?_⟩
 rw [c0,List.getD_eq_getElem?_getD,List.getElem?_eq_getElem hlt];rfl
theorem Tv {T e:TypeId} {B b:Nat} {bs:List Value} {w w':World} (h:Lib.IsBuilder T e B b bs w) (hb:Below w.heap.size w w'):Lib.IsBuilder T e B b bs w':=by
 have key:∀ p,Lib.BuilderAt T e B b p bs w->Lib.BuilderAt T e B b p bs w':=by
  rintro p ⟨h1,v,h2,h3,h4⟩
  refine ⟨h1,v,(hb.block _ (Array.getElem?_eq_some_iff.1 h2).1).trans h2,h3.kept (row:=none) ⟨hb.os,hb.tape,hb.output,hb.size,fun k hk _=>hb.block k hk⟩ ?_,h4⟩
  cases hv:v.ownBlock with
  |none=>exact .inl rfl
  |some k=>exact .inr (by simp)
 rcases h with h|h
 ·exact .inl (key _ h)
 ·exact .inr (key _ h)
theorem Pd {x:Int} {r:List Int} (h:r≠[]):J0 (x::r)=J0 r++((List.replicate 9 48).drop (Lib.itoa x).length++Lib.itoa x):=by
 cases r with
 |nil=>exact absurd rfl h
 |cons y r=>rfl
theorem zext (n:Nat) (h:n<=9):(ByteArray.extract ⟨#[48,48,48,48,48,48,48,48,48]⟩ n 9).data.toList=(List.replicate 9 48).drop n:=by
 have key:∀ n:Fin 10,(ByteArray.extract ⟨#[48,48,48,48,48,48,48,48,48]⟩ n.val 9).data.toList=(List.replicate 9 48).drop n.val:=by decide +kernel
 exact key ⟨n,by omega⟩
theorem zsize (n:Nat):ByteArray.size (ByteArray.extract ⟨#[48,48,48,48,48,48,48,48,48]⟩ n 9)<=9:=by
 rw [ByteArray.size_extract];simp [ByteArray.size]
set_option maxRecDepth 100000 in
set_option maxHeartbeats 4000000 in
theorem text_any (neg:Bool) (l:List Int) (K:Kx) (w:World) (hf:Inv K ⟨[],[]⟩ w) (hl:l.length<=1000000) (hok:∀ x∈l,limbOk x) (p:Option Addr) (cap:Nat) (hcap:l.length<=cap) (hmax:cap<=9223372036854775807)
  (hel:∀ (j:Nat),j<l.length->∃ b o,p=some ⟨b,o,none⟩/\w.cell? ⟨b,o+j,none⟩=some (.int .u32 (l.getD j 0))) :
  Calls Tryz.prog 64 #[.agg #[.bool neg,.slice p l.length cap]] w fun e w'=>e = .returned (.string ⟨(Pc neg l).toArray⟩)/\Below w.heap.size w w':=by
 go_enter Tryz.func64,Tryz.ntmps64
 by_cases h0:l.length=0
 ·go_wp2
  go_ret
  have hl0:l=[]:=List.length_eq_zero_iff.1 h0
  subst hl0
  exact ⟨rfl,(Below.refl _ _).alloc (Nat.le_refl _) _⟩
 ·have h0':¬ ((l.length:Int)=0):=by omega
  have h0b:((l.length:Int)==0)=false:=by simpa using h0'
  have hw1:IntKind.i64.wrap ((l.length:Int)-1)=(l.length:Int)-1:=by rw [IntKind.wrap_i64];omega
  have hne:l≠[]:=fun e=>h0 (by rw [e];rfl)
  have HF:=Lib.hid hf
  have HOK:=Lib.hid hok
  have HEL:=Lib.hid hel
  clear hf hok hel
  obtain ⟨W1,hW1⟩:∃ W1,w.alloc (.cells #[.bool neg,.slice p l.length cap] 75)=W1:=⟨_,rfl⟩
  have hs1:W1.heap.size=w.heap.size+1:=by rw [<- hW1];simp
  have hb1:Below w.heap.size w W1:=by rw [<- hW1];exact (Below.refl _ _).alloc (Nat.le_refl _) _
  have hcl1:∀ j u,[Value.bool neg,.slice p l.length cap][j]? = some u->W1.cell? ((⟨w.heap.size,0,none⟩:Addr).add j)=some u:=by rw [<- hW1];exact T0 _ _ _
  have c0:W1.cell? ⟨w.heap.size,0,none⟩=some (.bool neg):=by simpa [Addr.add] using hcl1 0 _ rfl
  have c1:W1.cell? ⟨w.heap.size,1,none⟩=some (.slice p l.length cap):=by simpa [Addr.add] using hcl1 1 _ rfl
  clear hcl1
  have HW1:=Lib.hid hb1
  have hfr:Lib.IsBuilder 151 5 (w.heap.size+1) (w.heap.size+1) (Lib.byteCells []) (W1.alloc (.cells #[.pointer none,.slice none 0 0] 151)):=by
   have:=Lib.fresh_isBuilder 151 5 W1
   rw [hs1] at this;exact this
  have hb2:Below (w.heap.size+1) W1 (W1.alloc (.cells #[.pointer none,.slice none 0 0] 151)):=by
   have:=(Below.refl W1.heap.size W1).alloc (Nat.le_refl _) (.cells #[.pointer none,.slice none 0 0] 151)
   rw [hs1] at this;exact this
  obtain ⟨W2,hW2⟩:∃ W2,W1.alloc (.cells #[.pointer none,.slice none 0 0] 151)=W2:=⟨_,rfl⟩
  have hs2:W2.heap.size=w.heap.size+2:=by rw [<- hW2];simp [hs1]
  rw [hW2] at hfr hb2
  have HFR:=Lib.hid hfr
  have HB2:=Lib.hid hb2
  have d0:=(A4 (i:=0) (hb2.block w.heap.size (by omega))).trans c0
  have d1:=(A4 (i:=1) (hb2.block w.heap.size (by omega))).trans c1
  clear hfr hb2 hb1
  have HTAB:Hid (∀ wr,Below w.heap.size w wr->Lib.TabIs Tryz.prog wr "internal/strconv.uint64pow10" .u64 Lib.pow10Tab):=Lib.hid fun wr hb=>tab_of (by kernel_rfl) (HF.out.below hb).1.fz
  obtain ⟨neg0,hneg⟩:∃ neg0,neg=neg0:=⟨_,rfl⟩
  rw [show Pc neg l=Pc neg0 l from by rw [hneg]]
  have HNEG:=Lib.hid hneg
  clear hneg
  cases neg with
  |true =>
   go_wp2_with fail
   refine (bld_byte (w.heap.size+1) (w.heap.size+1) [] 45 _ HFR.out (by simp) (by rw [hs2];omega)).mono ?_
   rintro e W3 ⟨rfl,h3,hb3⟩
   have hfr:Lib.IsBuilder 151 5 (w.heap.size+1) (w.heap.size+1) (Lib.byteCells [45]) W3 := .inr h3
   have hb4:=HB2.out.trans (hb3.mono (Nat.le_refl _))
   have d2:=(A4 (i:=1) (hb4.block w.heap.size (by omega))).trans c1
   have hs3:w.heap.size+2<=W3.heap.size:=h3.lt
   clear HFR HB2 d0 d1
   have HFR:=Lib.hid hfr
   have HB2:=Lib.hid hb4
   clear hfr hb4 h3 hb3
   go_wp2_with fail
   go_loopw [4] (fun i wr=>∃ j:Nat,j<=l.length/\i = .int .i64 ((j:Int)-1)/\Lib.IsBuilder 151 5 (w.heap.size+1) (w.heap.size+1) (Lib.byteCells ([45]++J0 (l.drop j))) wr/\Below (w.heap.size+1) W1 wr) (fun i _=>(intOf i+1).toNat)
   case atStart=>exact ⟨l.length,Nat.le_refl _,rfl,by rw [List.drop_length,J0,List.append_nil];exact HFR.out,HB2.out⟩
   case round =>
    obtain ⟨j,hj,rfl,hbl,hbr⟩:=hrel
    have HBL:=Lib.hid hbl
    have HBR:=Lib.hid hbr
    have e1:=(A4 (i:=1) (hbr.block w.heap.size (by omega))).trans c1
    have hsr:w.heap.size+2<=wr.heap.size:=by
     rcases hbl with h|h<;>exact h.lt
    have htab:Lib.TabIs Tryz.prog wr "internal/strconv.uint64pow10" .u64 Lib.pow10Tab:=HTAB.out wr ((HW1.out).trans (hbr.mono (Nat.le_succ _)))
    have HT:=Lib.hid htab
    clear hbl hbr htab
    by_cases hlt:0<j
    ·obtain ⟨j,rfl⟩:∃ i,j=i+1:=⟨j-1,by omega⟩
     have hj1:((j+1:Nat):Int)-1=(j:Int):=by omega
     rw [hj1]
     obtain ⟨b,o,rfl,c2⟩:=HEL.out j (by omega)
     have hbw:=Fg c2
     have e2:=(A4 (i:=o+j) (HBR.out.block b (by omega))).trans ((A4 (i:=o+j) (HW1.out.block b hbw)).trans c2)
     have hx:limbOk (l.getD j 0):=Hs HOK.out (by omega)
     have HX:=Lib.hid (Nd hx)
     have HD:=Lib.hid (List.drop_eq_getElem_cons (show j<l.length by omega))
     have HG:Hid (l[j]'(by omega)=l.getD j 0):=Lib.hid (by rw [List.getD_eq_getElem?_getD,List.getElem?_eq_getElem (by omega)];rfl)
     obtain ⟨x,hxx⟩:∃ x,l.getD j 0=x:=⟨_,rfl⟩
     rw [hxx] at e2 hx HX HG
     have hz:=Fg e2
     have hw2:IntKind.i64.wrap ((j:Int)-1)=(j:Int)-1:=by rw [IntKind.wrap_i64];omega
     have hwx:IntKind.i64.wrap x=x:=by rw [IntKind.wrap_i64];have:=hx.1;have:=hx.2;omega
     clear c2
     go_wp2_with fail
     refine (Tryz.strconv_Itoa x (by have:=hx.1;omega) (by have:=hx.2;omega) wr HT.out).mono ?_
     rintro e w5 ⟨rfl,k5,os5,hw5⟩
     have hb5:Below wr.heap.size wr w5:=by rw [hw5];exact ⟨rfl,rfl,rfl,by show wr.heap.size<=(wr.heap++os5).size;rw [Array.size_append];omega,fun q hq=>by show (wr.heap++os5)[q]? = _;rw [Array.getElem?_append_left hq]⟩
     obtain ⟨ds,hds⟩:∃ ds,Lib.itoa x=ds:=⟨_,rfl⟩
     rw [hds] at HX |-
     obtain ⟨S,hS⟩:∃ S,(⟨ds.toArray⟩:ByteArray)=S:=⟨_,rfl⟩
     have hSs:S.size=ds.length:=by rw [<- hS];simp [ByteArray.size]
     have hSc:S.data.toList=ds:=by rw [<- hS]
     have HBL5:=Lib.hid (Tv HBL.out hb5)
     have HBR5:=Lib.hid (HBR.out.trans (hb5.mono (by omega)))
     have hs5:w.heap.size+2<=w5.heap.size:=Nat.le_trans hsr hb5.size
     have f1:=(A4 (i:=1) (HBR5.out.block w.heap.size (by omega))).trans c1
     have HSC:=Lib.hid hSc
     have HDS:=Lib.hid hds
     rw [hS]
     have hX9:=HX.out
     rw [<- hSs] at hX9
     clear e2 e1 hw5 hb5 HBL HBR HT hS hSc hds
     by_cases hl2:j+1<l.length
     ·have hl3:(j:Int)<(l.length:Int)-1:=by omega
      have HE:Hid (Lib.byteCells ([45]++J0 (l.drop (j+1)))++Lib.strCells (ByteArray.extract ⟨#[48,48,48,48,48,48,48,48,48]⟩ ds.length 9)++Lib.strCells S=Lib.byteCells ([45]++J0 (l.drop j))):=Lib.hid (by
       rw [HD.out,HG.out,Pd (by intro e;have:=congrArg List.length e;simp at this;omega),Lib.strCells_eq,Lib.strCells_eq,HSC.out,zext _ (by rw [<- hSs];exact hX9),HDS.out,<- Lib.byteCells_append,<- Lib.byteCells_append]
       simp only [List.append_assoc])
      have HL:Hid ((Lib.byteCells ([45]++J0 (l.drop (j+1)))).length<=9000001):=Lib.hid (by
       have:=Lk (l:=l.drop (j+1)) fun z hz=>HOK.out z (List.mem_of_mem_drop hz)
       rw [List.length_drop] at this
       simp [Lib.byteCells_length];omega)
      have HZ:Hid (ByteArray.size (ByteArray.extract ⟨#[48,48,48,48,48,48,48,48,48]⟩ ds.length 9)<=9):=Lib.hid (zsize _)
      go_wp2_with fail
      refine (Fx (w.heap.size+1) (w.heap.size+1) _ _ w5 HBL5.out (by have:=HL.out;have:=HZ.out;omega) (by omega)).mono ?_
      rintro e w6 ⟨rfl,h6,hb6⟩
      have hs6:w.heap.size+2<=w6.heap.size:=h6.lt
      have H6:=Lib.hid h6
      have HBR6:=Lib.hid (HBR5.out.trans hb6)
      clear h6 hb6
      go_wp2_with fail
      refine (Fx (w.heap.size+1) (w.heap.size+1) _ S w6 (.inr H6.out) (by have:=HL.out;have:=HZ.out;rw [List.length_append,Lib.strCells_length];omega) (by omega)).mono ?_
      rintro e w7 ⟨rfl,h7,hb7⟩
      have H7:=Lib.hid h7
      have HBR7:=Lib.hid (HBR6.out.trans hb7)
      clear h7 hb7
      go_wp2
      go_round
      case rel =>
       exact ⟨j,by omega,by go_num,by rw [<- HE.out];exact .inr H7.out,HBR7.out⟩
      case measure=>simp [intOf]
     ·have hl3:¬ (j:Int)<(l.length:Int)-1:=by omega
      have HE:Hid (Lib.byteCells ([45]++J0 (l.drop (j+1)))++Lib.strCells S=Lib.byteCells ([45]++J0 (l.drop j))):=Lib.hid (by
       rw [HD.out,HG.out,List.drop_of_length_le (show l.length<=j+1 by omega),Lib.strCells_eq,HSC.out,<- Lib.byteCells_append,J0,J0,HDS.out]
       simp only [List.append_nil])
      have HL:Hid ((Lib.byteCells ([45]++J0 (l.drop (j+1)))).length<=9000001):=Lib.hid (by
       have:=Lk (l:=l.drop (j+1)) fun z hz=>HOK.out z (List.mem_of_mem_drop hz)
       rw [List.length_drop] at this
       simp [Lib.byteCells_length];omega)
      go_wp2_with fail
      refine (Fx (w.heap.size+1) (w.heap.size+1) _ S w5 HBL5.out (by have:=HL.out;omega) (by omega)).mono ?_
      rintro e w7 ⟨rfl,h7,hb7⟩
      have H7:=Lib.hid h7
      have HBR7:=Lib.hid (HBR5.out.trans hb7)
      clear h7 hb7
      go_wp2
      go_round
      case rel=>exact ⟨j,by omega,by go_num,by rw [<- HE.out];exact .inr H7.out,HBR7.out⟩
      case measure=>simp [intOf]
    ·obtain rfl:j=0:=by omega
     go_wp2_with fail
     refine (Tryz.Builder_String_any (w.heap.size+1) (w.heap.size+1) _ wr HBL.out (by omega)).mono ?_
     rintro e w7 ⟨rfl,hb7⟩
     have HB7:=Lib.hid hb7
     clear hb7
     go_wp2
     go_ret
     refine ⟨?_,HW1.out.trans ((HBR.out.trans HB7.out).mono (Nat.le_succ _))⟩
     have e:Pc neg0 l=[45]++J0 (l.drop 0):=by rw [<- HNEG.out];unfold Pc;rw [if_neg hne];rfl
     rw [e]
     rfl
  |false =>
   go_wp2_with fail
   go_loopw [4] (fun i wr=>∃ j:Nat,j<=l.length/\i = .int .i64 ((j:Int)-1)/\Lib.IsBuilder 151 5 (w.heap.size+1) (w.heap.size+1) (Lib.byteCells ([]++J0 (l.drop j))) wr/\Below (w.heap.size+1) W1 wr) (fun i _=>(intOf i+1).toNat)
   case atStart=>exact ⟨l.length,Nat.le_refl _,rfl,by rw [List.drop_length,J0,List.append_nil];exact HFR.out,HB2.out⟩
   case round =>
    obtain ⟨j,hj,rfl,hbl,hbr⟩:=hrel
    have HBL:=Lib.hid hbl
    have HBR:=Lib.hid hbr
    have e1:=(A4 (i:=1) (hbr.block w.heap.size (by omega))).trans c1
    have hsr:w.heap.size+2<=wr.heap.size:=by
     rcases hbl with h|h<;>exact h.lt
    have htab:Lib.TabIs Tryz.prog wr "internal/strconv.uint64pow10" .u64 Lib.pow10Tab:=HTAB.out wr ((HW1.out).trans (hbr.mono (Nat.le_succ _)))
    have HT:=Lib.hid htab
    clear hbl hbr htab
    by_cases hlt:0<j
    ·obtain ⟨j,rfl⟩:∃ i,j=i+1:=⟨j-1,by omega⟩
     have hj1:((j+1:Nat):Int)-1=(j:Int):=by omega
     rw [hj1]
     obtain ⟨b,o,rfl,c2⟩:=HEL.out j (by omega)
     have hbw:=Fg c2
     have e2:=(A4 (i:=o+j) (HBR.out.block b (by omega))).trans ((A4 (i:=o+j) (HW1.out.block b hbw)).trans c2)
     have hx:limbOk (l.getD j 0):=Hs HOK.out (by omega)
     have HX:=Lib.hid (Nd hx)
     have HD:=Lib.hid (List.drop_eq_getElem_cons (show j<l.length by omega))
     have HG:Hid (l[j]'(by omega)=l.getD j 0):=Lib.hid (by rw [List.getD_eq_getElem?_getD,List.getElem?_eq_getElem (by omega)];rfl)
     obtain ⟨x,hxx⟩:∃ x,l.getD j 0=x:=⟨_,rfl⟩
     rw [hxx] at e2 hx HX HG
     have hz:=Fg e2
     have hw2:IntKind.i64.wrap ((j:Int)-1)=(j:Int)-1:=by rw [IntKind.wrap_i64];omega
     have hwx:IntKind.i64.wrap x=x:=by rw [IntKind.wrap_i64];have:=hx.1;have:=hx.2;omega
     clear c2
     go_wp2_with fail
     refine (Tryz.strconv_Itoa x (by have:=hx.1;omega) (by have:=hx.2;omega) wr HT.out).mono ?_
     rintro e w5 ⟨rfl,k5,os5,hw5⟩
     have hb5:Below wr.heap.size wr w5:=by rw [hw5];exact ⟨rfl,rfl,rfl,by show wr.heap.size<=(wr.heap++os5).size;rw [Array.size_append];omega,fun q hq=>by show (wr.heap++os5)[q]? = _;rw [Array.getElem?_append_left hq]⟩
     obtain ⟨ds,hds⟩:∃ ds,Lib.itoa x=ds:=⟨_,rfl⟩
     rw [hds] at HX |-
     obtain ⟨S,hS⟩:∃ S,(⟨ds.toArray⟩:ByteArray)=S:=⟨_,rfl⟩
     have hSs:S.size=ds.length:=by rw [<- hS];simp [ByteArray.size]
     have hSc:S.data.toList=ds:=by rw [<- hS]
     have HBL5:=Lib.hid (Tv HBL.out hb5)
     have HBR5:=Lib.hid (HBR.out.trans (hb5.mono (by omega)))
     have hs5:w.heap.size+2<=w5.heap.size:=Nat.le_trans hsr hb5.size
     have f1:=(A4 (i:=1) (HBR5.out.block w.heap.size (by omega))).trans c1
     have HSC:=Lib.hid hSc
     have HDS:=Lib.hid hds
     rw [hS]
     have hX9:=HX.out
     rw [<- hSs] at hX9
     clear e2 e1 hw5 hb5 HBL HBR HT hS hSc hds
     by_cases hl2:j+1<l.length
     ·have hl3:(j:Int)<(l.length:Int)-1:=by omega
      have HE:Hid (Lib.byteCells ([]++J0 (l.drop (j+1)))++Lib.strCells (ByteArray.extract ⟨#[48,48,48,48,48,48,48,48,48]⟩ ds.length 9)++Lib.strCells S=Lib.byteCells ([]++J0 (l.drop j))):=Lib.hid (by
       rw [HD.out,HG.out,Pd (by intro e;have:=congrArg List.length e;simp at this;omega),Lib.strCells_eq,Lib.strCells_eq,HSC.out,zext _ (by rw [<- hSs];exact hX9),HDS.out,<- Lib.byteCells_append,<- Lib.byteCells_append]
       simp only [List.append_assoc])
      have HL:Hid ((Lib.byteCells ([]++J0 (l.drop (j+1)))).length<=9000001):=Lib.hid (by
       have:=Lk (l:=l.drop (j+1)) fun z hz=>HOK.out z (List.mem_of_mem_drop hz)
       rw [List.length_drop] at this
       simp [Lib.byteCells_length];omega)
      have HZ:Hid (ByteArray.size (ByteArray.extract ⟨#[48,48,48,48,48,48,48,48,48]⟩ ds.length 9)<=9):=Lib.hid (zsize _)
      go_wp2_with fail
      refine (Fx (w.heap.size+1) (w.heap.size+1) _ _ w5 HBL5.out (by have:=HL.out;have:=HZ.out;omega) (by omega)).mono ?_
      rintro e w6 ⟨rfl,h6,hb6⟩
      have hs6:w.heap.size+2<=w6.heap.size:=h6.lt
      have H6:=Lib.hid h6
      have HBR6:=Lib.hid (HBR5.out.trans hb6)
      clear h6 hb6
      go_wp2_with fail
      refine (Fx (w.heap.size+1) (w.heap.size+1) _ S w6 (.inr H6.out) (by have:=HL.out;have:=HZ.out;rw [List.length_append,Lib.strCells_length];omega) (by omega)).mono ?_
      rintro e w7 ⟨rfl,h7,hb7⟩
      have H7:=Lib.hid h7
      have HBR7:=Lib.hid (HBR6.out.trans hb7)
      clear h7 hb7
      go_wp2
      go_round
      case rel =>
       exact ⟨j,by omega,by go_num,by rw [<- HE.out];exact .inr H7.out,HBR7.out⟩
      case measure=>simp [intOf]
     ·have hl3:¬ (j:Int)<(l.length:Int)-1:=by omega
      have HE:Hid (Lib.byteCells ([]++J0 (l.drop (j+1)))++Lib.strCells S=Lib.byteCells ([]++J0 (l.drop j))):=Lib.hid (by
       rw [HD.out,HG.out,List.drop_of_length_le (show l.length<=j+1 by omega),Lib.strCells_eq,HSC.out,<- Lib.byteCells_append,J0,J0,HDS.out]
       simp only [List.append_nil])
      have HL:Hid ((Lib.byteCells ([]++J0 (l.drop (j+1)))).length<=9000001):=Lib.hid (by
       have:=Lk (l:=l.drop (j+1)) fun z hz=>HOK.out z (List.mem_of_mem_drop hz)
       rw [List.length_drop] at this
       simp [Lib.byteCells_length];omega)
      go_wp2_with fail
      refine (Fx (w.heap.size+1) (w.heap.size+1) _ S w5 HBL5.out (by have:=HL.out;omega) (by omega)).mono ?_
      rintro e w7 ⟨rfl,h7,hb7⟩
      have H7:=Lib.hid h7
      have HBR7:=Lib.hid (HBR5.out.trans hb7)
      clear h7 hb7
      go_wp2
      go_round
      case rel=>exact ⟨j,by omega,by go_num,by rw [<- HE.out];exact .inr H7.out,HBR7.out⟩
      case measure=>simp [intOf]
    ·obtain rfl:j=0:=by omega
     go_wp2_with fail
     refine (Tryz.Builder_String_any (w.heap.size+1) (w.heap.size+1) _ wr HBL.out (by omega)).mono ?_
     rintro e w7 ⟨rfl,hb7⟩
     have HB7:=Lib.hid hb7
     clear hb7
     go_wp2
     go_ret
     refine ⟨?_,HW1.out.trans ((HBR.out.trans HB7.out).mono (Nat.le_succ _))⟩
     have e:Pc neg0 l=[]++J0 (l.drop 0):=by rw [<- HNEG.out];unfold Pc;rw [if_neg hne];rfl
     rw [e]
     rfl
theorem Abe (neg:Bool) (l:List Int) (hl:l.length<=1000000) (hok:∀ x∈l,limbOk x):Aw 64 [whP neg l] ⟨[],[]⟩ (.ret (Fi ⟨(Pc neg l).toArray⟩)) ⟨[],[]⟩:=by
 refine ⟨enters_of Tryz.func64 rfl rfl,fun K w vs hI hA=>?_⟩
 simp only [Ap,Rep] at hA
 obtain ⟨u,us,rfl,⟨cs,rfl,u0,us0,rfl,r0,u1,us1,rfl,r1,rfl⟩,rfl⟩:=hA
 simp only [Cj] at r0
 obtain ⟨rfl,_⟩:=r0
 obtain ⟨p,cap,rfl,hcap,hmax,hel⟩:=lims_of r1
 refine (text_any neg l K w hI hl hok p cap hcap hmax hel).mono ?_
 rintro e w' ⟨rfl,hb⟩
 obtain ⟨h1,h2⟩:=hI.below hb
 exact ⟨K,h2,h1,_,rfl,by simp only [Rep,Cj];exact ⟨trivial,rfl⟩⟩
def digK:Nat->Nat->List UInt8
 |0,_=>[]
 |k+1,x=>digK k (x / 10)++[UInt8.ofNat (48+x % 10)]
theorem Ub:∀ k,digK k 0=List.replicate k 48
 |0=>rfl
 |k+1=>by rw [digK,Ub k,List.replicate_succ'];rfl
theorem Y7:∀ (k x:Nat),x<10 ^ (k+1)->digK (k+1) x=(List.replicate (k+1) 48).drop (Lib.decDigits x).length++Lib.decDigits x
 |0,x,h=>by
  have h':x<10:=by simpa using h
  rw [N4 h',digK,digK,show x % 10=x by omega];rfl
 |k+1,x,h=>by
  rw [digK]
  by_cases h1:x<10
  ·rw [show x / 10=0 by omega,Ub,N4 h1,show x % 10=x by omega]
   simp
  ·rw [Y7 k (x / 10) (by rw [Nat.pow_succ] at h;omega),Aeg h1]
   simp only [List.length_append,List.length_cons,List.length_nil,List.drop_replicate,List.append_assoc]
   congr 2
   omega
theorem Aeh:∀ (k n:Nat),10 ^ k<=n->Lib.decDigits n=Lib.decDigits (n / 10 ^ k)++digK k (n % 10 ^ k)
 |0,n,_=>by simp [digK]
 |k+1,n,h=>by
  have hp:0<10 ^ k:=Nat.pow_pos (by decide)
  have e:10 ^ (k+1)=10*10 ^ k:=by rw [Nat.pow_succ,Nat.mul_comm]
  have h1:¬ n<10:=by omega
  have h2:10 ^ k<=n / 10:=by rw [Nat.le_div_iff_mul_le (by decide)];omega
  rw [Aeg h1,Aeh k (n / 10) h2,digK,e,<- Nat.div_div_eq_div_mul,List.append_assoc]
  congr 2
  ·congr 1
   rw [Nat.mod_mul,Nat.add_mul_div_left _ _ (by decide),Nat.div_eq_of_lt (Nat.mod_lt _ (by decide)),Nat.zero_add]
  ·rw [Nat.mod_mul]
   congr 3
   omega
theorem txt_dec (n:Nat) (h0:n≠0):J0 (limN n)=Lib.decDigits n:=by
 induction n using Nat.strongRecOn with
 |ind n ih =>
  have hx:limbOk ((n % 1000000000:Nat):Int):=⟨by omega,by omega⟩
  rw [limN_pos h0]
  by_cases h:n<1000000000
  ·rw [show n / 1000000000=0 by omega,limN_zero,show n % 1000000000=n by omega]
   rw [J0,Nf]
  ·have hne:limN (n / 1000000000)≠[]:=by rw [Ne,limN_nil];omega
   rw [Pd hne,ih _ (by omega) (by omega),Aeh 9 n (by omega),Nf]
   congr 1
   exact (Y7 8 _ (by omega)).symm
theorem text_dec (n:Int):Pc (decide (n<0)) (limN n.natAbs)=Lib.itoa n:=by
 unfold Pc
 by_cases h:n=0
 ·subst h;rw [if_pos (by rw [Int.natAbs_zero,limN_zero]),show (0:Int)=((0:Nat):Int) from rfl,Nf,N4 (by decide)];rfl
 ·rw [if_neg (by rw [limN_nil];omega),txt_dec _ (by omega)]
  unfold Lib.itoa
  by_cases hn:n<0
  ·rw [decide_eq_true hn,if_pos rfl,if_pos hn];rfl
  ·rw [decide_eq_false hn,if_neg (by simp),if_neg hn,show n.natAbs=n.toNat by omega];rfl
def Aj1:ByteArray:=⟨#[47]⟩
def fcT (p:Fr):ByteArray:=if p.2=1 then Y5 p.1 else Y5 p.1++Aj1++Y5 p.2
theorem Wz (n:Int) (hl:(limN n.natAbs).length<=1000000):Aw 64 [whI n] ⟨[],[]⟩ (.ret (Fi (Y5 n))) ⟨[],[]⟩:=by
 have h:=Abe (decide (n<0)) (limN n.natAbs) hl (limN_ok _)
 rw [text_dec] at h
 exact h
theorem Aef {n:Int} {k:Nat} (h:Lim k n.natAbs):(Y5 n).size<=9*k+2:=by
 have h1:n.natAbs<10 ^ (9*k+1):=by
  unfold Lim at h
  rw [show (1000000000:Nat)=10 ^ 9 by rfl,<- Nat.pow_mul] at h
  exact Nat.lt_of_lt_of_le h (Nat.pow_le_pow_right (by decide) (by omega))
 have h2:=Hm (9*k) n.natAbs h1
 unfold Y5 Lib.itoa
 split
 ·show (45::Lib.decDigits n.natAbs).length<=_
  simp;omega
 ·rename_i h3
  show (Lib.decDigits n.toNat).length<=_
  rw [show n.toNat=n.natAbs by omega];omega
theorem ntext_do {p:Fr} {k:Nat} (hp:Fit k p) (hk:k<=1000):Aw 30 [fcP p] ⟨[],[]⟩ (.ret (Fi (fcT p))) ⟨[],[]⟩:=by
 obtain ⟨n,d⟩:=p
 obtain ⟨e,rfl⟩:∃ e:Nat,d=e:=⟨d.toNat,by have:=hp.red.1;simp only at this;omega⟩
 have hd:0<e:=by have:=hp.red.1;simp only at this;omega
 have h1:=Agd n e hd
 have hl1:(limN n.natAbs).length<=k:=hp.num.len
 have hl2:(limN (e:Int).natAbs).length<=k:=hp.den.len
 have h2:=Wz n (by omega)
 have h3:=Wz (e:Int) (by omega)
 have z1:=Aef hp.num
 have z2:=Aef hp.den
 simp only at z1 z2
 unfold fcT
 dsimp only [fcP]
 unfold Ou at h1 |-
 by_cases he:e=1
 ·rw [decide_eq_true he] at h1
  rw [if_pos (by rw [he];rfl)]
  refine Af Tryz.func30 rfl rfl (Nat.le_of_ble_eq_true rfl) rfl (Nat.le_refl _) ?_
  repeat' (first|refine rl0 ?_|refine rs0 ?_ ?_<;>intro h|fail)
  refine wp1 h1 ?_
  repeat' (first|refine rl0 ?_|refine rs0 ?_ ?_<;>intro h|fail)
  refine wp1 h2 ?_
  repeat' (first|refine rl0 ?_|refine rs0 ?_ ?_<;>intro h|fail)
  rfl
 ·rw [decide_eq_false he] at h1
  rw [if_neg (by omega)]
  refine Af Tryz.func30 rfl rfl (Nat.le_of_ble_eq_true rfl) rfl (Nat.le_refl _) ?_
  repeat' (first|refine rl0 ?_|refine rs0 ?_ ?_<;>intro h|fail)
  refine wp1 h1 ?_
  repeat' (first|refine rl0 ?_|refine rs0 ?_ ?_<;>intro h|fail)
  refine wp1n h2 ?_
  repeat' (first|refine rl0 ?_|refine rs0 ?_ ?_<;>intro h|fail)
  refine waf rfl rfl (fun _ _=>rfl) (by show (Y5 n).size+1<=_;omega) ?_
  repeat' (first|refine rl0 ?_|refine rs0 ?_ ?_<;>intro h|fail)
  refine wp1n h3 ?_
  repeat' (first|refine rl0 ?_|refine rs0 ?_ ?_<;>intro h|fail)
  refine waf rfl rfl (fun _ _=>rfl) (by show (Y5 n++Aj1:ByteArray).size+(Y5 (e:Int)).size<=_;rw [ByteArray.size_append];show (Y5 n).size+1+_<=_;omega) ?_
  repeat' (first|refine rl0 ?_|refine rs0 ?_ ?_<;>intro h|fail)
  rfl
def evR (vars:List ByteArray) (vals:List Int) (x:Ex):(Int×ByteArray×Bool)×Int :=
 if Bp x≠0 then ((0,⟨#[]⟩,false),Bp x)
 else if vars.length≠vals.length\/E8 vars vals=false then ((0,⟨#[]⟩,false),2)
 else if A6 vars x=0 then ((0,⟨#[]⟩,false),351)
 else match evX vars vals x with
  |none=>((0,⟨#[]⟩,false),2)
  |some r=>if A6 vars x=2 then ((2,⟨#[]⟩,r.2),0) else ((1,fcT r.1,false),0)
@[reducible] def vrP (r:Int×ByteArray×Bool):PV:=vlP r.1 r.2.1 r.2.2
theorem kind_12 (vars:List ByteArray):∀ x:Ex,Good x->A6 vars x=0\/A6 vars x=1\/A6 vars x=2:=by
 have hz:∀ o,isZ o=1\/isZ o=2:=fun o=>by unfold isZ;split<;>omega
 intro x hx
 induction hx with
 |num n _ _=>exact .inr (.inl rfl)
 |name s _ =>
  rw [A6];split
  ·exact .inl rfl
  ·rw [if_neg (by omega)];split
   ·exact .inr (hz _)
   ·exact .inl rfl
 |yes=>exact .inr (.inr rfl)
 |no=>exact .inr (.inr rfl)
 |neg a _ ih =>
  rw [Gt,if_neg (by omega),if_neg (by omega)];split
  ·exact .inr (hz _)
  ·exact .inl rfl
 |not a _ ih =>
  rw [Gt,if_neg (by omega),if_neg (by omega)];split
  ·exact .inr (hz _)
  ·exact .inl rfl
 |bin o a b h1 h2 _ _ _ _ =>
  rw [Gt,if_neg (by omega),if_neg (by omega)];split
  ·exact .inr (hz _)
  ·exact .inl rfl
 |ite a b c _ _ _ _ ihb _ =>
  rw [Gt,if_neg (by omega),if_pos rfl,Bm,Bm,Bm,Bm]
  dsimp only
  split
  ·exact .inl rfl
  ·exact ihb
theorem Ach {vars:List ByteArray} {vals:List Int} (hl:vars.length=vals.length) (h:E8 vars vals=true):∀ v∈vals,-9999<=v/\v<=9999:=by
 intro v hv
 obtain ⟨i,hi,rfl⟩:=List.getElem_of_mem hv
 have h1:=List.all_eq_true.1 h i (List.mem_range.2 (by omega))
 unfold Iv at h1
 simp only [Bool.and_eq_true,decide_eq_true_eq] at h1
 have e:vals.getD i 0=vals[i]:=by rw [List.getD_eq_getElem?_getD,List.getElem?_eq_getElem hi];rfl
 rw [e] at h1
 exact ⟨h1.1.2,h1.2⟩
theorem Aio (x:Ex) (vars:List ByteArray) (vals:List Int) (hs:x.small):Aw 10 [exP x,Db vars,Dv vals] ⟨[],[]⟩ (.ret (.tup [vrP (evR vars vals x).1,An (evR vars vals x).2])) ⟨[],[]⟩:=by
 unfold evR
 by_cases hc:Bp x=0
 rotate_left
 ·rw [if_pos hc];exact eval_bad x vars vals hs hc
 rw [if_neg (fun h=>h hc)]
 by_cases ha:vars.length≠vals.length\/E8 vars vals=false
 ·rw [if_pos ha];exact Uf x vars vals hs hc ha
 rw [if_neg ha]
 simp only [not_or,Decidable.not_not,Bool.not_eq_false] at ha
 obtain ⟨hl,hr⟩:=ha
 by_cases hk:A6 vars x=0
 ·rw [if_pos hk];exact Aeu x vars vals hs hc hl hr hk
 rw [if_neg hk]
 have hgx:=Abo hc
 have hvr:=Ach hl hr
 have hv:Yz vals:=fun v hv=>by have:=hvr v hv;omega
 have hnod:=Xf hc
 have he:=eval_do vars vals hl hv _ x (Nat.le_refl _) hgx hk hnod
 have hki:=Rb hv hgx hk
 cases e:evX vars vals x with
 |none =>
  rw [e] at he
  exact Zh x vars vals hs hc hl hr hk he
 |some r =>
  rw [e] at he
  obtain ⟨k1,k2⟩:=hki r e
  dsimp only
  rcases kind_12 vars x hgx with h|h|h
  ·exact absurd h hk
  ·rw [if_neg (by omega)]
   exact Zi x vars vals hs hc hl hr h _ _ _ _ _ _ he (ntext_do (k1 h).1 (by omega))
  ·rw [if_pos h]
   exact P3 x vars vals hs hc hl hr h _ _ _ _ _ he
theorem Ah9 (n:Int):Aw 134 [Fi (Y5 n)] ⟨[],[]⟩ (.ret (At (decide (n<0)))) ⟨[],[]⟩:=by
 obtain ⟨t,ht⟩:∃ t,t=Lib.decDigits n.natAbs:=⟨_,rfl⟩
 have hdig:∀ c∈t,Aj4 c:=by rw [ht];exact Aje _
 have hne:t≠[]:=by rw [ht];exact Aju _
 by_cases hn:n<0
 ·have e:Y5 n=Aix (45::t):=by unfold Y5 Lib.itoa;rw [if_pos hn,<- ht];rfl
  rw [e,decide_eq_true hn]
  refine Af Tryz.func134 rfl rfl (Nat.le_of_ble_eq_true rfl) rfl (Nat.le_refl _) ?_
  repeat' (first|refine rl0 ?_|refine rs0 ?_ ?_<;>intro h|fail)
  refine wst rfl rfl ⟨by omega,by show (0:Int)<((45::t).length:Int);simp⟩ ?_
  repeat' (first|refine rl0 ?_|refine rs0 ?_ ?_<;>intro h|fail)
  rfl
 ·have e:Y5 n=Aix t:=by unfold Y5 Lib.itoa;rw [if_neg hn,ht,show n.toNat=n.natAbs by omega];rfl
  rw [e,decide_eq_false hn]
  obtain ⟨c,r,rfl⟩:=List.exists_cons_of_ne_nil hne
  have h2:=(hdig c List.mem_cons_self).1
  refine Af Tryz.func134 rfl rfl (Nat.le_of_ble_eq_true rfl) rfl (Nat.le_refl _) ?_
  repeat' (first|refine rl0 ?_|refine rs0 ?_ ?_<;>intro h|fail)
  refine wst rfl rfl ⟨by omega,by show (0:Int)<((c::r).length:Int);simp⟩ ?_
  repeat' (first|refine rl0 ?_|refine rs0 ?_ ?_<;>intro h|fail)
  exact congrArg (fun b=>PV.d (.v (.bool b))) (decide_eq_false (by show ¬ ((c.toNat:Int)=45);omega))
theorem Aic (n:Int):(D4.limN n.natAbs).length<=(Y5 n).size:=by
 have h1:(Lib.decDigits n.natAbs).length<=(Y5 n).size:=by
  show _<=(Lib.itoa n).length
  unfold Lib.itoa;split
  ·simp
  ·rw [show n.toNat=n.natAbs by omega];exact Nat.le_refl _
 exact Ank (Nat.lt_of_lt_of_le (Am6 h1) (Nat.pow_le_pow_left (by decide) _))
theorem Ait {n:Int} (h:n≠0):Y5 n≠⟨#[48]⟩:=by
 intro e
 have e2:(Y5 n).data.toList=[48]:=by rw [e]
 have e3:Lib.itoa n=[48]:=by simpa [Y5] using e2
 unfold Lib.itoa at e3
 split at e3
 ·simp at e3
 ·obtain ⟨c,r,h1,h2⟩:=dec_head (n:=n.toNat) (by omega)
  rw [h1] at e3
  injection e3 with e4 _
  exact h2 e4
def sgZ (n:Int):Int:=if n=0 then 0 else if n<0 then -1 else 1
theorem Aiv (n:Int):Aw 130 [Fi (Y5 n)] ⟨[],[]⟩ (.ret (An (sgZ n))) ⟨[],[]⟩:=by
 by_cases h0:n=0
 ·subst h0
  rw [Ak4]
  refine Af Tryz.func130 rfl rfl (Nat.le_of_ble_eq_true rfl) rfl (Nat.le_refl _) ?_
  repeat' (first|refine rl0 ?_|refine rs0 ?_ ?_<;>intro h|fail)
  rfl
 ·have hb:decide (Y5 n=⟨#[48]⟩)=false:=decide_eq_false (Ait h0)
  have hs:=Ah9 n
  by_cases hn:n<0
  ·rw [decide_eq_true hn] at hs
   rw [show sgZ n = -1 by unfold sgZ;rw [if_neg h0,if_pos hn]]
   refine Af Tryz.func130 rfl rfl (Nat.le_of_ble_eq_true rfl) rfl (Nat.le_refl _) ?_
   repeat' (first|refine rl3 ?_|refine rs3 ?_ ?_<;>intro h|fail)
   ·exact absurd (of_decide_eq_true h) (Ait h0)
   ·refine wp1 hs ?_
    repeat' (first|refine rl0 ?_|refine rs0 ?_ ?_<;>intro h|fail)
    rfl
  ·rw [decide_eq_false hn] at hs
   rw [show sgZ n=1 by unfold sgZ;rw [if_neg h0,if_neg hn]]
   refine Af Tryz.func130 rfl rfl (Nat.le_of_ble_eq_true rfl) rfl (Nat.le_refl _) ?_
   repeat' (first|refine rl3 ?_|refine rs3 ?_ ?_<;>intro h|fail)
   ·exact absurd (of_decide_eq_true h) (Ait h0)
   ·refine wp1 hs ?_
    repeat' (first|refine rl0 ?_|refine rs0 ?_ ?_<;>intro h|fail)
    rfl
theorem Alj (n:Int) (hz:(Y5 n).size<=1000000):Aw 99 [Fi (Y5 n)] ⟨[],[]⟩ (.ret (Fi (Y5 (-n)))) ⟨[],[]⟩:=by
 have hl:=Aic n
 have e:sgI (!decide (n<0)) n.natAbs = -n:=by
  unfold sgI
  by_cases h:n<0
  ·rw [decide_eq_true h];simp;omega
  ·rw [decide_eq_false h];simp;omega
 refine Af Tryz.func99 rfl rfl (Nat.le_of_ble_eq_true rfl) rfl (Nat.le_refl _) ?_
 repeat' (first|refine rl0 ?_|refine rs0 ?_ ?_<;>intro h|fail)
 refine wp1 (Ah9 n) ?_
 repeat' (first|refine rl0 ?_|refine rs0 ?_ ?_<;>intro h|fail)
 refine wp1 (Aib n (by omega)) ?_
 repeat' (first|refine rl0 ?_|refine rs0 ?_ ?_<;>intro h|fail)
 refine wp1 (Aim (!decide (n<0)) n.natAbs (by omega)) ?_
 rw [e]
 repeat' (first|refine rl0 ?_|refine rs0 ?_ ?_<;>intro h|fail)
 rfl
theorem cmp_less {n m:Int} (h:n<m):Cx n m = -1:=if_pos h
theorem cmp_more {n m:Int} (h:m<n):Cx n m=1:=by unfold Cx;rw [if_neg (by omega),if_pos h]
theorem Alu {n m a b:Int} (h1:n<m<->a<b) (h2:m<n<->b<a):Cx n m=Cx a b:=by
 unfold Cx
 by_cases h:n<m
 ·rw [if_pos h,if_pos (h1.1 h)]
 ·rw [if_neg h,if_neg (fun x=>h (h1.2 x))]
  by_cases k:m<n
  ·rw [if_pos k,if_pos (h2.1 k)]
  ·rw [if_neg k,if_neg (fun x=>k (h2.2 x))]
theorem dCmp_do (n m:Int) (hz:(Y5 n).size<=1000000) (hy:(Y5 m).size<=1000000):Aw 136 [Fi (Y5 n),Fi (Y5 m)] ⟨[],[]⟩ (.ret (An (Cx n m))) ⟨[],[]⟩:=by
 have hl:=Aic n
 have hk:=Aic m
 refine Af Tryz.func136 rfl rfl (Nat.le_of_ble_eq_true rfl) rfl (Nat.le_refl _) ?_
 repeat' (first|refine rl3 ?_|refine rs3 ?_ ?_<;>intro h|fail)
 refine wp1 (Aiv n) ?_
 repeat' (first|refine rl3 ?_|refine rs3 ?_ ?_<;>intro h|fail)
 refine wp1 (Aiv m) ?_
 repeat' (first|refine rl3 ?_|refine rs3 ?_ ?_<;>intro h|fail)
 ·have h1:sgZ n≠sgZ m:=by simpa using h
  refine wp1 (Aiv n) ?_
  repeat' (first|refine rl3 ?_|refine rs3 ?_ ?_<;>intro h|fail)
  refine wp1 (Aiv m) ?_
  repeat' (first|refine rl3 ?_|refine rs3 ?_ ?_<;>intro h|fail)
  ·have h2:=of_decide_eq_true h
   exact congrArg An (cmp_less (by unfold sgZ at h2;split at h2<;>split at h2<;>(try split at h2)<;>(try split at h2)<;>omega)).symm
  ·have h2:=of_decide_eq_false h
   exact congrArg An (cmp_more (by unfold sgZ at h1 h2;split at h2<;>split at h2<;>(try split at h2)<;>(try split at h2)<;>omega)).symm
 ·have h1:sgZ n=sgZ m:=by simpa using h
  refine wp1 (Ah9 n) ?_
  repeat' (first|refine rl3 ?_|refine rs3 ?_ ?_<;>intro h|fail)
  ·have h2:=of_decide_eq_true h
   refine wp1 (Aib m (by omega)) ?_
   repeat' (first|refine rl3 ?_|refine rs3 ?_ ?_<;>intro h|fail)
   refine wp1 (Aib n (by omega)) ?_
   repeat' (first|refine rl3 ?_|refine rs3 ?_ ?_<;>intro h|fail)
   refine wp1 (Akm m.natAbs n.natAbs) ?_
   repeat' (first|refine rl3 ?_|refine rs3 ?_ ?_<;>intro h|fail)
   exact congrArg An (Alu (by have hm:m<0:=(by unfold sgZ at h1;split at h1<;>split at h1<;>(try split at h1)<;>(try split at h1)<;>omega);omega) (by have hm:m<0:=(by unfold sgZ at h1;split at h1<;>split at h1<;>(try split at h1)<;>(try split at h1)<;>omega);omega))
  ·have h2:=of_decide_eq_false h
   refine wp1 (Aib n (by omega)) ?_
   repeat' (first|refine rl3 ?_|refine rs3 ?_ ?_<;>intro h|fail)
   refine wp1 (Aib m (by omega)) ?_
   repeat' (first|refine rl3 ?_|refine rs3 ?_ ?_<;>intro h|fail)
   refine wp1 (Akm n.natAbs m.natAbs) ?_
   repeat' (first|refine rl3 ?_|refine rs3 ?_ ?_<;>intro h|fail)
   exact congrArg An (Alu (by have hm:¬ m<0:=(by unfold sgZ at h1;split at h1<;>split at h1<;>(try split at h1)<;>(try split at h1)<;>omega);omega) (by have hm:¬ m<0:=(by unfold sgZ at h1;split at h1<;>split at h1<;>(try split at h1)<;>(try split at h1)<;>omega);omega))
theorem Alv:∀ (l:List UInt8) (acc:Nat),(∀ c∈l,Aj4 c)->Lib.decFrom acc l=some (Ai3 l acc)
 |[],acc,_=>rfl
 |b::r,acc,h=>by
  have h1:=h b List.mem_cons_self
  rw [Lib.decFrom,Lib.digitVal,if_pos (show 48<=b.toNat/\b.toNat<=57 from h1)]
  simp only []
  rw [Alv r _ fun c hc=>h c (List.mem_cons_of_mem _ hc),Nat.mul_comm acc 10];rfl
theorem Ajq (n:Int):Lib.atoi (Y5 n).data.toList=some n:=by
 have hN:∀ m:Nat,Lib.decNat (Lib.decDigits m)=some m:=fun m=>by
  unfold Lib.decNat
  have hne:=Aju m
  rw [Alv _ _ (Aje m),Ako]
  cases h:Lib.decDigits m with
  |nil=>exact absurd h hne
  |cons b r=>rfl
 show Lib.atoi (Lib.itoa n)=some n
 unfold Lib.itoa
 split
 ·show (Lib.decNat (Lib.decDigits n.natAbs)).map _=_
  rw [hN]
  show some (-(n.natAbs:Int))=some n
  congr 1;omega
 ·have h1:=hN n.toNat
  have hd:=Aje n.toNat
  cases h:Lib.decDigits n.toNat with
  |nil=>exact absurd h (Aju _)
  |cons b r =>
   rw [h] at h1 hd
   have h4:=(hd b List.mem_cons_self).1
   have e1:(b==45)=false:=by rw [beq_eq_false_iff_ne];rintro rfl;simp at h4
   have e2:(b==43)=false:=by rw [beq_eq_false_iff_ne];rintro rfl;simp at h4
   simp only [Lib.atoi,e1,e2,Bool.false_eq_true,if_false]
   rw [h1]
   show some ((n.toNat:Nat):Int)=some n
   congr 1;omega
theorem Aif {n:Int} (h:(Y5 n).size<=9):n.natAbs<1000000000:=by
 have h1:(Lib.decDigits n.natAbs).length<=9:=by
  refine Nat.le_trans ?_ h
  show _<=(Lib.itoa n).length
  unfold Lib.itoa;split
  ·simp
  ·rw [show n.toNat=n.natAbs by omega];exact Nat.le_refl _
 exact Am6 h1
theorem Ajs (n:Int) (h0 : -9223372036854775808<=n) (h1:n<=9223372036854775807):Aw 97 [An n] ⟨[],[]⟩ (.ret (Fi (Y5 n))) ⟨[],[]⟩:=by
 refine Af Tryz.func97 rfl rfl (Nat.le_of_ble_eq_true rfl) rfl (Nat.le_refl _) ?_
 repeat' (first|refine rl0 ?_|refine rs0 ?_ ?_<;>intro h|fail)
 refine wp1 (Anj n h0 h1) ?_
 repeat' (first|refine rl0 ?_|refine rs0 ?_ ?_<;>intro h|fail)
 rfl
theorem Aiu (n m:Int) (hn:(Y5 n).size<=9) (hm:(Y5 m).size<=9):Aw 160 [Fi (Y5 n),Fi (Y5 m)] ⟨[],[]⟩ (.ret (.tup [An n,An m,At true])) ⟨[],[]⟩:=by
 have an:=Alh (Y5 n) n (by omega) (Ajq n)
 have am:=Alh (Y5 m) m (by omega) (Ajq m)
 refine Af Tryz.func160 rfl rfl (Nat.le_of_ble_eq_true rfl) rfl (Nat.le_refl _) ?_
 repeat' (first|refine rl3 ?_|refine rs3 ?_ ?_<;>intro h|fail)
 ·exfalso;have:=of_decide_eq_true h;omega
 ·exfalso;have:=of_decide_eq_true h;omega
 refine wp1 an ?_
 repeat' (first|refine rl3 ?_|refine rs3 ?_ ?_<;>intro h|fail)
 refine wp1 am ?_
 repeat' (first|refine rl0 ?_|refine rs0 ?_ ?_<;>intro h|fail)
 rfl
theorem Ai2 (n m:Int) (hz:¬ ((Y5 n).size<=9/\(Y5 m).size<=9)):Aw 160 [Fi (Y5 n),Fi (Y5 m)] ⟨[],[]⟩ (.ret (.tup [An 0,An 0,At false])) ⟨[],[]⟩:=by
 refine Af Tryz.func160 rfl rfl (Nat.le_of_ble_eq_true rfl) rfl (Nat.le_refl _) ?_
 repeat' (first|refine rl3 ?_|refine rs3 ?_ ?_<;>intro h|fail)
 ·rfl
 ·rfl
 ·exfalso;rename_i h';have h1:=of_decide_eq_false h';have h2:=of_decide_eq_false h;omega
theorem cmp_ge (x y:Int):0<=Cx x y<->y<=x:=by unfold Cx;split<;>(try split)<;>omega
theorem sg_sum {n m:Int} (h:n<0<->m<0):sgI (decide (n<0)) (n.natAbs+m.natAbs)=n+m:=by
 unfold sgI
 by_cases h1:n<0
 ·rw [decide_eq_true h1];simp;omega
 ·rw [decide_eq_false h1];simp;omega
theorem sg_dif {n m:Int} (h:¬ (n<0<->m<0)) (hle:m.natAbs<=n.natAbs):sgI (decide (n<0)) (n.natAbs-m.natAbs)=n+m:=by
 unfold sgI
 by_cases h1:n<0
 ·rw [decide_eq_true h1];simp;omega
 ·rw [decide_eq_false h1];simp;omega
theorem Alm {k x:Nat} (h:Lim k x) (hk:k<=100000):(D4.limN x).length<=1000000:=by
 have h1:=Aic (x:Int)
 have h2:=Aef (n:=(x:Int)) h
 rw [Int.natAbs_natCast] at h1;omega
theorem Akl (n m:Int) {k:Nat} (hn:Lim k n.natAbs) (hm:Lim k m.natAbs) (hk:k<=10000):Aw 138 [Fi (Y5 n),Fi (Y5 m)] ⟨[],[]⟩ (.ret (Fi (Y5 (n+m)))) ⟨[],[]⟩:=by
 have sn:=Aef hn
 have sm:=Aef hm
 have ln:=Aic n
 have lm:=Aic m
 have hs:=Aic ((n.natAbs+m.natAbs:Nat):Int)
 have ss:=Aef (n:=((n.natAbs+m.natAbs:Nat):Int)) (hn.add hm)
 rw [Int.natAbs_natCast] at hs
 by_cases hb:(Y5 n).size<=9/\(Y5 m).size<=9
 ·have bn:=Aif hb.1
  have bm:=Aif hb.2
  refine Af Tryz.func138 rfl rfl (Nat.le_of_ble_eq_true rfl) rfl (Nat.le_refl _) ?_
  repeat' (first|refine rl0 ?_|refine rs0 ?_ ?_<;>intro h|fail)
  refine wp1 (Aiu n m hb.1 hb.2) ?_
  repeat' (first|refine rl0 ?_|refine rs0 ?_ ?_<;>intro h|fail)
  refine wp1 (Ajs (n+m) (by omega) (by omega)) ?_
  repeat' (first|refine rl0 ?_|refine rs0 ?_ ?_<;>intro h|fail)
  rfl
 ·refine Af Tryz.func138 rfl rfl (Nat.le_of_ble_eq_true rfl) rfl (Nat.le_refl _) ?_
  repeat' (first|refine rl3 ?_|refine rs3 ?_ ?_<;>intro h|fail)
  refine wp1 (Ai2 n m hb) ?_
  repeat' (first|refine rl3 ?_|refine rs3 ?_ ?_<;>intro h|fail)
  refine wp1 (Aib n (by omega)) ?_
  repeat' (first|refine rl3 ?_|refine rs3 ?_ ?_<;>intro h|fail)
  refine wp1 (Aib m (by omega)) ?_
  repeat' (first|refine rl3 ?_|refine rs3 ?_ ?_<;>intro h|fail)
  refine wp1 (Ah9 n) ?_
  repeat' (first|refine rl3 ?_|refine rs3 ?_ ?_<;>intro h|fail)
  refine wp1 (Ah9 m) ?_
  repeat' (first|refine rl3 ?_|refine rs3 ?_ ?_<;>intro h|fail)
  ·have h1:(n<0<->m<0):=by simpa using h
   refine wp1 (Ah9 n) ?_
   repeat' (first|refine rl3 ?_|refine rs3 ?_ ?_<;>intro h|fail)
   refine wp1 (dplus_do n.natAbs m.natAbs (by omega)) ?_
   repeat' (first|refine rl3 ?_|refine rs3 ?_ ?_<;>intro h|fail)
   refine wp1 (Aim (decide (n<0)) (n.natAbs+m.natAbs) (by omega)) ?_
   repeat' (first|refine rl3 ?_|refine rs3 ?_ ?_<;>intro h|fail)
   exact congrArg (fun z=>Fi (Y5 z)) (sg_sum h1)
  ·have h1:¬ (n<0<->m<0):=by simpa using h
   refine wp1 (Akm n.natAbs m.natAbs) ?_
   repeat' (first|refine rl3 ?_|refine rs3 ?_ ?_<;>intro h|fail)
   ·have h2:=(cmp_ge _ _).1 (of_decide_eq_true h)
    refine wp1 (Ah9 n) ?_
    repeat' (first|refine rl3 ?_|refine rs3 ?_ ?_<;>intro h|fail)
    refine wp1 (Ajw n.natAbs m.natAbs (by omega) (by omega)) ?_
    repeat' (first|refine rl3 ?_|refine rs3 ?_ ?_<;>intro h|fail)
    refine wp1 (Aim (decide (n<0)) (n.natAbs-m.natAbs) (Alm (hn.le (Nat.sub_le _ _)) (by omega))) ?_
    repeat' (first|refine rl3 ?_|refine rs3 ?_ ?_<;>intro h|fail)
    exact congrArg (fun z=>Fi (Y5 z)) (sg_dif h1 (by omega))
   ·have h2:¬ (m.natAbs:Int)<=n.natAbs:=fun x=>of_decide_eq_false h ((cmp_ge _ _).2 x)
    refine wp1 (Ah9 m) ?_
    repeat' (first|refine rl3 ?_|refine rs3 ?_ ?_<;>intro h|fail)
    refine wp1 (Ajw m.natAbs n.natAbs (by omega) (by omega)) ?_
    repeat' (first|refine rl3 ?_|refine rs3 ?_ ?_<;>intro h|fail)
    refine wp1 (Aim (decide (m<0)) (m.natAbs-n.natAbs) (Alm (hm.le (Nat.sub_le _ _)) (by omega))) ?_
    repeat' (first|refine rl3 ?_|refine rs3 ?_ ?_<;>intro h|fail)
    exact congrArg (fun z=>Fi (Y5 z)) ((sg_dif (fun e=>h1 e.symm) (by omega)).trans (Int.add_comm _ _))
theorem dSub_do (n m:Int) {k:Nat} (hn:Lim k n.natAbs) (hm:Lim k m.natAbs) (hk:k<=10000):Aw 162 [Fi (Y5 n),Fi (Y5 m)] ⟨[],[]⟩ (.ret (Fi (Y5 (n-m)))) ⟨[],[]⟩:=by
 have sm:=Aef hm
 have h:=Akl n (-m) hn (by rw [Int.natAbs_neg];exact hm) hk
 refine Af Tryz.func162 rfl rfl (Nat.le_of_ble_eq_true rfl) rfl (Nat.le_refl _) ?_
 repeat' (first|refine rl3 ?_|refine rs3 ?_ ?_<;>intro h|fail)
 refine wp1 (Alj m (by omega)) ?_
 repeat' (first|refine rl3 ?_|refine rs3 ?_ ?_<;>intro h|fail)
 refine wp1 h ?_
 repeat' (first|refine rl0 ?_|refine rs0 ?_ ?_<;>intro h|fail)
 rfl
theorem sg_mul (n m:Int):sgI (!decide (decide (n<0)=decide (m<0))) (n.natAbs*m.natAbs)=n*m:=by
 unfold sgI
 rw [<- Int.natAbs_mul]
 by_cases h1:n<0
 ·by_cases h2:m<0
  ·have:=Int.mul_pos_of_neg_of_neg h1 h2
   simp [h1,h2];omega
  ·have:=Int.mul_nonpos_of_nonpos_of_nonneg (Int.le_of_lt h1) (Int.not_lt.1 h2)
   simp [h1,h2];omega
 ·by_cases h2:m<0
  ·have:=Int.mul_nonpos_of_nonneg_of_nonpos (Int.not_lt.1 h1) (Int.le_of_lt h2)
   simp [h1,h2];omega
  ·have:=Int.mul_nonneg (Int.not_lt.1 h1) (Int.not_lt.1 h2)
   simp [h1,h2];omega
theorem Aig (n m:Int) {j k:Nat} (hn:Lim j n.natAbs) (hm:Lim k m.natAbs) (hj:j<=10000) (hk:k<=10000):Aw 137 [Fi (Y5 n),Fi (Y5 m)] ⟨[],[]⟩ (.ret (Fi (Y5 (n*m)))) ⟨[],[]⟩:=by
 have sn:=Aef hn
 have sm:=Aef hm
 have ln:=Alm hn (by omega)
 have lm:=Alm hm (by omega)
 have lp:=Alm (hn.mul hm) (by omega)
 by_cases hb:(Y5 n).size<=9/\(Y5 m).size<=9
 ·have bn:=Aif hb.1
  have bm:=Aif hb.2
  have bp:(n*m).natAbs<=1000000000*1000000000:=by rw [Int.natAbs_mul];exact Nat.mul_le_mul (by omega) (by omega)
  refine Af Tryz.func137 rfl rfl (Nat.le_of_ble_eq_true rfl) rfl (Nat.le_refl _) ?_
  repeat' (first|refine rl0 ?_|refine rs0 ?_ ?_<;>intro h|fail)
  refine wp1 (Aiu n m hb.1 hb.2) ?_
  repeat' (first|refine rl0 ?_|refine rs0 ?_ ?_<;>intro h|fail)
  refine wp1 (Ajs (n*m) (by omega) (by omega)) ?_
  repeat' (first|refine rl0 ?_|refine rs0 ?_ ?_<;>intro h|fail)
  rfl
 ·refine Af Tryz.func137 rfl rfl (Nat.le_of_ble_eq_true rfl) rfl (Nat.le_refl _) ?_
  repeat' (first|refine rl3 ?_|refine rs3 ?_ ?_<;>intro h|fail)
  refine wp1 (Ai2 n m hb) ?_
  repeat' (first|refine rl3 ?_|refine rs3 ?_ ?_<;>intro h|fail)
  refine wp1 (Ah9 n) ?_
  repeat' (first|refine rl3 ?_|refine rs3 ?_ ?_<;>intro h|fail)
  refine wp1 (Ah9 m) ?_
  repeat' (first|refine rl3 ?_|refine rs3 ?_ ?_<;>intro h|fail)
  refine wp1 (Aib n (by omega)) ?_
  repeat' (first|refine rl3 ?_|refine rs3 ?_ ?_<;>intro h|fail)
  refine wp1 (Aib m (by omega)) ?_
  repeat' (first|refine rl3 ?_|refine rs3 ?_ ?_<;>intro h|fail)
  refine wp1 (Am9 n.natAbs m.natAbs ln lm) ?_
  repeat' (first|refine rl3 ?_|refine rs3 ?_ ?_<;>intro h|fail)
  refine wp1 (Aim (!decide (decide (n<0)=decide (m<0))) (n.natAbs*m.natAbs) lp) ?_
  repeat' (first|refine rl3 ?_|refine rs3 ?_ ?_<;>intro h|fail)
  exact congrArg (fun z=>Fi (Y5 z)) (sg_mul n m)
section
variable {N:Nat} {ops:Array Oper} {rest:List Oper} {o:Oper} {F:Nat->PV} {S:PS} {q:WRes->Prop}
theorem wquoT {k:IntKind} {a b:Int} {ty yt:TypeId} {x y:Operand} (hb:b≠0) (kk:WK Tryz.prog N ops rest (Cd N o.dst (.d (.v (.int k (k.wrap (a.tdiv b))))) F) S q) (hg:Al ops F o=some true:=by exact rfl) (ho:o.op = .binOp .quo ty x y yt:=by exact rfl) (hx:evP F x = .d (.v (.int k a)):=by exact rfl) (hy:evP F y = .d (.v (.int k b)):=by exact rfl):WK Tryz.prog N ops (o::rest) F S q:=Eo hg (Al7 ho hx hy hb) kk
end
theorem sg_div (x m:Int) (hm:m≠0):sgI (!decide (decide (x*m<0)=decide (m<0))) ((x*m).natAbs / m.natAbs)=x:=by
 have e:(x*m).natAbs / m.natAbs=x.natAbs:=by rw [Int.natAbs_mul,Nat.mul_div_cancel _ (by omega)]
 rw [e]
 unfold sgI
 rcases Int.lt_trichotomy x 0 with h|h|h
 ·rcases Int.lt_or_gt_of_ne hm with h2|h2
  ·have h3:=Int.mul_pos_of_neg_of_neg h h2
   have h4:¬ x*m<0:=by omega
   simp [h2,h4];omega
  ·have h3:=Int.mul_neg_of_neg_of_pos h h2
   have h4:¬ m<0:=by omega
   simp [h3,h4];omega
 ·subst h
  simp
 ·rcases Int.lt_or_gt_of_ne hm with h2|h2
  ·have h3:=Int.mul_neg_of_pos_of_neg h h2
   simp [h2,h3];omega
  ·have h3:=Int.mul_pos h h2
   have h4:¬ m<0:=by omega
   have h5:¬ x*m<0:=by omega
   simp [h4,h5];omega
theorem Am4 (x m:Int) {k:Nat} (hm0:m≠0) (hx:Lim k (x*m).natAbs) (hm:Lim k m.natAbs) (hk:k<=5000):Aw 131 [Fi (Y5 (x*m)),Fi (Y5 m)] ⟨[],[]⟩ (.ret (.tup [Fi (Y5 x),Fi (Y5 0)])) ⟨[],[]⟩:=by
 have sn:=Aef hx
 have sm:=Aef hm
 have ln:=Aic (x*m)
 have lm:=Aic m
 have hxa:x.natAbs<=(x*m).natAbs:=by rw [Int.natAbs_mul];exact Nat.le_mul_of_pos_right _ (by omega)
 have hxk:Lim k x.natAbs:=hx.le hxa
 have lx:=Alm hxk (by omega)
 by_cases hb:(Y5 (x*m)).size<=9/\(Y5 m).size<=9
 ·have bn:=Aif hb.1
  have bm:=Aif hb.2
  have hq:(x*m).tdiv m=x:=Int.mul_tdiv_cancel x hm0
  have hr:(x*m).tmod m=0:=Int.mul_tmod_left x m
  have hw:IntKind.i64.wrap x=x:=Mg .i64 x (by show -9223372036854775808<=x;omega) (by show x<=9223372036854775807;omega)
  have hc:m*x=x*m:=Int.mul_comm _ _
  refine Af Tryz.func131 rfl rfl (Nat.le_of_ble_eq_true rfl) rfl (Nat.le_refl _) ?_
  repeat' (first|refine rl3 ?_|refine rs3 ?_ ?_<;>intro h|fail)
  refine wp1 (Aiu (x*m) m hb.1 hb.2) ?_
  repeat' (first|refine rl3 ?_|refine rs3 ?_ ?_<;>intro h|fail)
  refine wquoT hm0 ?_
  rw [hq,hw]
  repeat' (first|refine rl3 ?_|refine rs3 ?_ ?_<;>intro h|fail)
  refine Ale hm0 ?_
  rw [hr]
  repeat' (first|refine rl3 ?_|refine rs3 ?_ ?_<;>intro h|fail)
  refine wp1 (Ajs x (by omega) (by omega)) ?_
  repeat' (first|refine rl3 ?_|refine rs3 ?_ ?_<;>intro h|fail)
  refine wp1 (Ajs (x*m-m*x) (by omega) (by omega)) ?_
  rw [hc,Int.sub_self]
  repeat' (first|refine rl3 ?_|refine rs3 ?_ ?_<;>intro h|fail)
  rfl
 ·have ha:=sg_div x m hm0
  have hqa:(x*m).natAbs / m.natAbs=x.natAbs:=by rw [Int.natAbs_mul,Nat.mul_div_cancel _ (by omega)]
  have hra:(x*m).natAbs % m.natAbs=0:=by rw [Int.natAbs_mul,Nat.mul_mod_left]
  have hd:=Aka (x*m).natAbs m.natAbs (by omega) (by omega) (by omega)
  rw [hqa,hra,D4.limN_zero] at hd
  rw [hqa] at ha
  have hs:=dSub_do (x*m) (x*m) hx hx (by omega)
  rw [Int.sub_self] at hs
  refine Af Tryz.func131 rfl rfl (Nat.le_of_ble_eq_true rfl) rfl (Nat.le_refl _) ?_
  repeat' (first|refine rl3 ?_|refine rs3 ?_ ?_<;>intro h|fail)
  refine wp1 (Ai2 (x*m) m hb) ?_
  repeat' (first|refine rl3 ?_|refine rs3 ?_ ?_<;>intro h|fail)
  refine wp1 (Aib (x*m) (by omega)) ?_
  repeat' (first|refine rl3 ?_|refine rs3 ?_ ?_<;>intro h|fail)
  refine wp1 (Aib m (by omega)) ?_
  repeat' (first|refine rl3 ?_|refine rs3 ?_ ?_<;>intro h|fail)
  refine wp1 hd ?_
  repeat' (first|refine rl3 ?_|refine rs3 ?_ ?_<;>intro h|fail)
  refine wp1 (Ah9 (x*m)) ?_
  repeat' (first|refine rl3 ?_|refine rs3 ?_ ?_<;>intro h|fail)
  refine wp1 (Ah9 m) ?_
  repeat' (first|refine rl3 ?_|refine rs3 ?_ ?_<;>intro h|fail)
  refine wp1 (Aim (!decide (decide (x*m<0)=decide (m<0))) x.natAbs lx) ?_
  rw [ha]
  repeat' (first|refine rl3 ?_|refine rs3 ?_ ?_<;>intro h|fail)
  refine wp1 (Aig x m hxk hm (by omega) (by omega)) ?_
  repeat' (first|refine rl3 ?_|refine rs3 ?_ ?_<;>intro h|fail)
  refine wp1 hs ?_
  repeat' (first|refine rl3 ?_|refine rs3 ?_ ?_<;>intro h|fail)
  rfl
theorem len_k2 {k x:Nat} (h:Lim k x) (hk:k<=10000):(D4.limN x).length<=100000:=by
 have h1:=Aic (x:Int)
 have h2:=Aef (n:=(x:Int)) h
 rw [Int.natAbs_natCast] at h1;omega
theorem Am5 (n m:Int) {k:Nat} (hn:Lim k n.natAbs) (hm:Lim k m.natAbs) (hk:k<=10000):Aw 129 [Fi (Y5 n),Fi (Y5 m)] ⟨[],[]⟩ (.ret (Fi (Y5 ((Nat.gcd n.natAbs m.natAbs:Nat):Int)))) ⟨[],[]⟩:=by
 have sn:=Aef hn
 have sm:=Aef hm
 have ln:=Aic n
 have lm:=Aic m
 obtain ⟨G,hG⟩:∃ G,G=Nat.gcd n.natAbs m.natAbs:=⟨_,rfl⟩
 rw [<- hG]
 by_cases hb:(Y5 n).size<=9/\(Y5 m).size<=9
 ·have bn:=Aif hb.1
  have bm:=Aif hb.2
  refine Af Tryz.func129 rfl rfl (Nat.le_of_ble_eq_true rfl) rfl (Nat.le_refl _) ?_
  repeat' (first|refine rl3 ?_|refine rs3 ?_ ?_<;>intro h|fail)
  refine wp1 (Aiu n m hb.1 hb.2) ?_
  repeat' (first|refine rl3 ?_|refine rs3 ?_ ?_<;>intro h|fail)
  refine V8 (ι := Int) (ok:=fun a=>a.natAbs=G/\a.natAbs<1000000000) (L:=fun a=>[(5,An a)]) (Sx:=fun _=>⟨[],[]⟩) ?_ ?_
  ·refine C7 ?_
   refine Ca (ι := Int×Int) (ok:=fun q=>q.1.natAbs<1000000000/\q.2.natAbs<1000000000/\Nat.gcd q.1.natAbs q.2.natAbs=G) (L:=fun q=>[(5,An q.1),(6,An q.2)]) (Sx:=fun _=>⟨[],[]⟩) (μ := fun q=>q.2.natAbs) (n,m) ⟨bn,bm,hG.symm⟩ (by exact (by repeat (first|exact Ag|refine Aa rfl ?_))) rfl ?_
   rintro ⟨a,b⟩ ⟨p1,p2,p3⟩
   dsimp only at p1 p2 p3 |-
   repeat' (first|refine rl3 ?_|refine rs3 ?_ ?_<;>intro h|fail)
   ·have hb0:b≠0:=by simpa using h
    have ht:(a.tmod b).natAbs=a.natAbs % b.natAbs:=Int.natAbs_tmod a b
    have hl:a.natAbs % b.natAbs<b.natAbs:=Nat.mod_lt _ (by omega)
    refine C7 ?_
    repeat' (first|refine rl3 ?_|refine rs3 ?_ ?_<;>intro h|fail)
    refine Ale hb0 ?_
    repeat' (first|refine rl3 ?_|refine rs3 ?_ ?_<;>intro h|fail)
    exact ⟨(b,a.tmod b),⟨p2,by show (a.tmod b).natAbs<_;omega,by show Nat.gcd b.natAbs (a.tmod b).natAbs=G;rw [ht,Nat.gcd_comm,<- Nat.gcd_rec,Nat.gcd_comm];exact p3⟩,by show (a.tmod b).natAbs<b.natAbs;omega,(by repeat (first|exact Ag|refine Aa rfl ?_)),rfl⟩
   ·have hb0:b=0:=by simpa using h
    subst hb0
    exact ⟨a,⟨by rw [<- p3];simp,p1⟩,(by repeat (first|exact Ag|refine Aa rfl ?_)),rfl⟩
  rintro a ⟨h1,h2⟩
  repeat' (first|refine rl3 ?_|refine rs3 ?_ ?_<;>intro h|fail)
  have hmx:(if a < -a then -a else a)=(G:Int):=by split<;>omega
  rw [hmx]
  refine wp1 (Ajs (G:Int) (by omega) (by omega)) ?_
  repeat' (first|refine rl0 ?_|refine rs0 ?_ ?_<;>intro h|fail)
  rfl
 ·refine Af Tryz.func129 rfl rfl (Nat.le_of_ble_eq_true rfl) rfl (Nat.le_refl _) ?_
  repeat' (first|refine rl3 ?_|refine rs3 ?_ ?_<;>intro h|fail)
  refine wp1 (Ai2 n m hb) ?_
  repeat' (first|refine rl3 ?_|refine rs3 ?_ ?_<;>intro h|fail)
  refine wp1 (Aib n (by omega)) ?_
  repeat' (first|refine rl3 ?_|refine rs3 ?_ ?_<;>intro h|fail)
  refine wp1 (Aib m (by omega)) ?_
  repeat' (first|refine rl3 ?_|refine rs3 ?_ ?_<;>intro h|fail)
  refine V8 (ι := Unit) (ok:=fun _=>Lim k G) (L:=fun _=>[(9,Dv (D4.limN G))]) (Sx:=fun _=>⟨[],[]⟩) ?_ ?_
  ·refine C7 ?_
   refine Ca (ι := Nat×Nat) (ok:=fun q=>Lim k q.1/\Lim k q.2/\Nat.gcd q.1 q.2=G) (L:=fun q=>[(9,Dv (D4.limN q.1)),(10,Dv (D4.limN q.2))]) (Sx:=fun _=>⟨[],[]⟩) (μ := fun q=>q.2) (n.natAbs,m.natAbs) ⟨hn,hm,hG.symm⟩ (by exact (by repeat (first|exact Ag|refine Aa rfl ?_))) rfl ?_
   rintro ⟨a,b⟩ ⟨p1,p2,p3⟩
   dsimp only at p1 p2 p3 |-
   have eb:((D4.limN b).map fun n=>[DV.v (.int .i64 n)]).length=(D4.limN b).length:=by simp
   repeat' (first|refine rl3 ?_|refine rs3 ?_ ?_<;>intro h|fail)
   ·have hb0:b≠0:=by
     have h3:=of_decide_eq_true h
     rintro rfl
     rw [eb,D4.limN_zero] at h3;simp at h3
    refine C7 ?_
    repeat' (first|refine rl3 ?_|refine rs3 ?_ ?_<;>intro h|fail)
    refine wp1 (Aka a b (by omega) (len_k2 p1 hk) (len_k2 p2 hk)) ?_
    repeat' (first|refine rl3 ?_|refine rs3 ?_ ?_<;>intro h|fail)
    have hl:a % b<b:=Nat.mod_lt _ (by omega)
    exact ⟨(b,a % b),⟨p2,p2.le (Nat.le_of_lt hl),by show Nat.gcd b (a % b)=G;rw [Nat.gcd_comm,<- Nat.gcd_rec,Nat.gcd_comm];exact p3⟩,hl,(by repeat (first|exact Ag|refine Aa rfl ?_)),rfl⟩
   ·have hb0:b=0:=by
     have h3:=of_decide_eq_false h
     rw [eb] at h3
     exact D4.limN_nil.1 (List.eq_nil_of_length_eq_zero (by omega))
    subst hb0
    rw [Nat.gcd_zero_right] at p3
    subst p3
    exact ⟨(),p1,(by repeat (first|exact Ag|refine Aa rfl ?_)),rfl⟩
  rintro _ h1
  repeat' (first|refine rl3 ?_|refine rs3 ?_ ?_<;>intro h|fail)
  refine wp1 (Aim false G (Alm h1 (by omega))) ?_
  repeat' (first|refine rl0 ?_|refine rs0 ?_ ?_<;>intro h|fail)
  rfl
def oneB:ByteArray:=⟨#[49]⟩
theorem Anf {t:List UInt8} {i:Nat} (h:i<t.length):t.getD i 0∈t:=by
 rw [List.getD_eq_getElem?_getD,List.getElem?_eq_getElem h];exact List.getElem_mem h
theorem u8_47 {c:UInt8} (h:(c.toNat:Int)=47):c=47:=UInt8.toNat_inj.1 (by show c.toNat=47;omega)
theorem Ane {t r:List UInt8} {i:Nat} (h0:(47:UInt8)∉t) (hi:i<=t.length):((t++47::r).getD i 0=47)<->i=t.length:=by
 rcases Nat.lt_or_eq_of_le hi with h|h
 ·have h2:=Anf h
  have e:(t++47::r).getD i 0=t.getD i 0:=by
   rw [List.getD_eq_getElem?_getD,List.getD_eq_getElem?_getD,List.getElem?_append_left h]
  rw [e]
  exact ⟨fun e=>absurd (e▸h2) h0,fun e=>by omega⟩
 ·subst h
  rw [List.getD_eq_getElem?_getD,List.getElem?_append_right (Nat.le_refl _)]
  simp
theorem ext_head (t r:List UInt8):(Aix (t++47::r)).extract 0 t.length=Aix t:=by
 apply ByteArray.ext
 rw [ByteArray.data_extract]
 apply Array.ext'
 simp [Aix]
theorem ext_tail (t r:List UInt8):(Aix (t++47::r)).extract (t.length+1) (t.length+(r.length+1))=Aix r:=by
 apply ByteArray.ext
 rw [ByteArray.data_extract]
 apply Array.ext'
 have e:t++47::r=(t++[47])++r:=by simp
 rw [show Aix (t++47::r)=Aix ((t++[47])++r) by rw [e]]
 simp [Aix]
 rw [show t.length+(r.length+1)-(t.length+1)=r.length by omega,List.take_length]
theorem fcut_no (t:List UInt8) (h0:(47:UInt8)∉t) (hz:t.length<=1000000000):Aw 132 [Fi (Aix t)] ⟨[],[]⟩ (.ret (.tup [Fi (Aix t),Fi oneB,At false])) ⟨[],[]⟩:=by
 have hz0:(Aix t).size=t.length:=rfl
 refine Af Tryz.func132 rfl rfl (Nat.le_of_ble_eq_true rfl) rfl (Nat.le_refl _) ?_
 repeat' (first|refine rl3 ?_|refine rs3 ?_ ?_<;>intro h|fail)
 refine C7 ?_
 refine Ca (ι := Nat) (ok:=fun i=>i<=t.length) (L:=fun i=>[(0,Fi (Aix t)),(5,An (i:Int))]) (Sx:=fun _=>⟨[],[]⟩) (μ := fun i=>t.length-i) 0 (Nat.zero_le _) (by exact (by repeat (first|exact Ag|refine Aa rfl ?_))) rfl ?_
 rintro i hi
 repeat' (first|refine rl3 ?_|refine rs3 ?_ ?_<;>intro h|fail)
 ·have hlt:i<t.length:=by have:=of_decide_eq_true h;omega
  refine C7 ?_
  repeat' (first|refine rl3 ?_|refine rs3 ?_ ?_<;>intro h|fail)
  ·exfalso
   have h1:=of_decide_eq_true h
   have h2:=Anf hlt
   exact h0 ((u8_47 (c:=t.getD i 0) h1)▸h2)
  ·exact ⟨i+1,by omega,by omega,(by repeat (first|exact Ag|refine Aa rfl ?_)),rfl⟩
 ·repeat' (first|refine rl0 ?_|refine rs0 ?_ ?_<;>intro h|fail)
  rfl
theorem fcut_yes (t r:List UInt8) (h0:(47:UInt8)∉t) (hz:t.length+r.length<=1000000000):Aw 132 [Fi (Aix (t++47::r))] ⟨[],[]⟩ (.ret (.tup [Fi (Aix t),Fi (Aix r),At true])) ⟨[],[]⟩:=by
 have hz0:(Aix (t++47::r)).size=t.length+(r.length+1):=by show (t++47::r).length=_;simp
 refine Af Tryz.func132 rfl rfl (Nat.le_of_ble_eq_true rfl) rfl (Nat.le_refl _) ?_
 repeat' (first|refine rl3 ?_|refine rs3 ?_ ?_<;>intro h|fail)
 refine C7 ?_
 refine Ca (ι := Nat) (ok:=fun i=>i<=t.length) (L:=fun i=>[(0,Fi (Aix (t++47::r))),(5,An (i:Int))]) (Sx:=fun _=>⟨[],[]⟩) (μ := fun i=>t.length-i) 0 (Nat.zero_le _) (by exact (by repeat (first|exact Ag|refine Aa rfl ?_))) rfl ?_
 rintro i hi
 repeat' (first|refine rl3 ?_|refine rs3 ?_ ?_<;>intro h|fail)
 ·refine C7 ?_
  repeat' (first|refine rl3 ?_|refine rs3 ?_ ?_<;>intro h|fail)
  ·have h1:=of_decide_eq_true h
   refine Eu chN [] [] rfl (by kernel_rfl) ?_
   repeat' (first|refine rl3 ?_|refine rs3 ?_ ?_<;>intro h|fail)
   obtain rfl:i=t.length:=(Ane h0 hi).1 (u8_47 (c:=(t++47::r).getD i 0) h1)
   have e1:=ext_head t r
   have e2:=ext_tail t r
   rw [show ((t.length:Int)+1).toNat=t.length+1 by omega,hz0,Int.toNat_natCast,Int.toNat_natCast,e2]
   exact congrArg (fun z=>PV.tup [Fi z,Fi (Aix r),At true]) e1
  ·have h1:=of_decide_eq_false h
   have h2:i≠t.length:=fun e=>h1 (by have e3:=(Ane (r:=r) h0 hi).2 e;show (((t++47::r).getD i 0).toNat:Int)=47;rw [e3];rfl)
   exact ⟨i+1,by omega,by omega,(by repeat (first|exact Ag|refine Aa rfl ?_)),rfl⟩
 ·exfalso;have:=of_decide_eq_false h;omega
theorem Ajv (n:Int):(47:UInt8)∉Lib.itoa n:=by
 have hd:∀ m,(47:UInt8)∉Lib.decDigits m:=fun m h=>by have:=(Aje m _ h).1;simp at this
 unfold Lib.itoa
 split
 ·intro h
  rcases List.mem_cons.1 h with h|h
  ·exact absurd h (by decide)
  ·exact hd _ h
 ·exact hd _
theorem fcT_two (n d:Int):Y5 n++Aj1++Y5 d=Aix (Lib.itoa n++47::Lib.itoa d):=by
 apply ByteArray.ext
 rw [ByteArray.data_append,ByteArray.data_append]
 apply Array.ext'
 simp [Aix,Y5,Aj1]
theorem Aik:Y5 1=oneB:=by
 rw [show (1:Int)=((1:Nat):Int) from rfl,Akb (by decide)];rfl
theorem fcut_do (p:Fr) (h1:(Y5 p.1).size<=1000000) (h2:(Y5 p.2).size<=1000000):Aw 132 [Fi (fcT p)] ⟨[],[]⟩ (.ret (.tup [Fi (Y5 p.1),Fi (Y5 p.2),At (!decide (p.2=1))])) ⟨[],[]⟩:=by
 unfold fcT
 have s1:(Y5 p.1).size=(Lib.itoa p.1).length:=rfl
 have s2:(Y5 p.2).size=(Lib.itoa p.2).length:=rfl
 by_cases h:p.2=1
 ·rw [if_pos h,h,Aik]
  exact fcut_no (Lib.itoa p.1) (Ajv _) (by omega)
 ·rw [if_neg h,fcT_two,decide_eq_false h]
  exact fcut_yes (Lib.itoa p.1) (Lib.itoa p.2) (Ajv _) (by omega)
theorem Aih (p:Fr) (h1:(Y5 p.1).size<=1000000) (h2:(Y5 p.2).size<=1000000):Aw 98 [Fi (fcT p)] ⟨[],[]⟩ (.ret (.tup [Fi (Y5 p.1),Fi (Y5 p.2)])) ⟨[],[]⟩:=by
 have h:=fcut_do p h1 h2
 refine Af Tryz.func98 rfl rfl (Nat.le_of_ble_eq_true rfl) rfl (Nat.le_refl _) ?_
 repeat' (first|refine rl0 ?_|refine rs0 ?_ ?_<;>intro h|fail)
 refine wp1 h ?_
 repeat' (first|refine rl0 ?_|refine rs0 ?_ ?_<;>intro h|fail)
 rfl
end Go.Proofs.YtjagmmmcibdibaaGreatDoor
