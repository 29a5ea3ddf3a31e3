/- A part of the proofs of some statements of this chapter: texts of these claims, merged. -/
import Derived.Below
import Derived.WalkKit
import Derived.BigQuiet
import Derived.Lib.Hide
import Derived.ControlIn
import Derived.OwnWalkIn
import Derived.Lib.ItoaNum
import Derived.OrdersIn
import Derived.TacticsIn
import Derived.Deep.MidRow
import Derived.OpenShut
import Derived.Lib.SmallJoins
import Derived.Laws.Tables
import Derived.Laws.OwnMore
import Derived.Orders
import Derived.Test.YtjagmmmcibdibaaGreatDoorProg
import Derived.Shelf.Abstract
import Derived.Test.YtjagmmmcibdibaaGreatDoorRows
import Derived.Carry
import Derived.Lib.LaidU8
import Derived.Lib.LaidTab
import Derived.Lay
import Derived.MakeChecks
import Derived.RangeFuncLeaves
import Derived.RangeFuncOwn
import Derived.RecoverIn
import Derived.Laws.MakeOwn
import Derived.Laws.Strings
import Derived.WalkSpells
import Derived.WalkLawsBesides
import Derived.Laws.EntriesVeiled
import Derived.Deep.RegionHeld3
import Derived.Deep.QuietTactic
import Derived.Lib.Bytealg
import Derived.Shelf.Strings.Builder1
import Derived.Shelf.Small.Strs
import Derived.Shelf.Small.Wraps
import Derived.Shelf.Strings.BuilderF
import Derived.Shelf.Strings.BuilderK
import Derived.Shelf.Strconv.Atoi
import Derived.Shelf.Strconv.Itoa0
import Derived.Shelf.Strconv.Itoa1
import Derived.Shelf.LaysM
import Derived.Shelf.Strconv.Itoa2
import Derived.Shelf.Strconv.Itoa3
import Derived.Shelf.Strconv.AtoiErrFast
import Derived.Shelf.Strconv.ParseIntEmpty
import Derived.Shelf.Strconv.AtoiFail
import Derived.Shelf.Strconv.Clone
import Derived.Shelf.Strconv.SyntaxError
import Derived.Shelf.LaysC
import Derived.Shelf.Strconv.ToError
import Derived.Shelf.Strconv.AtoiErr
import Derived.Shelf.Strconv.ErrVar
import Derived.Shelf.Strconv.Lower
import Derived.Shelf.Strconv.ParseUint10
import Derived.Shelf.Strconv.ParseUint10Empty
import Derived.Shelf.Strconv.ParseUint10Any
import Derived.Shelf.Strconv.ParseInt10
import Derived.Shelf.Strconv.AtoiLong
import Derived.Shelf.Strconv.AtoiInnerAll
import Derived.Shelf.Strconv.RangeError
import Derived.Shelf.Strconv.ToErrorRange
import Derived.Shelf.Strconv.AtoiAll
import Derived.Shelf.Strconv.ErrVarAll
import Derived.Shelf.Strconv.ParseUintEmpty
import Derived.Shelf.Strconv.ParseUint10b64
import Derived.Shelf.Strconv.ParseUint10b32
import Derived.Shelf.Strconv.ParseUint10b16
import Derived.Shelf.Strconv.ParseUint10b8
import Derived.Shelf.Strconv.ParseUint10At
import Derived.Ground.MpProg
import Derived.Shelf.Pu.ParseUintPublic10
import Derived.Shelf.Pu.ErrVarParseUint
import Derived.Shelf.Strings.Search1
import Derived.Shelf.Strings.Search2
import Derived.Shelf.Strings.Cut
import Derived.Shelf.Strings.Shaped
import Derived.Shelf.Strings.Prefix
import Derived.Shelf.Strings.BuilderCap
import Derived.Shelf.Slices.Turned
import Derived.Ground.Names2Prog
import Derived.Shelf.Slices.SearchI
import Derived.Deep.DeepCutAuto
import Derived.Lib.IndexBytes
import Derived.Deep.LoopGhost
import Derived.StillTail
import Derived.BigRegion
import Derived.Deep.CutBlock
import Derived.RangeFuncBox
import Derived.RangeFuncCalls
import Derived.TacticsInMore
import Derived.LoopNIn
import Derived.LoopIn
import Derived.RangeFuncNested
import Derived.Maps.AppendAt
import Derived.Shelf.RegionOpen
import Derived.Laws.StructEq
import Derived.Lib.Join
import Derived.Deep.AppendLies
import Derived.Deep.RegionLaw
import Derived.Laws.Rows
import Derived.Laws.BytesArg
import Derived.Lib.AppendStr
import Derived.Test.YtjagmmmcibdibaaGreatDoorZG5
set_option linter.unusedVariables false
set_option linter.unusedSimpArgs false
set_option linter.unusedSectionVars false
set_option linter.all false
namespace Go.Proofs.YtjagmmmcibdibaaGreatDoor
open Go.RowKit
theorem Ai1 {n m:Int} (h:Y5 n=Y5 m):n=m:=by
 have h1:=Ajq n
 rw [h,Ajq m] at h1
 injection h1 with h2
 exact h2.symm
theorem Aja (x y:Int) {k:Nat} (hy0:y≠0) (hx:Lim k x.natAbs) (hy:Lim k y.natAbs) (hk:k<=5000):Aw 96 [Fi (Y5 x),Fi (Y5 y)] ⟨[],[]⟩ (.ret (Fi (fcT (mkF x y)))) ⟨[],[]⟩:=by
 have h1:=Aln x y
 have h2:=Alo x y
 have hg:=Ae7 (x:=x) hy0
 have hgk:Lim k (P9 x y).natAbs:=hy.le (by rw [Ho];exact Nat.gcd_le_right _ (by omega))
 have k1:=Aef (n:=(mkF x y).1) (hx.le (Anp hy0))
 have k2:=Aef (n:=(mkF x y).2) (hy.le (Anq hy0))
 have hgs:=Aef hgk
 have hD1:=Am4 (mkF x y).1 (P9 x y) (k:=k) hg (by rw [Int.mul_comm,h1];exact hx) hgk hk
 have hD2:=Am4 (mkF x y).2 (P9 x y) (k:=k) hg (by rw [Int.mul_comm,h2];exact hy) hgk hk
 rw [Int.mul_comm,h1] at hD1
 rw [Int.mul_comm,h2] at hD2
 have hs1:Aj1.size=1:=rfl
 by_cases hn:y<0
 ·have hgv:P9 x y = -((Nat.gcd x.natAbs y.natAbs:Nat):Int):=by unfold P9;rw [if_pos hn]
  rw [hgv] at hD1 hD2 hgs
  have hneg:=Alj ((Nat.gcd x.natAbs y.natAbs:Nat):Int) (by have h5:=Aef (n:=((Nat.gcd x.natAbs y.natAbs:Nat):Int)) (k:=k) (by rw [Int.natAbs_natCast,<- Ho];exact hgk);omega)
  refine Af Tryz.func96 rfl rfl (Nat.le_of_ble_eq_true rfl) rfl (Nat.le_refl _) ?_
  repeat' (first|refine rl3 ?_|refine rs3 ?_ ?_<;>intro h|fail)
  refine wp1 (Am5 x y hx hy (by omega)) ?_
  repeat' (first|refine rl3 ?_|refine rs3 ?_ ?_<;>intro h|fail)
  refine wp1 (Aiv y) ?_
  repeat' (first|refine rl3 ?_|refine rs3 ?_ ?_<;>intro h|fail)
  ·refine wp1 hneg ?_
   repeat' (first|refine rl3 ?_|refine rs3 ?_ ?_<;>intro h|fail)
   refine wp1 hD1 ?_
   repeat' (first|refine rl3 ?_|refine rs3 ?_ ?_<;>intro h|fail)
   refine wp1 hD2 ?_
   repeat' (first|refine rl3 ?_|refine rs3 ?_ ?_<;>intro h|fail)
   ·have h3:(mkF x y).2=1:=Ai1 ((of_decide_eq_true h).trans Aik.symm)
    unfold fcT
    rw [if_pos h3]
   ·have h3:¬ (mkF x y).2=1:=fun e=>of_decide_eq_false h (by rw [e];exact Aik)
    unfold fcT
    rw [if_neg h3]
    refine wst rfl rfl (by show (Y5 (mkF x y).1).size+1<=9223372036854775807;omega) ?_
    repeat' (first|refine rl3 ?_|refine rs3 ?_ ?_<;>intro h|fail)
    refine wst rfl rfl (by show (Y5 (mkF x y).1++Aj1).size+(Y5 (mkF x y).2).size<=9223372036854775807;rw [ByteArray.size_append,hs1];omega) ?_
    repeat' (first|refine rl3 ?_|refine rs3 ?_ ?_<;>intro h|fail)
    rfl
  ·exfalso;have h4:=of_decide_eq_false h;unfold sgZ at h4;rw [if_neg hy0,if_pos hn] at h4;omega
 ·have hgv:P9 x y=((Nat.gcd x.natAbs y.natAbs:Nat):Int):=by unfold P9;rw [if_neg hn]
  rw [hgv] at hD1 hD2 hgs
  refine Af Tryz.func96 rfl rfl (Nat.le_of_ble_eq_true rfl) rfl (Nat.le_refl _) ?_
  repeat' (first|refine rl3 ?_|refine rs3 ?_ ?_<;>intro h|fail)
  refine wp1 (Am5 x y hx hy (by omega)) ?_
  repeat' (first|refine rl3 ?_|refine rs3 ?_ ?_<;>intro h|fail)
  refine wp1 (Aiv y) ?_
  repeat' (first|refine rl3 ?_|refine rs3 ?_ ?_<;>intro h|fail)
  ·exfalso;have h4:=of_decide_eq_true h;unfold sgZ at h4;rw [if_neg hy0,if_neg hn] at h4;omega
  refine wp1 hD1 ?_
  repeat' (first|refine rl3 ?_|refine rs3 ?_ ?_<;>intro h|fail)
  refine wp1 hD2 ?_
  repeat' (first|refine rl3 ?_|refine rs3 ?_ ?_<;>intro h|fail)
  ·have h3:(mkF x y).2=1:=Ai1 ((of_decide_eq_true h).trans Aik.symm)
   unfold fcT
   rw [if_pos h3]
  ·have h3:¬ (mkF x y).2=1:=fun e=>of_decide_eq_false h (by rw [e];exact Aik)
   unfold fcT
   rw [if_neg h3]
   refine wst rfl rfl (by show (Y5 (mkF x y).1).size+1<=9223372036854775807;omega) ?_
   repeat' (first|refine rl3 ?_|refine rs3 ?_ ?_<;>intro h|fail)
   refine wst rfl rfl (by show (Y5 (mkF x y).1++Aj1).size+(Y5 (mkF x y).2).size<=9223372036854775807;rw [ByteArray.size_append,hs1];omega) ?_
   repeat' (first|refine rl3 ?_|refine rs3 ?_ ?_<;>intro h|fail)
   rfl
theorem rof_do (n d:Int) (hn:n.natAbs<1000000000) (hd:d.natAbs<1000000000) (h0:d≠0):Aw 66 [An n,An d] ⟨[],[]⟩ (.ret (Fi (fcT (mkF n d)))) ⟨[],[]⟩:=by
 have h:=Aja n d (k:=1) h0 (by unfold Lim;simpa using hn) (by unfold Lim;simpa using hd) (by omega)
 refine Af Tryz.func66 rfl rfl (Nat.le_of_ble_eq_true rfl) rfl (Nat.le_refl _) ?_
 repeat' (first|refine rl3 ?_|refine rs3 ?_ ?_<;>intro h|fail)
 refine wp1 (Ajs n (by omega) (by omega)) ?_
 repeat' (first|refine rl3 ?_|refine rs3 ?_ ?_<;>intro h|fail)
 refine wp1 (Ajs d (by omega) (by omega)) ?_
 repeat' (first|refine rl3 ?_|refine rs3 ?_ ?_<;>intro h|fail)
 refine wp1 h ?_
 repeat' (first|refine rl3 ?_|refine rs3 ?_ ?_<;>intro h|fail)
 rfl
section
variable {k:Nat} {p q:Fr}
theorem An5 (hp:Fit k p) (hk:k<=1000):Aw 68 [Fi (fcT p)] ⟨[],[]⟩ (.ret (Fi (fcT (Ans p)))) ⟨[],[]⟩:=by
 have k1:=Aef hp.num
 have k2:=Aef hp.den
 have h0:=hp.red.1
 have h:=Aja (-p.1) p.2 (k:=k) (by omega) (by rw [Int.natAbs_neg];exact hp.num) hp.den (by omega)
 have e:mkF (-p.1) p.2=Ans p:=mkF_id (Xr hp).red
 rw [e] at h
 refine Af Tryz.func68 rfl rfl (Nat.le_of_ble_eq_true rfl) rfl (Nat.le_refl _) ?_
 repeat' (first|refine rl3 ?_|refine rs3 ?_ ?_<;>intro h|fail)
 refine wp1 (Aih p (by omega) (by omega)) ?_
 repeat' (first|refine rl3 ?_|refine rs3 ?_ ?_<;>intro h|fail)
 refine wp1 (Alj p.1 (by omega)) ?_
 repeat' (first|refine rl3 ?_|refine rs3 ?_ ?_<;>intro h|fail)
 refine wp1 h ?_
 repeat' (first|refine rl3 ?_|refine rs3 ?_ ?_<;>intro h|fail)
 rfl
theorem Amb (hp:Fit k p) (hk:k<=1000):Aw 104 [Fi (fcT p)] ⟨[],[]⟩ (.ret (An (sgZ p.1))) ⟨[],[]⟩:=by
 have k1:=Aef hp.num
 have k2:=Aef hp.den
 refine Af Tryz.func104 rfl rfl (Nat.le_of_ble_eq_true rfl) rfl (Nat.le_refl _) ?_
 repeat' (first|refine rl3 ?_|refine rs3 ?_ ?_<;>intro h|fail)
 refine wp1 (Aih p (by omega) (by omega)) ?_
 repeat' (first|refine rl3 ?_|refine rs3 ?_ ?_<;>intro h|fail)
 refine wp1 (Aiv p.1) ?_
 repeat' (first|refine rl3 ?_|refine rs3 ?_ ?_<;>intro h|fail)
 rfl
theorem Aji (hp:Fit k p) (hq:Fit k q) (hk:k<=1000):Aw 100 [Fi (fcT p),Fi (fcT q)] ⟨[],[]⟩ (.ret (An (cmpF p q))) ⟨[],[]⟩:=by
 have k1:=Aef hp.num
 have k2:=Aef hp.den
 have k3:=Aef hq.num
 have k4:=Aef hq.den
 have k5:=Aef (Bq hp.num hq.den)
 have k6:=Aef (Bq hq.num hp.den)
 refine Af Tryz.func100 rfl rfl (Nat.le_of_ble_eq_true rfl) rfl (Nat.le_refl _) ?_
 repeat' (first|refine rl3 ?_|refine rs3 ?_ ?_<;>intro h|fail)
 refine wp1 (Aih p (by omega) (by omega)) ?_
 repeat' (first|refine rl3 ?_|refine rs3 ?_ ?_<;>intro h|fail)
 refine wp1 (Aih q (by omega) (by omega)) ?_
 repeat' (first|refine rl3 ?_|refine rs3 ?_ ?_<;>intro h|fail)
 refine wp1 (Aig p.1 q.2 hp.num hq.den (by omega) (by omega)) ?_
 repeat' (first|refine rl3 ?_|refine rs3 ?_ ?_<;>intro h|fail)
 refine wp1 (Aig q.1 p.2 hq.num hp.den (by omega) (by omega)) ?_
 repeat' (first|refine rl3 ?_|refine rs3 ?_ ?_<;>intro h|fail)
 refine wp1 (dCmp_do (p.1*q.2) (q.1*p.2) (by omega) (by omega)) ?_
 repeat' (first|refine rl3 ?_|refine rs3 ?_ ?_<;>intro h|fail)
 rfl
end
section
variable {k:Nat} {p q:Fr}
theorem Amx (h1:p.2=1) (h2:q.2=1):Fi (Y5 (p.1+q.1))=Fi (fcT (addF p q)):=by
 have e:addF p q=(p.1+q.1,1):=by unfold addF;rw [h1,h2,Int.mul_one,Int.mul_one,Int.mul_one];exact Aks _
 rw [e];unfold fcT;rw [if_pos rfl]
theorem Anr (h1:p.2=1) (h2:q.2=1):Fi (Y5 (p.1*q.1))=Fi (fcT (Amp p q)):=by
 have e:Amp p q=(p.1*q.1,1):=by unfold Amp;rw [h1,h2,Int.mul_one];exact Aks _
 rw [e];unfold fcT;rw [if_pos rfl]
theorem Anz (hp:Fit k p) (hq:Fit k q) (hk:k<=1000):Aw 101 [Fi (fcT p),Fi (fcT q)] ⟨[],[]⟩ (.ret (Fi (fcT (addF p q)))) ⟨[],[]⟩:=by
 have k1:=Aef hp.num
 have k2:=Aef hp.den
 have k3:=Aef hq.num
 have k4:=Aef hq.den
 have l1:=Bq hp.num hq.den
 have l2:=Bq hq.num hp.den
 have l3:=Bq hp.den hq.den
 have hmk:=Aja (p.1*q.2+q.1*p.2) (p.2*q.2) (k:=k+k+1) (Ua hp.red.1 hq.red.1) (Xw l1 l2) (l3.mono (by omega)) (by omega)
 refine Af Tryz.func101 rfl rfl (Nat.le_of_ble_eq_true rfl) rfl (Nat.le_refl _) ?_
 repeat' (first|refine rl3 ?_|refine rs3 ?_ ?_<;>intro h|fail)
 refine wp1 (Aih p (by omega) (by omega)) ?_
 repeat' (first|refine rl3 ?_|refine rs3 ?_ ?_<;>intro h|fail)
 refine wp1 (Aih q (by omega) (by omega)) ?_
 repeat' (first|refine rl3 ?_|refine rs3 ?_ ?_<;>intro h|fail)
 ·rename_i h'
  have h1:p.2=1:=Ai1 ((of_decide_eq_true h').trans Aik.symm)
  have h2:q.2=1:=Ai1 ((of_decide_eq_true h).trans Aik.symm)
  refine wp1 (Akl p.1 q.1 hp.num hq.num (by omega)) ?_
  repeat' (first|refine rl3 ?_|refine rs3 ?_ ?_<;>intro h|fail)
  exact Amx h1 h2
 ·refine wp1 (Aig p.1 q.2 hp.num hq.den (by omega) (by omega)) ?_
  repeat' (first|refine rl3 ?_|refine rs3 ?_ ?_<;>intro h|fail)
  refine wp1 (Aig q.1 p.2 hq.num hp.den (by omega) (by omega)) ?_
  repeat' (first|refine rl3 ?_|refine rs3 ?_ ?_<;>intro h|fail)
  refine wp1 (Akl (p.1*q.2) (q.1*p.2) l1 l2 (by omega)) ?_
  repeat' (first|refine rl3 ?_|refine rs3 ?_ ?_<;>intro h|fail)
  refine wp1 (Aig p.2 q.2 hp.den hq.den (by omega) (by omega)) ?_
  repeat' (first|refine rl3 ?_|refine rs3 ?_ ?_<;>intro h|fail)
  refine wp1 hmk ?_
  repeat' (first|refine rl3 ?_|refine rs3 ?_ ?_<;>intro h|fail)
  rfl
 ·refine wp1 (Aig p.1 q.2 hp.num hq.den (by omega) (by omega)) ?_
  repeat' (first|refine rl3 ?_|refine rs3 ?_ ?_<;>intro h|fail)
  refine wp1 (Aig q.1 p.2 hq.num hp.den (by omega) (by omega)) ?_
  repeat' (first|refine rl3 ?_|refine rs3 ?_ ?_<;>intro h|fail)
  refine wp1 (Akl (p.1*q.2) (q.1*p.2) l1 l2 (by omega)) ?_
  repeat' (first|refine rl3 ?_|refine rs3 ?_ ?_<;>intro h|fail)
  refine wp1 (Aig p.2 q.2 hp.den hq.den (by omega) (by omega)) ?_
  repeat' (first|refine rl3 ?_|refine rs3 ?_ ?_<;>intro h|fail)
  refine wp1 hmk ?_
  repeat' (first|refine rl3 ?_|refine rs3 ?_ ?_<;>intro h|fail)
  rfl
theorem An3 (hp:Fit k p) (hq:Fit k q) (hk:k<=1000):Aw 103 [Fi (fcT p),Fi (fcT q)] ⟨[],[]⟩ (.ret (Fi (fcT (Amp p q)))) ⟨[],[]⟩:=by
 have k1:=Aef hp.num
 have k2:=Aef hp.den
 have k3:=Aef hq.num
 have k4:=Aef hq.den
 have l1:=Bq hp.num hq.num
 have l3:=Bq hp.den hq.den
 have hmk:=Aja (p.1*q.1) (p.2*q.2) (k:=k+k) (Ua hp.red.1 hq.red.1) l1 l3 (by omega)
 refine Af Tryz.func103 rfl rfl (Nat.le_of_ble_eq_true rfl) rfl (Nat.le_refl _) ?_
 repeat' (first|refine rl3 ?_|refine rs3 ?_ ?_<;>intro h|fail)
 refine wp1 (Aih p (by omega) (by omega)) ?_
 repeat' (first|refine rl3 ?_|refine rs3 ?_ ?_<;>intro h|fail)
 refine wp1 (Aih q (by omega) (by omega)) ?_
 repeat' (first|refine rl3 ?_|refine rs3 ?_ ?_<;>intro h|fail)
 ·rename_i h'
  have h1:p.2=1:=Ai1 ((of_decide_eq_true h').trans Aik.symm)
  have h2:q.2=1:=Ai1 ((of_decide_eq_true h).trans Aik.symm)
  refine wp1 (Aig p.1 q.1 hp.num hq.num (by omega) (by omega)) ?_
  repeat' (first|refine rl3 ?_|refine rs3 ?_ ?_<;>intro h|fail)
  exact Anr h1 h2
 ·refine wp1 (Aig p.1 q.1 hp.num hq.num (by omega) (by omega)) ?_
  repeat' (first|refine rl3 ?_|refine rs3 ?_ ?_<;>intro h|fail)
  refine wp1 (Aig p.2 q.2 hp.den hq.den (by omega) (by omega)) ?_
  repeat' (first|refine rl3 ?_|refine rs3 ?_ ?_<;>intro h|fail)
  refine wp1 hmk ?_
  repeat' (first|refine rl3 ?_|refine rs3 ?_ ?_<;>intro h|fail)
  rfl
 ·refine wp1 (Aig p.1 q.1 hp.num hq.num (by omega) (by omega)) ?_
  repeat' (first|refine rl3 ?_|refine rs3 ?_ ?_<;>intro h|fail)
  refine wp1 (Aig p.2 q.2 hp.den hq.den (by omega) (by omega)) ?_
  repeat' (first|refine rl3 ?_|refine rs3 ?_ ?_<;>intro h|fail)
  refine wp1 hmk ?_
  repeat' (first|refine rl3 ?_|refine rs3 ?_ ?_<;>intro h|fail)
  rfl
theorem div_turn (hp:Red p) (h0:q.1≠0):Amp p (mkF q.2 q.1)=divF p q:=by
 have hr:=Aft (x:=q.2) h0
 have h1:=Aln q.2 q.1
 have h2:=Alo q.2 q.1
 have hg:=Ae7 (x:=q.2) h0
 have hy:p.2*q.1≠0:=Int.mul_ne_zero (by have:=hp.1;omega) h0
 have hm0:=Ua hp.1 hr.1
 symm
 unfold divF
 refine Ano (Aft hm0) hy ?_
 have e1:=Aln (p.1*(mkF q.2 q.1).1) (p.2*(mkF q.2 q.1).2)
 have e2:=Alo (p.1*(mkF q.2 q.1).1) (p.2*(mkF q.2 q.1).2)
 have hG:=Ae7 (x:=p.1*(mkF q.2 q.1).1) hm0
 show (Amp p (mkF q.2 q.1)).1*(p.2*q.1)=p.1*q.2*(Amp p (mkF q.2 q.1)).2
 unfold Amp
 generalize mkF (p.1*(mkF q.2 q.1).1) (p.2*(mkF q.2 q.1).2)=M at *
 generalize P9 (p.1*(mkF q.2 q.1).1) (p.2*(mkF q.2 q.1).2)=G at *
 generalize P9 q.2 q.1=g at *
 generalize mkF q.2 q.1=r at *
 refine Int.eq_of_mul_eq_mul_left hG ?_
 rw [<- h1,<- h2]
 calc G*(M.1*(p.2*(g*r.2)))=(G*M.1)*(g*(p.2*r.2)):=by ac_rfl
  _=(p.1*r.1)*(g*(G*M.2)):=by rw [e1,e2]
  _=G*(p.1*(g*r.1)*M.2):=by ac_rfl
theorem rsub_do (hp:Fit k p) (hq:Fit k q) (hk:k<=1000):Aw 102 [Fi (fcT p),Fi (fcT q)] ⟨[],[]⟩ (.ret (Fi (fcT (subF p q)))) ⟨[],[]⟩:=by
 have h:=Anz hp (Xr hq) hk
 rw [<- An8] at h
 refine Af Tryz.func102 rfl rfl (Nat.le_of_ble_eq_true rfl) rfl (Nat.le_refl _) ?_
 repeat' (first|refine rl3 ?_|refine rs3 ?_ ?_<;>intro h|fail)
 refine wp1 (An5 hq hk) ?_
 repeat' (first|refine rl3 ?_|refine rs3 ?_ ?_<;>intro h|fail)
 refine wp1 h ?_
 repeat' (first|refine rl3 ?_|refine rs3 ?_ ?_<;>intro h|fail)
 rfl
theorem rdiv_do (hp:Fit k p) (hq:Fit k q) (h0:q.1≠0) (hk:k<=1000):Aw 105 [Fi (fcT p),Fi (fcT q)] ⟨[],[]⟩ (.ret (Fi (fcT (divF p q)))) ⟨[],[]⟩:=by
 have k3:=Aef hq.num
 have k4:=Aef hq.den
 have h1:=Aja q.2 q.1 (k:=k) h0 hq.den hq.num (by omega)
 have h2:=An3 hp (Ae0 (x:=q.2) h0 hq.den hq.num) hk
 rw [div_turn hp.red h0] at h2
 refine Af Tryz.func105 rfl rfl (Nat.le_of_ble_eq_true rfl) rfl (Nat.le_refl _) ?_
 repeat' (first|refine rl3 ?_|refine rs3 ?_ ?_<;>intro h|fail)
 refine wp1 (Aih q (by omega) (by omega)) ?_
 repeat' (first|refine rl3 ?_|refine rs3 ?_ ?_<;>intro h|fail)
 refine wp1 h1 ?_
 repeat' (first|refine rl3 ?_|refine rs3 ?_ ?_<;>intro h|fail)
 refine wp1 h2 ?_
 repeat' (first|refine rl3 ?_|refine rs3 ?_ ?_<;>intro h|fail)
 rfl
end
theorem Ami (b:Bool):Aw 67 [At b] ⟨[],[]⟩ (.ret (vlP 2 ⟨#[]⟩ b)) ⟨[],[]⟩:=by
 refine Dl Tryz.func67 rfl rfl (Nat.le_of_ble_eq_true rfl) (fun _=>?_)
 refine Sb ?_
 repeat' (first|refine rl0 ?_|refine rs0 ?_ ?_<;>intro h|fail)
 exact Zk (.inr rfl) rfl rfl (Aas rfl)
section
variable {k:Nat} {p q:Fr}
theorem two_add (hp:Fit k p) (hq:Fit k q) (hk:k<=1000):Aw 69 [An 7,Fi (fcT p),Fi (fcT q)] ⟨[],[]⟩ (.ret (.tup [vlP 1 (fcT (addF p q)) false,At true])) ⟨[],[]⟩:=by
 refine Dl Tryz.func69 rfl rfl (Nat.le_of_ble_eq_true rfl) (fun _=>?_)
 refine Sb ?_
 repeat' (first|refine rl3 ?_|refine rs3 ?_ ?_<;>intro h|fail)
 refine wp1 (Aji hp hq hk) ?_
 repeat' (first|refine rl3 ?_|refine rs3 ?_ ?_<;>intro h|fail)
 refine C7 ?_
 repeat' (first|refine rl3 ?_|refine rs3 ?_ ?_<;>intro h|fail)
 refine wp1 (Anz hp hq hk) ?_
 repeat' (first|refine rl3 ?_|refine rs3 ?_ ?_<;>intro h|fail)
 exact Zk (.inr rfl) rfl rfl (Ag9 (B7 (Aas rfl) (B7 (Aas rfl) Gl)))
theorem two_sub (hp:Fit k p) (hq:Fit k q) (hk:k<=1000):Aw 69 [An 8,Fi (fcT p),Fi (fcT q)] ⟨[],[]⟩ (.ret (.tup [vlP 1 (fcT (subF p q)) false,At true])) ⟨[],[]⟩:=by
 refine Dl Tryz.func69 rfl rfl (Nat.le_of_ble_eq_true rfl) (fun _=>?_)
 refine Sb ?_
 repeat' (first|refine rl3 ?_|refine rs3 ?_ ?_<;>intro h|fail)
 refine wp1 (Aji hp hq hk) ?_
 repeat' (first|refine rl3 ?_|refine rs3 ?_ ?_<;>intro h|fail)
 refine C7 ?_
 repeat' (first|refine rl3 ?_|refine rs3 ?_ ?_<;>intro h|fail)
 refine wp1 (rsub_do hp hq hk) ?_
 repeat' (first|refine rl3 ?_|refine rs3 ?_ ?_<;>intro h|fail)
 exact Zk (.inr rfl) rfl rfl (Ag9 (B7 (Aas rfl) (B7 (Aas rfl) Gl)))
theorem two_mul (hp:Fit k p) (hq:Fit k q) (hk:k<=1000):Aw 69 [An 9,Fi (fcT p),Fi (fcT q)] ⟨[],[]⟩ (.ret (.tup [vlP 1 (fcT (Amp p q)) false,At true])) ⟨[],[]⟩:=by
 refine Dl Tryz.func69 rfl rfl (Nat.le_of_ble_eq_true rfl) (fun _=>?_)
 refine Sb ?_
 repeat' (first|refine rl3 ?_|refine rs3 ?_ ?_<;>intro h|fail)
 refine wp1 (Aji hp hq hk) ?_
 repeat' (first|refine rl3 ?_|refine rs3 ?_ ?_<;>intro h|fail)
 refine C7 ?_
 repeat' (first|refine rl3 ?_|refine rs3 ?_ ?_<;>intro h|fail)
 refine wp1 (An3 hp hq hk) ?_
 repeat' (first|refine rl3 ?_|refine rs3 ?_ ?_<;>intro h|fail)
 exact Zk (.inr rfl) rfl rfl (Ag9 (B7 (Aas rfl) (B7 (Aas rfl) Gl)))
theorem two_div (hp:Fit k p) (hq:Fit k q) (h0:q.1≠0) (hk:k<=1000):Aw 69 [An 10,Fi (fcT p),Fi (fcT q)] ⟨[],[]⟩ (.ret (.tup [vlP 1 (fcT (divF p q)) false,At true])) ⟨[],[]⟩:=by
 refine Dl Tryz.func69 rfl rfl (Nat.le_of_ble_eq_true rfl) (fun _=>?_)
 refine Sb ?_
 repeat' (first|refine rl3 ?_|refine rs3 ?_ ?_<;>intro h|fail)
 refine wp1 (Aji hp hq hk) ?_
 repeat' (first|refine rl3 ?_|refine rs3 ?_ ?_<;>intro h|fail)
 refine C7 ?_
 repeat' (first|refine rl3 ?_|refine rs3 ?_ ?_<;>intro h|fail)
 refine wp1 (Amb hq hk) ?_
 repeat' (first|refine rl3 ?_|refine rs3 ?_ ?_<;>intro h|fail)
 ·exfalso;have h1:=of_decide_eq_true h;unfold sgZ at h1;rw [if_neg h0] at h1;split at h1<;>omega
 refine wp1 (rdiv_do hp hq h0 hk) ?_
 repeat' (first|refine rl3 ?_|refine rs3 ?_ ?_<;>intro h|fail)
 exact Zk (.inr rfl) rfl rfl (Ag9 (B7 (Aas rfl) (B7 (Aas rfl) Gl)))
theorem two_none (hp:Fit k p) (hq:Fit k q) (h0:q.1=0) (hk:k<=1000):Aw 69 [An 10,Fi (fcT p),Fi (fcT q)] ⟨[],[]⟩ (.ret (.tup [vlP 0 ⟨#[]⟩ false,At false])) ⟨[],[]⟩:=by
 refine Dl Tryz.func69 rfl rfl (Nat.le_of_ble_eq_true rfl) (fun _=>?_)
 refine Sb ?_
 repeat' (first|refine rl3 ?_|refine rs3 ?_ ?_<;>intro h|fail)
 refine wp1 (Aji hp hq hk) ?_
 repeat' (first|refine rl3 ?_|refine rs3 ?_ ?_<;>intro h|fail)
 refine C7 ?_
 repeat' (first|refine rl3 ?_|refine rs3 ?_ ?_<;>intro h|fail)
 refine wp1 (Amb hq hk) ?_
 repeat' (first|refine rl3 ?_|refine rs3 ?_ ?_<;>intro h|fail)
 ·exact Zk (.inr rfl) rfl rfl (Ag9 (B7 (Aas rfl) (B7 (Aas rfl) Gl)))
 ·exfalso;exact of_decide_eq_false h (by unfold sgZ;rw [if_pos h0])
theorem two_cmp (o:Int) (h1:11<=o) (h2:o<=16) (hp:Fit k p) (hq:Fit k q) (hk:k<=1000):Aw 69 [An o,Fi (fcT p),Fi (fcT q)] ⟨[],[]⟩ (.ret (.tup [vlP 2 ⟨#[]⟩ (cmpZ o (cmpF p q)),At true])) ⟨[],[]⟩:=by
 have:o=11\/o=12\/o=13\/o=14\/o=15\/o=16:=by omega
 rcases this with rfl|rfl|rfl|rfl|rfl|rfl
 all_goals
  refine Dl Tryz.func69 rfl rfl (Nat.le_of_ble_eq_true rfl) (fun _=>?_)
  refine Sb ?_
  repeat' (first|refine rl3 ?_|refine rs3 ?_ ?_<;>intro h|fail)
  refine wp1 (Aji hp hq hk) ?_
  repeat' (first|refine rl3 ?_|refine rs3 ?_ ?_<;>intro h|fail)
  refine C7 ?_
  repeat' (first|refine rl3 ?_|refine rs3 ?_ ?_<;>intro h|fail)
  refine wp1 (Ami _) ?_
  repeat' (first|refine rl3 ?_|refine rs3 ?_ ?_<;>intro h|fail)
  exact Zk (.inr rfl) rfl rfl (Ag9 (B7 (Aas rfl) (B7 (Aas rfl) Gl)))
end
def ofP (k:Int):Option Res->PV
 |none => .tup [vlP 0 ⟨#[]⟩ false,At false]
 |some r => .tup [if k=2 then vlP 2 ⟨#[]⟩ r.2 else vlP 1 (fcT r.1) false,At true]
theorem two_any {k:Nat} (o:Int) (a b:Res) (h1:7<=o) (h2:o<=16) (hp:Fit k a.1) (hq:Fit k b.1) (hk:k<=1000):Aw 69 [An o,Fi (fcT a.1),Fi (fcT b.1)] ⟨[],[]⟩ (.ret (ofP (if 11<=o then 2 else 1) (Aoa o a b))) ⟨[],[]⟩:=by
 by_cases hc:11<=o
 ·rw [if_pos hc]
  unfold Aoa
  rw [if_pos hc]
  exact two_cmp o hc h2 hp hq hk
 ·rw [if_neg hc]
  unfold Aoa
  rw [if_neg hc]
  have:o=7\/o=8\/o=9\/o=10:=by omega
  rcases this with rfl|rfl|rfl|rfl
  ·exact two_add hp hq hk
  ·exact two_sub hp hq hk
  ·exact two_mul hp hq hk
  ·by_cases h0:b.1.1=0
   ·rw [if_pos ⟨rfl,h0⟩]
    exact two_none hp hq h0 hk
   ·rw [if_neg fun e=>h0 e.2]
    exact two_div hp hq h0 hk
theorem An6 (n:Int) (h:n.natAbs<1000000000):Aw 66 [An n,An 1] ⟨[],[]⟩ (.ret (Fi (fcT (n,1)))) ⟨[],[]⟩:=by
 have h1:=rof_do n 1 h (by decide) (by decide)
 rw [Aks] at h1
 exact h1
theorem ofnum_do (vars:List ByteArray) (vals:List Int) (m:Int) (h1:m.natAbs<1000000000):Aw 34 [exP (.mk 1 m ⟨#[]⟩ []),Db vars,Dv vals] ⟨[],[]⟩ (.ret (ofP 1 (some ((m,1),false)))) ⟨[],[]⟩:=by
 refine Dl Tryz.func34 rfl rfl (Nat.le_of_ble_eq_true rfl) (fun _=>?_)
 refine Sb ?_
 repeat' (first|refine rl3 ?_|refine rs3 ?_ ?_<;>intro h|fail)
 refine C7 ?_
 repeat' (first|refine rl3 ?_|refine rs3 ?_ ?_<;>intro h|fail)
 refine wp1 (An6 m h1) ?_
 repeat' (first|refine rl3 ?_|refine rs3 ?_ ?_<;>intro h|fail)
 exact Zk (.inr rfl) rfl rfl (Ag9 (B7 (Aas rfl) (B7 (Aas rfl) Gl)))
theorem Anw (vars:List ByteArray) (vals:List Int):Aw 34 [exP (nd 3 []),Db vars,Dv vals] ⟨[],[]⟩ (.ret (ofP 2 (some (zF,true)))) ⟨[],[]⟩:=by
 refine Dl Tryz.func34 rfl rfl (Nat.le_of_ble_eq_true rfl) (fun _=>?_)
 refine Sb ?_
 repeat' (first|refine rl3 ?_|refine rs3 ?_ ?_<;>intro h|fail)
 refine C7 ?_
 repeat' (first|refine rl3 ?_|refine rs3 ?_ ?_<;>intro h|fail)
 refine wp1 (Ami true) ?_
 repeat' (first|refine rl3 ?_|refine rs3 ?_ ?_<;>intro h|fail)
 exact Zk (.inr rfl) rfl rfl (Ag9 (B7 (Aas rfl) (B7 (Aas rfl) Gl)))
theorem Amq (vars:List ByteArray) (vals:List Int):Aw 34 [exP (nd 4 []),Db vars,Dv vals] ⟨[],[]⟩ (.ret (ofP 2 (some (zF,false)))) ⟨[],[]⟩:=by
 refine Dl Tryz.func34 rfl rfl (Nat.le_of_ble_eq_true rfl) (fun _=>?_)
 refine Sb ?_
 repeat' (first|refine rl3 ?_|refine rs3 ?_ ?_<;>intro h|fail)
 refine C7 ?_
 repeat' (first|refine rl3 ?_|refine rs3 ?_ ?_<;>intro h|fail)
 refine wp1 (Ami false) ?_
 repeat' (first|refine rl3 ?_|refine rs3 ?_ ?_<;>intro h|fail)
 exact Zk (.inr rfl) rfl rfl (Ag9 (B7 (Aas rfl) (B7 (Aas rfl) Gl)))
theorem ofneg_do (vars:List ByteArray) (vals:List Int) {k:Nat} (a:Ex) (r:Res) (hf:Fit k r.1) (hk:k<=1000) (hc:Aw 34 [exP a,Db vars,Dv vals] ⟨[],[]⟩ (.ret (ofP 1 (some r))) ⟨[],[]⟩):Aw 34 [exP (nd 5 [a]),Db vars,Dv vals] ⟨[],[]⟩ (.ret (ofP 1 (some (Ans r.1,false)))) ⟨[],[]⟩:=by
 refine Dl Tryz.func34 rfl rfl (Nat.le_of_ble_eq_true rfl) (fun _=>?_)
 refine Sb ?_
 repeat' (first|refine rl3 ?_|refine rs3 ?_ ?_<;>intro h|fail)
 refine C7 ?_
 repeat' (first|refine rl3 ?_|refine rs3 ?_ ?_<;>intro h|fail)
 refine wix _ rfl rfl rfl rfl rfl (Ak (i:=0) rfl) (by omega) ?_
 repeat' (first|refine rl3 ?_|refine rs3 ?_ ?_<;>intro h|fail)
 refine wp1 hc ?_
 repeat' (first|refine rl3 ?_|refine rs3 ?_ ?_<;>intro h|fail)
 refine C7 ?_
 repeat' (first|refine rl3 ?_|refine rs3 ?_ ?_<;>intro h|fail)
 refine wp1 (An5 hf hk) ?_
 repeat' (first|refine rl3 ?_|refine rs3 ?_ ?_<;>intro h|fail)
 exact Zk (.inr rfl) rfl rfl (Ag9 (B7 (Aas rfl) (B7 (Aas rfl) Gl)))
theorem ofnot_do (vars:List ByteArray) (vals:List Int) (a:Ex) (r:Res) (hc:Aw 34 [exP a,Db vars,Dv vals] ⟨[],[]⟩ (.ret (ofP 2 (some r))) ⟨[],[]⟩):Aw 34 [exP (nd 6 [a]),Db vars,Dv vals] ⟨[],[]⟩ (.ret (ofP 2 (some (zF,!r.2)))) ⟨[],[]⟩:=by
 refine Dl Tryz.func34 rfl rfl (Nat.le_of_ble_eq_true rfl) (fun _=>?_)
 refine Sb ?_
 repeat' (first|refine rl3 ?_|refine rs3 ?_ ?_<;>intro h|fail)
 refine C7 ?_
 repeat' (first|refine rl3 ?_|refine rs3 ?_ ?_<;>intro h|fail)
 refine wix _ rfl rfl rfl rfl rfl (Ak (i:=0) rfl) (by omega) ?_
 repeat' (first|refine rl3 ?_|refine rs3 ?_ ?_<;>intro h|fail)
 refine wp1 hc ?_
 repeat' (first|refine rl3 ?_|refine rs3 ?_ ?_<;>intro h|fail)
 refine C7 ?_
 repeat' (first|refine rl3 ?_|refine rs3 ?_ ?_<;>intro h|fail)
 refine wp1 (Ami (!r.2)) ?_
 repeat' (first|refine rl3 ?_|refine rs3 ?_ ?_<;>intro h|fail)
 exact Zk (.inr rfl) rfl rfl (Ag9 (B7 (Aas rfl) (B7 (Aas rfl) Gl)))
theorem Aiz (vars:List ByteArray) (vals:List Int) (o k j:Int) (a:Ex) (l:List Ex) (ho:5<=o) (hc:Aw 34 [exP a,Db vars,Dv vals] ⟨[],[]⟩ (.ret (ofP k none)) ⟨[],[]⟩):Aw 34 [exP (nd o (a::l)),Db vars,Dv vals] ⟨[],[]⟩ (.ret (ofP j none)) ⟨[],[]⟩:=by
 have e0:(nd o (a::l)).op=o:=rfl
 refine Dl Tryz.func34 rfl rfl (Nat.le_of_ble_eq_true rfl) (fun _=>?_)
 refine Sb ?_
 repeat' (first|refine rl3 ?_|refine rs3 ?_ ?_<;>intro h|fail)
 refine C7 ?_
 repeat' (first|refine rl3 ?_|refine rs3 ?_ ?_<;>intro h|fail)
 all_goals first|(exfalso;have:=of_decide_eq_true h;omega)|skip
 refine wix _ rfl rfl rfl rfl rfl (Ak (l:=a::l) (i:=0) rfl) (by decide) ?_
 repeat' (first|refine rl3 ?_|refine rs3 ?_ ?_<;>intro h|fail)
 refine wp1 hc ?_
 repeat' (first|refine rl3 ?_|refine rs3 ?_ ?_<;>intro h|fail)
 exact Zk (.inr rfl) rfl rfl (Ag9 (B7 (Aas rfl) (B7 (Aas rfl) Gl)))
theorem ofbin_do (vars:List ByteArray) (vals:List Int) {k:Nat} (o:Int) (a b:Ex) (r t:Res) (h1:7<=o) (h2:o<=16) (hf:Fit k r.1) (hg:Fit k t.1) (hk:k<=1000)
  (hc:Aw 34 [exP a,Db vars,Dv vals] ⟨[],[]⟩ (.ret (ofP 1 (some r))) ⟨[],[]⟩) (hd:Aw 34 [exP b,Db vars,Dv vals] ⟨[],[]⟩ (.ret (ofP 1 (some t))) ⟨[],[]⟩):Aw 34 [exP (nd o [a,b]),Db vars,Dv vals] ⟨[],[]⟩ (.ret (ofP (if 11<=o then 2 else 1) (Aoa o r t))) ⟨[],[]⟩:=by
 have htw:=two_any o r t h1 h2 hf hg hk
 generalize (if 11<=o then (2:Int) else 1)=j at *
 have e:∃ s y z w,ofP j (Aoa o r t) = .tup [vlP s y z,At w]:=by
  cases Aoa o r t with
  |none=>exact ⟨0,⟨#[]⟩,false,false,rfl⟩
  |some u =>
   simp only [ofP]
   by_cases hj:j=2
   ·rw [if_pos hj];exact ⟨_,_,_,_,rfl⟩
   ·rw [if_neg hj];exact ⟨_,_,_,_,rfl⟩
 obtain ⟨s,y,z,w,e⟩:=e
 rw [e] at htw |-
 have ho:o=7\/o=8\/o=9\/o=10\/o=11\/o=12\/o=13\/o=14\/o=15\/o=16:=by omega
 clear h1 h2 e
 rcases ho with rfl|rfl|rfl|rfl|rfl|rfl|rfl|rfl|rfl|rfl
 all_goals
  refine Dl Tryz.func34 rfl rfl (Nat.le_of_ble_eq_true rfl) (fun _=>?_)
  refine Sb ?_
  repeat' (first|refine rl3 ?_|refine rs3 ?_ ?_<;>intro h|fail)
  refine C7 ?_
  repeat' (first|refine rl3 ?_|refine rs3 ?_ ?_<;>intro h|fail)
  refine wix _ rfl rfl rfl rfl rfl (Ak (l:=[a,b]) (i:=0) rfl) (by decide) ?_
  repeat' (first|refine rl3 ?_|refine rs3 ?_ ?_<;>intro h|fail)
  refine wp1 hc ?_
  repeat' (first|refine rl3 ?_|refine rs3 ?_ ?_<;>intro h|fail)
  refine C7 ?_
  repeat' (first|refine rl3 ?_|refine rs3 ?_ ?_<;>intro h|fail)
  refine wix _ rfl rfl rfl rfl rfl (Ak (l:=[a,b]) (i:=1) rfl) (by decide) ?_
  repeat' (first|refine rl3 ?_|refine rs3 ?_ ?_<;>intro h|fail)
  refine wp1 hd ?_
  repeat' (first|refine rl3 ?_|refine rs3 ?_ ?_<;>intro h|fail)
  refine wp1 htw ?_
  repeat' (first|refine rl3 ?_|refine rs3 ?_ ?_<;>intro h|fail)
  exact Zk (.inr rfl) rfl rfl (Ag9 (B7 (Aas rfl) (B7 (Aas rfl) Gl)))
theorem Akt (j:Int) (o:Option Res):∃ s y z w,ofP j o = .tup [vlP s y z,At w]:=by
 cases o with
 |none=>exact ⟨0,⟨#[]⟩,false,false,rfl⟩
 |some u =>
  simp only [ofP]
  by_cases hj:j=2
  ·rw [if_pos hj];exact ⟨_,_,_,_,rfl⟩
  ·rw [if_neg hj];exact ⟨_,_,_,_,rfl⟩
section
variable (vars:List ByteArray) (vals:List Int)
theorem ofyes_do (a b c:Ex) (f:Fr) (j:Int) (u:Option Res) (hc:Aw 34 [exP a,Db vars,Dv vals] ⟨[],[]⟩ (.ret (ofP 2 (some (f,true)))) ⟨[],[]⟩) (hd:Aw 34 [exP b,Db vars,Dv vals] ⟨[],[]⟩ (.ret (ofP j u)) ⟨[],[]⟩):Aw 34 [exP (nd 19 [a,b,c]),Db vars,Dv vals] ⟨[],[]⟩ (.ret (ofP j u)) ⟨[],[]⟩:=by
 obtain ⟨s,z,t,w,e⟩:=Akt j u
 rw [e] at hd |-
 refine Dl Tryz.func34 rfl rfl (Nat.le_of_ble_eq_true rfl) (fun _=>?_)
 refine Sb ?_
 repeat' (first|refine rl3 ?_|refine rs3 ?_ ?_<;>intro h|fail)
 refine C7 ?_
 repeat' (first|refine rl3 ?_|refine rs3 ?_ ?_<;>intro h|fail)
 refine wix _ rfl rfl rfl rfl rfl (Ak (l:=[a,b,c]) (i:=0) rfl) (by decide) ?_
 repeat' (first|refine rl3 ?_|refine rs3 ?_ ?_<;>intro h|fail)
 refine wp1 hc ?_
 repeat' (first|refine rl3 ?_|refine rs3 ?_ ?_<;>intro h|fail)
 refine C7 ?_
 repeat' (first|refine rl3 ?_|refine rs3 ?_ ?_<;>intro h|fail)
 refine wix _ rfl rfl rfl rfl rfl (Ak (l:=[a,b,c]) (i:=1) rfl) (by decide) ?_
 repeat' (first|refine rl3 ?_|refine rs3 ?_ ?_<;>intro h|fail)
 refine wp1 hd ?_
 repeat' (first|refine rl3 ?_|refine rs3 ?_ ?_<;>intro h|fail)
 exact Zk (.inr rfl) rfl rfl (Ag9 (B7 (Aas rfl) (B7 (Aas rfl) Gl)))
theorem Ant (a b c:Ex) (f:Fr) (j:Int) (u:Option Res) (hc:Aw 34 [exP a,Db vars,Dv vals] ⟨[],[]⟩ (.ret (ofP 2 (some (f,false)))) ⟨[],[]⟩) (hd:Aw 34 [exP c,Db vars,Dv vals] ⟨[],[]⟩ (.ret (ofP j u)) ⟨[],[]⟩):Aw 34 [exP (nd 19 [a,b,c]),Db vars,Dv vals] ⟨[],[]⟩ (.ret (ofP j u)) ⟨[],[]⟩:=by
 obtain ⟨s,z,t,w,e⟩:=Akt j u
 rw [e] at hd |-
 refine Dl Tryz.func34 rfl rfl (Nat.le_of_ble_eq_true rfl) (fun _=>?_)
 refine Sb ?_
 repeat' (first|refine rl3 ?_|refine rs3 ?_ ?_<;>intro h|fail)
 refine C7 ?_
 repeat' (first|refine rl3 ?_|refine rs3 ?_ ?_<;>intro h|fail)
 refine wix _ rfl rfl rfl rfl rfl (Ak (l:=[a,b,c]) (i:=0) rfl) (by decide) ?_
 repeat' (first|refine rl3 ?_|refine rs3 ?_ ?_<;>intro h|fail)
 refine wp1 hc ?_
 repeat' (first|refine rl3 ?_|refine rs3 ?_ ?_<;>intro h|fail)
 refine C7 ?_
 repeat' (first|refine rl3 ?_|refine rs3 ?_ ?_<;>intro h|fail)
 refine wix _ rfl rfl rfl rfl rfl (Ak (l:=[a,b,c]) (i:=2) rfl) (by decide) ?_
 repeat' (first|refine rl3 ?_|refine rs3 ?_ ?_<;>intro h|fail)
 refine wp1 hd ?_
 repeat' (first|refine rl3 ?_|refine rs3 ?_ ?_<;>intro h|fail)
 exact Zk (.inr rfl) rfl rfl (Ag9 (B7 (Aas rfl) (B7 (Aas rfl) Gl)))
theorem Anv (o:Int) (a b:Ex) (f:Fr) (ho:o=17\/o=18) (hc:Aw 34 [exP a,Db vars,Dv vals] ⟨[],[]⟩ (.ret (ofP 2 (some (f,decide (o=18))))) ⟨[],[]⟩):Aw 34 [exP (nd o [a,b]),Db vars,Dv vals] ⟨[],[]⟩ (.ret (ofP 2 (some (f,decide (o=18))))) ⟨[],[]⟩:=by
 rcases ho with rfl|rfl
 all_goals
  refine Dl Tryz.func34 rfl rfl (Nat.le_of_ble_eq_true rfl) (fun _=>?_)
  refine Sb ?_
  repeat' (first|refine rl3 ?_|refine rs3 ?_ ?_<;>intro h|fail)
  refine C7 ?_
  repeat' (first|refine rl3 ?_|refine rs3 ?_ ?_<;>intro h|fail)
  refine wix _ rfl rfl rfl rfl rfl (Ak (l:=[a,b]) (i:=0) rfl) (by decide) ?_
  repeat' (first|refine rl3 ?_|refine rs3 ?_ ?_<;>intro h|fail)
  refine wp1 hc ?_
  repeat' (first|refine rl3 ?_|refine rs3 ?_ ?_<;>intro h|fail)
  refine C7 ?_
  repeat' (first|refine rl3 ?_|refine rs3 ?_ ?_<;>intro h|fail)
  exact Zk (.inr rfl) rfl rfl (Ag9 (B7 (Aas rfl) (B7 (Aas rfl) Gl)))
theorem ofgo_do (o:Int) (a b:Ex) (f:Fr) (u:Option Res) (ho:o=17\/o=18) (hc:Aw 34 [exP a,Db vars,Dv vals] ⟨[],[]⟩ (.ret (ofP 2 (some (f,decide (o=17))))) ⟨[],[]⟩) (hd:Aw 34 [exP b,Db vars,Dv vals] ⟨[],[]⟩ (.ret (ofP 2 u)) ⟨[],[]⟩):Aw 34 [exP (nd o [a,b]),Db vars,Dv vals] ⟨[],[]⟩ (.ret (ofP 2 u)) ⟨[],[]⟩:=by
 obtain ⟨s,z,t,w,e⟩:=Akt 2 u
 rw [e] at hd |-
 cases w
 all_goals
  rcases ho with rfl|rfl
  all_goals
   refine Dl Tryz.func34 rfl rfl (Nat.le_of_ble_eq_true rfl) (fun _=>?_)
   refine Sb ?_
   repeat' (first|refine rl3 ?_|refine rs3 ?_ ?_<;>intro h|fail)
   refine C7 ?_
   repeat' (first|refine rl3 ?_|refine rs3 ?_ ?_<;>intro h|fail)
   refine wix _ rfl rfl rfl rfl rfl (Ak (l:=[a,b]) (i:=0) rfl) (by decide) ?_
   repeat' (first|refine rl3 ?_|refine rs3 ?_ ?_<;>intro h|fail)
   refine wp1 hc ?_
   repeat' (first|refine rl3 ?_|refine rs3 ?_ ?_<;>intro h|fail)
   refine C7 ?_
   repeat' (first|refine rl3 ?_|refine rs3 ?_ ?_<;>intro h|fail)
   refine wix _ rfl rfl rfl rfl rfl (Ak (l:=[a,b]) (i:=1) rfl) (by decide) ?_
   repeat' (first|refine rl3 ?_|refine rs3 ?_ ?_<;>intro h|fail)
   refine wp1 hd ?_
   repeat' (first|refine rl3 ?_|refine rs3 ?_ ?_<;>intro h|fail)
   exact Zk (.inr rfl) rfl rfl (Ag9 (B7 (Aas rfl) (B7 (Aas rfl) Gl)))
theorem Amr (o k:Int) (a b:Ex) (r:Res) (h1:7<=o) (h2:o<=16) (hc:Aw 34 [exP a,Db vars,Dv vals] ⟨[],[]⟩ (.ret (ofP 1 (some r))) ⟨[],[]⟩) (hd:Aw 34 [exP b,Db vars,Dv vals] ⟨[],[]⟩ (.ret (ofP k none)) ⟨[],[]⟩):Aw 34 [exP (nd o [a,b]),Db vars,Dv vals] ⟨[],[]⟩ (.ret (ofP k none)) ⟨[],[]⟩:=by
 have ho:o=7\/o=8\/o=9\/o=10\/o=11\/o=12\/o=13\/o=14\/o=15\/o=16:=by omega
 clear h1 h2
 rcases ho with rfl|rfl|rfl|rfl|rfl|rfl|rfl|rfl|rfl|rfl
 all_goals
  refine Dl Tryz.func34 rfl rfl (Nat.le_of_ble_eq_true rfl) (fun _=>?_)
  refine Sb ?_
  repeat' (first|refine rl3 ?_|refine rs3 ?_ ?_<;>intro h|fail)
  refine C7 ?_
  repeat' (first|refine rl3 ?_|refine rs3 ?_ ?_<;>intro h|fail)
  refine wix _ rfl rfl rfl rfl rfl (Ak (l:=[a,b]) (i:=0) rfl) (by decide) ?_
  repeat' (first|refine rl3 ?_|refine rs3 ?_ ?_<;>intro h|fail)
  refine wp1 hc ?_
  repeat' (first|refine rl3 ?_|refine rs3 ?_ ?_<;>intro h|fail)
  refine C7 ?_
  repeat' (first|refine rl3 ?_|refine rs3 ?_ ?_<;>intro h|fail)
  refine wix _ rfl rfl rfl rfl rfl (Ak (l:=[a,b]) (i:=1) rfl) (by decide) ?_
  repeat' (first|refine rl3 ?_|refine rs3 ?_ ?_<;>intro h|fail)
  refine wp1 hd ?_
  repeat' (first|refine rl3 ?_|refine rs3 ?_ ?_<;>intro h|fail)
  exact Zk (.inr rfl) rfl rfl (Ag9 (B7 (Aas rfl) (B7 (Aas rfl) Gl)))
end
theorem Anu (vars:List ByteArray) (vals:List Int) (s:ByteArray) (hl:vars.length=vals.length) (hv:Yz vals) (hm:Je vars s=true):Aw 34 [exP (.mk 2 0 s []),Db vars,Dv vals] ⟨[],[]⟩ (.ret (ofP 1 (some ((varV vars vals s,1),false)))) ⟨[],[]⟩:=by
 refine Dl Tryz.func34 rfl rfl (Nat.le_of_ble_eq_true rfl) (fun hf=>?_)
 have hlen:vars.length<=9223372036854775807:=by have:=hf.2.1;simpa [Al0] using this
 refine Sb ?_
 repeat' (first|refine rl3 ?_|refine rs3 ?_ ?_<;>intro h|fail)
 refine C7 ?_
 repeat' (first|refine rl3 ?_|refine rs3 ?_ ?_<;>intro h|fail)
 refine C7 ?_
 repeat' (first|refine rl3 ?_|refine rs3 ?_ ?_<;>intro h|fail)
 refine Ca (ι := Nat) (ok:=fun i=>i<=vars.length/\Je (vars.take i) s=false) (L:=fun i=>[(1,Db vars),(2,Dv vals),(3,.ptr 0 0),(6,.ptr 1 0),(7,At false),(8,An i)]) (Sx:=fun _=>⟨[(exP (.mk 2 0 s [])).parts,[An 0,Fi ⟨#[]⟩,At false]],[]⟩) (μ := fun i=>vars.length-i) 0 ⟨Nat.zero_le _,by simp [Je]⟩ (by repeat (first|exact Ag|refine Aa rfl ?_)) rfl ?_
 rintro i ⟨hi,hmm⟩
 repeat' (first|refine rl3 ?_|refine rs3 ?_ ?_<;>intro h|fail)
 rotate_left
 ·exfalso
  rw [List.take_of_length_le (by simp at h;omega),hm] at hmm
  cases hmm
 have hlt:i<vars.length:=by simpa using h
 obtain ⟨x,hx⟩:∃ x,vars[i]? = some x:=⟨_,List.getElem?_eq_getElem hlt⟩
 refine C7 ?_
 repeat' (first|refine rl0 ?_|refine rs0 ?_ ?_<;>intro h|fail)
 refine Tj (Ajm x) rfl rfl rfl rfl rfl (Xy hx) (by omega) ?_
 repeat' (first|refine rl3 ?_|refine rs3 ?_ ?_<;>intro h|fail)
 ·obtain rfl:x=s:=of_decide_eq_true h
  refine wix _ rfl rfl rfl rfl rfl (Rp (l:=vals) (by omega)) (by omega) ?_
  repeat' (first|refine rl3 ?_|refine rs3 ?_ ?_<;>intro h|fail)
  refine wp1 (An6 _ (Age hv i)) ?_
  repeat' (first|refine rl3 ?_|refine rs3 ?_ ?_<;>intro h|fail)
  rw [show varV vars vals x=vals.getD i 0 by unfold varV;rw [Zr hx hmm,Int.toNat_natCast]]
  exact Zk (.inr rfl) rfl rfl (Ag9 (B7 (Aas rfl) (B7 (Aas rfl) Gl)))
 ·exact ⟨i+1,⟨by omega,by rw [Afr hx hmm];exact h⟩,by omega,(by repeat (first|exact Ag|refine Aa rfl ?_)),rfl⟩
theorem of_do' (vars:List ByteArray) (vals:List Int) (hl:vars.length=vals.length) (hv:Yz vals):∀ (n:Nat) (x:Ex),x.hgt<=n->Good x->A6 vars x≠0->Bg x<=60->Aw 34 [exP x,Db vars,Dv vals] ⟨[],[]⟩ (.ret (ofP (A6 vars x) (evX vars vals x))) ⟨[],[]⟩:=by
 intro n
 induction n with
 |zero=>intro a h;cases a;simp [Ex.hgt] at h
 |succ n ih =>
  intro x hn hx hk hs
  cases hx with
  |num m h1 h2 =>
   rw [Zf,show A6 vars (.mk 1 m ⟨#[]⟩ [])=1 from rfl]
   exact ofnum_do vars vals m (by omega)
  |name s h1 =>
   have hm:=Uz hk
   rw [Aer,show A6 vars (.mk 2 0 s [])=if (2:Int)=2/\Je vars s=false then 0 else 1 from rfl,if_neg (by simp [hm])]
   exact Anu vars vals s hl hv hm
  |yes=>exact Anw vars vals
  |no=>exact Amq vars vals
  |neg a ha =>
   obtain ⟨hka,hki⟩:=Ng hk (by omega) (by omega)
   rw [show H1 5=1 from rfl] at hka
   rw [show isZ 5=1 from rfl] at hki
   have hna:Bg a+1=Bg (nd 5 [a]):=by rw [nd,A8,Be,B2];omega
   have hc:=ih a (by have:=Ga (x:=nd 5 [a]) (y:=a) (by simp [nd,Ex.args]);omega) ha (by omega) (by omega)
   have hkk:=Rb (vars:=vars) hv ha (by omega)
   rw [hka] at hc
   rw [Ana,hki]
   cases e:evX vars vals a with
   |none =>
    rw [e] at hc
    exact Aiz vars vals 5 1 1 a [] (by omega) hc
   |some r =>
    rw [e] at hc
    obtain ⟨hf,hb⟩:=(hkk r e).1 hka
    exact ofneg_do vars vals a r hf (by omega) hc
  |not a ha =>
   obtain ⟨hka,hki⟩:=Ng hk (by omega) (by omega)
   rw [show H1 6=2 from rfl] at hka
   rw [show isZ 6=2 from rfl] at hki
   have hna:Bg a+1=Bg (nd 6 [a]):=by rw [nd,A8,Be,B2];omega
   have hc:=ih a (by have:=Ga (x:=nd 6 [a]) (y:=a) (by simp [nd,Ex.args]);omega) ha (by omega) (by omega)
   rw [hka] at hc
   rw [Aes,hki]
   cases e:evX vars vals a with
   |none =>
    rw [e] at hc
    exact Aiz vars vals 6 2 2 a [] (by omega) hc
   |some r =>
    rw [e] at hc
    exact ofnot_do vars vals a r hc
  |bin o a b h1 h2 ha hb =>
   obtain ⟨hka,hkb,hko⟩:=Zv hk (by omega) (by omega)
   have hw:H1 o≠0:=by unfold H1;split<;>omega
   have hna:Bg a+Bg b+1=Bg (nd o [a,b]):=by rw [nd,A8,Be,Be,B2];omega
   have hca:=ih a (by have:=Ga (x:=nd o [a,b]) (y:=a) (by simp [nd,Ex.args]);omega) ha (by omega) (by omega)
   have hcb:=ih b (by have:=Ga (x:=nd o [a,b]) (y:=b) (by simp [nd,Ex.args]);omega) hb (by omega) (by omega)
   have hva:=Rb (vars:=vars) hv ha (by omega)
   have hvb:=Rb (vars:=vars) hv hb (by omega)
   rw [hka] at hca
   rw [hkb] at hcb
   rw [hko]
   by_cases hlog:o=17\/o=18
   ·have hw2:H1 o=2:=by unfold H1;rw [if_pos (by omega)]
    have hi2:isZ o=2:=by unfold isZ;rw [if_pos (by omega)]
    rw [hw2] at hca hcb
    rw [Ze _ _ o hlog,hi2]
    cases e:evX vars vals a with
    |none =>
     rw [e] at hca
     exact Aiz vars vals o 2 2 a [b] (by omega) hca
    |some r =>
     rw [e] at hca
     obtain ⟨f,y⟩:=r
     rw [Option.bind_some]
     (try dsimp only)
     by_cases hy:y=decide (o=18)
     ·subst hy
      rw [if_pos rfl]
      exact Anv vars vals o a b f hlog hca
     ·rw [if_neg hy]
      have hy2:y=decide (o=17):=by rcases hlog with rfl|rfl<;>cases y<;>simp_all
      subst hy2
      exact ofgo_do vars vals o a b f _ hlog hca hcb
   ·have hw1:H1 o=1:=by unfold H1;rw [if_neg (by omega)]
    have hio:isZ o=if 11<=o then 2 else 1:=by unfold isZ;by_cases h:11<=o<;>(first|rw [if_pos h,if_pos (by omega)]|rw [if_neg h,if_neg (by omega)])
    rw [hw1] at hca hcb
    rw [Zg _ _ o h1 (by omega),hio]
    cases e:evX vars vals a with
    |none =>
     rw [e] at hca
     exact Aiz vars vals o 1 _ a [b] (by omega) hca
    |some r =>
     rw [e] at hca
     rw [Option.bind_some]
     (try dsimp only)
     cases e2:evX vars vals b with
     |none =>
      rw [e2] at hcb
      exact Amr vars vals o 1 a b r h1 (by omega) hca hcb
     |some t =>
      rw [e2] at hcb
      rw [Option.bind_some]
      have fa:=((hva _ e).1 (by omega)).1
      have fb:=((hvb _ e2).1 (by omega)).1
      exact ofbin_do vars vals (k:=60) o a b r t h1 (by omega) (fa.mono (by omega)) (fb.mono (by omega)) (by decide) hca hcb
  |ite a b c ha hb hc =>
   obtain ⟨hka,hkb,hkc⟩:=Zu hk
   have hna:Bg a+Bg b+Bg c+1=Bg (nd 19 [a,b,c]):=by rw [nd,A8,Be,Be,Be,B2];omega
   have hca:=ih a (by have:=Ga (x:=nd 19 [a,b,c]) (y:=a) (by simp [nd,Ex.args]);omega) ha (by omega) (by omega)
   have hcb:=ih b (by have:=Ga (x:=nd 19 [a,b,c]) (y:=b) (by simp [nd,Ex.args]);omega) hb (by omega) (by omega)
   have hcc:=ih c (by have:=Ga (x:=nd 19 [a,b,c]) (y:=c) (by simp [nd,Ex.args]);omega) hc (by omega) (by omega)
   rw [hka] at hca
   rw [<- hkb] at hcc
   rw [Aeq,hkc]
   cases e:evX vars vals a with
   |none =>
    rw [e] at hca
    exact Aiz vars vals 19 2 _ a [b,c] (by omega) hca
   |some r =>
    rw [e] at hca
    obtain ⟨f,y⟩:=r
    rw [Option.bind_some]
    (try dsimp only)
    cases y with
    |true=>rw [if_pos rfl];exact ofyes_do vars vals a b c f _ _ hca hcb
    |false=>rw [if_neg (by simp)];exact Ant vars vals a b c f _ _ hca hcc
theorem vars_row (S:PS):Aw 7 [] S (.ret (.hd S.toks.length 0)) (S.addTok ⟨0,1,Dc.map Ajm,9⟩):=by
 refine ⟨enters_of Tryz.func7 rfl rfl,Nb Tryz.func7 rfl (Nat.le_of_ble_eq_true rfl) ?_⟩
 refine Co ?_
 refine Bf ?_
 refine wst rfl rfl trivial ?_
 refine Cq ?_
 refine Co ?_
 refine Bf ?_
 refine Eo (r := .hd S.toks.length 0) (S':=S.addTok ⟨0,1,Dc.map Ajm,9⟩) rfl (Ajd Fj rfl (C:=True) rfl) ?_
 refine wst rfl rfl trivial ?_
 refine Cq ?_
 refine Fl ?_
 exact ⟨.inr rfl,rfl,_,B5 rfl,rfl⟩
theorem cut5 (vars:List ByteArray):(((vars.map Ajm).take ((if (5:Int)<((vars.map Ajm).length:Int) then (5:Int) else ((vars.map Ajm).length:Int)).toNat)).drop (0:Int).toNat)=(vars.take 5).map Ajm:=by
 simp only [Int.toNat_zero,List.drop_zero,List.length_map,<- List.map_take]
 congr 1
 split
 ·rfl
 ·rw [Int.toNat_natCast,List.take_length,List.take_of_length_le (by omega)]
theorem Al1:∀ {ys:List Ex} {i:Nat} {y:Ex},ys[i]? = some y->((ys.flatMap fun y=>(exP y).parts).drop (((i:Nat):Int).toNat*4)).take 4=(exP y).parts/\((i:Nat):Int).toNat*4+4<=(ys.flatMap fun y=>(exP y).parts).length
 |[],_,_,h=>by simp at h
 |z::ys,0,y,h=>by
  simp at h;subst h
  exact ⟨rfl,by simp only [List.flatMap_cons,List.length_append];show 0+4<=4+_;omega⟩
 |z::ys,i+1,y,h=>by
  simp only [List.getElem?_cons_succ] at h
  obtain ⟨h1,h2⟩:=Al1 h
  rw [Int.toNat_natCast] at h1 h2 |-
  rw [List.flatMap_cons,show (i+1)*4=4+i*4 by omega]
  refine ⟨?_,?_⟩
  ·rw [<- List.drop_drop]
   exact h1
  ·rw [List.length_append];show 4+i*4+4<=4+_;omega
theorem Aid {n m:Nat}:∀ ys:List Ex,PV.ltL n m (ys.flatMap fun y=>(exP y).parts)=true
 |[]=>rfl
 |y::ys=>by
  rw [List.flatMap_cons]
  show PV.ltL n m (_::_::_::_::(ys.flatMap fun y=>(exP y).parts))=true
  simp only [PV.ltL,PV.lt,Bool.true_and]
  exact Aid ys
set_option maxHeartbeats 1000000 in
theorem Aii (x:Ex) (vars:List ByteArray) (vals:List Int) (hs:x.small):Aw 11 [exP x,Db vars,Dv vals] ⟨[],[]⟩ (.ret (.tup [vrP (evR vars vals x).1,An (evR vars vals x).2])) ⟨[],[]⟩:=by
 refine Es Tryz.func11 rfl rfl (Nat.le_of_ble_eq_true rfl) rfl (Nat.le_refl _) ?_
 intro hf
 have hlen:vars.length<=9223372036854775807:=by have:=hf.2.1;simpa [Al0] using this
 unfold evR
 repeat' (first|refine rl0 ?_|refine rs0 ?_ ?_<;>intro h|fail)
 refine Gh (right_do x hs) rfl rfl rfl rfl rfl (by repeat (first|exact Ae|refine Ab (Ac _) ?_)) ?_
 repeat' (first|refine rl0 ?_|refine rs0 ?_ ?_<;>intro h|fail)
 ·have h':Mu x=false:=by simpa using h
  have hc:Bp x=350:=by
   unfold Bp;rw [h'];rfl
  rw [if_pos (by omega),hc];rfl
 ·rename_i h1
  have hc:Bp x=0:=(E0 x).2 (by simpa using h1)
  have hl:vars.length≠vals.length:=by simp at h;omega
  rw [if_neg (fun h=>h hc),if_pos (.inl hl)];rfl
 rename_i h1
 have hc:Bp x=0:=(E0 x).2 (by simpa using h1)
 have hl:vars.length=vals.length:=by simp at h;omega
 rw [if_neg (fun h=>h hc)]
 refine Ca (ι := Nat) (ok:=fun i=>i<=vars.length/\(List.range i).all (Iv vars vals)=true) (L:=fun i=>[(1,Db vars),(2,Dv vals),(3,.ptr 0 0),(6,.ptr 1 0),(7,An 0),(8,An i)]) (Sx:=fun _=>⟨[(exP x).parts,[An 0,Fi ⟨#[]⟩,At false]],[]⟩) (μ := fun i=>vars.length-i) 0 ⟨Nat.zero_le _,rfl⟩ (by repeat (first|exact Ag|refine Aa rfl ?_)) rfl ?_
 rintro i ⟨hi,hm⟩
 repeat' (first|refine rl0 ?_|refine rs0 ?_ ?_<;>intro h|fail)
 ·have hlt:i<vars.length:=by simpa using h
  refine wan rfl rfl ⟨by omega,by omega,by simp;omega⟩ ?_
  repeat' (first|refine rl0 ?_|refine rs0 ?_ ?_<;>intro h|fail)
  refine Tj _ rfl rfl rfl rfl rfl (Amd hlt) (by omega) ?_
  repeat' (first|refine rl0 ?_|refine rs0 ?_ ?_<;>intro h|fail)
  have e:((vars.map Ajm).take ((i:Int)).toNat).drop (0:Int).toNat=(vars.take i).map Ajm:=by simp [List.map_take]
  refine wcn (in_do (vars.take i) (vars.getD i ⟨#[]⟩)) rfl rfl rfl rfl rfl (Ab (Am2 (congrArg (fun z=>PV.d (DV.sl 1 z)) e)) (by repeat (first|exact Ae|refine Ab (Ac _) ?_))) ?_
  repeat' (first|refine rl0 ?_|refine rs0 ?_ ?_<;>intro h|fail)
  ·rw [if_pos (.inr (L4 hlt (by unfold Iv;rw [h];rfl)))];rfl
  have hm2:=h
  refine Tj _ rfl rfl rfl rfl rfl (Rp (l:=vals) (by omega)) (by omega) ?_
  repeat' (first|refine rl0 ?_|refine rs0 ?_ ?_<;>intro h|fail)
  ·rw [if_pos (.inr (L4 hlt (by unfold Iv;rw [show decide (-9999<=vals.getD i 0)=false by simp at h |-;omega];simp)))];rfl
  have hm3:=h
  refine Tj _ rfl rfl rfl rfl rfl (Rp (l:=vals) (by omega)) (by omega) ?_
  repeat' (first|refine rl0 ?_|refine rs0 ?_ ?_<;>intro h|fail)
  ·rw [if_pos (.inr (L4 hlt (by unfold Iv;rw [show decide (vals.getD i 0<=9999)=false by simp at h |-;omega];simp)))];rfl
  ·refine ⟨i+1,⟨by omega,Acf hm ?_⟩,by omega,(by repeat (first|exact Ag|refine Aa rfl ?_)),rfl⟩
   unfold Iv
   rw [hm2]
   simp at hm3 h |-
   omega
 ·obtain rfl:i=vars.length:=by simp at h;omega
  have hr:E8 vars vals=true:=hm
  rw [if_neg (by rw [hr];simp [hl])]
  repeat' (first|refine rl0 ?_|refine rs0 ?_ ?_<;>intro h|fail)
  refine Gh (kind_do vars x.hgt x (Nat.le_refl _) (Abn hc)) rfl rfl rfl rfl rfl (by repeat (first|exact Ae|refine Ab (Ac _) ?_)) ?_
  repeat' (first|refine rl0 ?_|refine rs0 ?_ ?_<;>intro h|fail)
  ·rw [if_pos (of_decide_eq_true h)];rfl
  have hk:A6 vars x≠0:=of_decide_eq_false h
  have hgx:=Abo hc
  have hvr:=Ach hl hr
  have hv:Yz vals:=fun v hv=>by have:=hvr v hv;omega
  have hof:=of_do' vars vals hl hv _ x (Nat.le_refl _) hgx hk (Xf hc)
  rw [if_neg hk]
  cases e:evX vars vals x with
  |none =>
   rw [e] at hof
   refine Gh hof rfl rfl rfl rfl rfl (by repeat (first|exact Ae|refine Ab (Ac _) ?_)) ?_
   repeat' (first|refine rl0 ?_|refine rs0 ?_ ?_<;>intro h|fail)
   rfl
  |some r =>
   rw [e] at hof
   dsimp only
   by_cases h2:A6 vars x=2
   ·rw [if_pos h2]
    unfold ofP at hof
    dsimp only at hof
    rw [if_pos h2] at hof
    refine Gh hof rfl rfl rfl rfl rfl (by repeat (first|exact Ae|refine Ab (Ac _) ?_)) ?_
    repeat' (first|refine rl0 ?_|refine rs0 ?_ ?_<;>intro h|fail)
    rfl
   ·rw [if_neg h2]
    unfold ofP at hof
    dsimp only at hof
    rw [if_neg h2] at hof
    refine Gh hof rfl rfl rfl rfl rfl (by repeat (first|exact Ae|refine Ab (Ac _) ?_)) ?_
    repeat' (first|refine rl0 ?_|refine rs0 ?_ ?_<;>intro h|fail)
    rfl
def Aj3:Kx:=⟨[],[],fun _=>False,fun _ _=>False⟩
theorem Ajy {w:World} {b hi:Nat} (h:b<w.heap.size):Aj3.good w b hi:=⟨h,by simp [Aj3],id,fun _ h=>h.elim,fun t c lo h=>by simp [Aj3] at h⟩
theorem kAll_inv {K:Kx} {S:PS} {w:World} (h:Inv K S w):Inv Aj3 ⟨[],[]⟩ w :=
 ⟨rfl,rfl,fun i b c h=>by simp [Aj3] at h,by simp [Aj3],fun b h=>by simp [Aj3] at h,fun t T c h=>by simp at h,fun t c g lo h=>by simp [Aj3] at h,fun t t' c c' g lo lo' h=>by simp [Aj3] at h,fun t c u h=>by simp [Aj3] at h,fun _ h=>h.elim,fun _ _ h=>h.elim,h.fz.sub (fun b h=>by simp [Aj3] at h) (fun t c h=>by simp [Aj3] at h)⟩
def Lend (S:PS) (p p':PV):Prop:=∀ (K:Kx) (w:World) (u:Value),Inv K S w->Rep K w p u->Rep Aj3 w p' u
def Aki (S:PS):List PV->List PV->Prop
 |[],l=>l=[]
 |p::ps,l=>∃ q qs,l=q::qs/\Lend S p q/\Aki S ps qs
theorem Ak5 {S:PS}:Aki S [] []:=rfl
theorem Ail {S:PS} {p p':PV} {l l':List PV} (h:Lend S p p') (h':Aki S l l'):Aki S (p::l) (p'::l'):=⟨_,_,rfl,h,h'⟩
theorem Ak6 {S:PS} {K:Kx} {w:World} (hI:Inv K S w):∀ {l l':List PV} {us:List Value},Aki S l l'->Ap K w l us->Ap Aj3 w l' us
 |[],l',us,h,hr=>by simp only [Aki] at h;subst h;exact hr
 |p::ps,l',us,h,hr=>by
  simp only [Aki] at h
  obtain ⟨q,qs,rfl,h1,h2⟩:=h
  simp only [Ap] at hr |-
  obtain ⟨u,us',rfl,h3,h4⟩:=hr
  exact ⟨u,us',rfl,h1 K w u hI h3,Ak6 hI h2 h4⟩
theorem Akq {S:PS} {p p':PV} (h:Coe S p p') (hl:p'.lt 0 0=true):Lend S p p':=fun K w u hI hr=>by
 have h1:=h K w u hI hr
 have h2:Ap (Hf K [] []) w [p'] [u]:=Jq (ids:=[]) (tids:=[]) hI Hv (by simp [PV.ltL,hl]) (by
  rw [Gw [p'] (by simp [PV.ltL,hl])]
  exact ⟨u,[],rfl,h1,rfl⟩)
 have h3:=Ap.ren (K:=Aj3) (K0:=Hf K [] []) (fb:=fbN []) (ft:=ftN [] S.toks.length) (fun i b h=>by simp [Hf] at h) (fun t c h=>by simp [Hf] at h) (fun b hi hg=>Ajy hg.1) _ _ h2
 rw [Gw [p'] (by simp [PV.ltL,hl])] at h3
 obtain ⟨u',us',e,h4,_⟩:=h3
 cases e
 exact h4
theorem Ak7 {S:PS} {p:PV} (hl:p.lt 0 0=true):Lend S p p:=Akq (Ac _) hl
theorem Amz {w:World} {b off:Nat} {C:Array Value} {ty:TypeId} (hg:w.heap[b]? = some (.cells C ty (0,0))):∀ (ds:List DV) (us:List Value),(∀ j u,us[j]? = some u->C[off+j]? = some u)->Ap Aj3 w (ds.map .d) us->Aq (Aj3.good w) w ds b off:=fun ds us h hr =>
 If (fun j v hj=>by rw [cell_of_row w b _ C ty (0,0) hg];exact h j v hj) hr
theorem Al3 {S:PS} {k id n cap:Nat} {l:List (List DV)} {c:List PV} (hc:S.boxes[id]? = some c) (hn:l.length=n) (hcl:c.take (n*k)=l.flatten.map .d) (hk:∀ e∈l,e.length=k) (hcap:n<=cap) (h63:cap<=9223372036854775807) (hlt:PV.ltL 0 0 (c.take (n*k))=true):Lend S (.bsl k id 0 n cap) (.d (.sl k l)):=fun K w u hI hr=>by
 simp only [Rep] at hr
 obtain ⟨b,hb,rfl⟩:=hr
 obtain ⟨C,ty,h1,h2,h3⟩:=hI.box id b c hb hc
 have h4:Ap K w (c.take (n*k)) (C.toList.take (n*k)):=h2.take _
 have h5:Ap (Hf K [] []) w (c.take (n*k)) (C.toList.take (n*k)):=Jq (ids:=[]) (tids:=[]) hI Hv hlt (by rw [Gw _ hlt];exact h4)
 have h6:=Ap.ren (K:=Aj3) (K0:=Hf K [] []) (fb:=fbN []) (ft:=ftN [] S.toks.length) (fun i b h=>by simp [Hf] at h) (fun t c h=>by simp [Hf] at h) (fun b hi hg=>Ajy hg.1) _ _ h5
 rw [Gw _ hlt,hcl] at h6
 simp only [Rep,Cj]
 refine ⟨_,cap,by rw [hn],by omega,h63,fun _=>⟨b,0,rfl,Ajy (Array.getElem?_eq_some_iff.1 h1).1,Eh.2 ⟨hk,?_⟩⟩⟩
 refine Amz h1 _ _ (fun j u hj=>?_) h6
 rw [List.getElem?_take] at hj
 split at hj
 ·rw [Nat.zero_add];simpa using hj
 ·cases hj
mutual
def PV.flat:PV->Bool
 |.d (.v _)=>true
 |.agg l=>PV.flatL l
 |.tup l=>PV.flatL l
 |_=>false
def PV.flatL:List PV->Bool
 |[]=>true
 |p::ps=>p.flat&&PV.flatL ps
end
mutual
theorem An1 {K K':Kx} {w w':World}:∀ (p:PV) (u:Value),p.flat=true->Rep K w p u->Rep K' w' p u
 |.d (.v x),u,_,h=>by simpa only [Rep,Cj] using h
 |.agg l,u,h,hr=>by
  simp only [Rep] at hr |-
  obtain ⟨cs,h1,h2⟩:=hr
  exact ⟨cs,h1,Akw l cs h h2⟩
 |.tup l,u,h,hr=>by
  simp only [Rep] at hr |-
  obtain ⟨cs,h1,h2⟩:=hr
  exact ⟨cs,h1,Akw l cs h h2⟩
 |.d (.sl _ _),_,h,_=>by cases h
 |.any,_,h,_=>by cases h
 |.un,_,h,_=>by cases h
 |.ptr _ _,_,h,_=>by cases h
 |.ep _,_,h,_=>by cases h
 |.hd _ _,_,h,_=>by cases h
 |.bsl ..,_,h,_=>by cases h
 |.fn _ _,_,h,_=>by cases h
theorem Akw {K K':Kx} {w w':World}:∀ (l:List PV) (us:List Value),PV.flatL l=true->Ap K w l us->Ap K' w' l us
 |[],_,_,h=>by simpa only [Ap] using h
 |p::ps,us,h,hr=>by
  simp only [PV.flatL,Bool.and_eq_true] at h
  simp only [Ap] at hr |-
  obtain ⟨u,us',rfl,h1,h2⟩:=hr
  exact ⟨u,us',rfl,An1 p u h.1 h1,Akw ps us' h.2 h2⟩
end
section
variable {P:Program} {S:PS} {K K0':Kx} {w w':World}
theorem Anl (hI:Inv K S w) (hs:Step Aj3 K0' w w'):Inv K S w'/\Step K K w w':=by
 have hold:∀ b,b<w.heap.size->w'.heap[b]? = w.heap[b]? := fun b hb=>hs.blocks b hb (by simp [Aj3]) (fun t c lo ht=>by simp [Aj3] at ht)
 have h1:Step K K w w':=⟨hs.os,hs.tape,hs.output,hs.size,fun _ _ h=>h,fun _ h => .inl h,rfl,rfl,fun _ c h=>⟨c,h,List.prefix_rfl⟩,fun t c _ lo h h' => .inr ⟨t,c,lo,h,h',Nat.le_refl _⟩,
  fun b hlt _ _=>hold b hlt,fun t c g lo i ht hc _ _=>A4 (hold g (hI.tokLt ht hc))⟩
 refine ⟨⟨hI.lenβ,hI.lenτ,fun i b c h2 h3=>?_,hI.nodup,hI.βM,fun t T c h2 h3=>?_,hI.tokF,hI.tokI,hI.tokH,fun b hm=>Nat.lt_of_lt_of_le (hI.Mlt b hm) hs.size,fun b lo hm=>Nat.lt_of_lt_of_le (hI.Tlt b lo hm) hs.size,hI.fz.step h1⟩,h1⟩
 ·obtain ⟨_,_,hlt,_⟩:=hI.boxLt h2
  exact (hI.box i b c h2 h3).step h1 (hold b hlt)
 ·obtain ⟨h3',u,h4,h5⟩:=hI.tok t T c h2 h3
  exact ⟨h3',u,h4,h5.step h1 fun g lo hc=>hold g (hI.tokLt h3 hc)⟩
theorem ops_lend {o:Oper} {F:Nat->PV} {c:Operand} {al0:Array Operand} {ats:Array TypeId} {f:Nat} {caps args:List PV} {r:PV} (ho:o.op = .call { callee := .value c,args:=al0,argTypes:=ats }) (he:Ent P f) (hc:evP F c = .fn f caps)
  (ha:Aki S (al0.toList.map (evP F)++caps) args) (hfl:r.flat=true) (hev:EvC P f args ⟨[],[]⟩ (.ret r) ⟨[],[]⟩):OpS P o F S r S:=by
 intro ro mm K w a next Q hI hx hn
 obtain ⟨vs,h1,h2⟩:=La ho he hc hx
 refine Lm h1 ((hev Aj3 w vs (kAll_inv hI) (Ak6 hI ha h2)).mono ?_)
 rintro e w' ⟨K0',hs,hI',v,rfl,hr⟩
 obtain ⟨g1,g2⟩:=Anl hI hs
 exact hn v w' K g2 g1 (An1 r v hfl hr)
end
def Reads (S:PS) (p:PV) (k:Nat) (news:List (List DV)):Prop:=∀ (K:Kx) (w:World) (u:Value),Inv K S w->Rep K w p u ->
 ∃ b o cap vs,u = .slice (some ⟨b,o,none⟩) news.length cap/\vs.length=news.length*k/\w.rangeAt b o vs/\Ap K w (news.flatten.map .d) vs/\∀ e∈news,e.length=k
theorem Aos {S:PS} {p:PV} {k:Nat} {news:List (List DV)} (h:Coe S p (.d (.sl k news))) (hne:news≠[]):Reads S p k news:=fun K w u hI hr=>by
 have h2:=h K w u hI hr
 simp only [Rep,Cj] at h2
 obtain ⟨p,cap2,hu2,_,_,h3⟩:=h2
 obtain ⟨b',o',rfl,hg,hrows⟩:=h3 hne
 obtain ⟨vs,hvl,hvr,hvR⟩:=Sm hrows
 exact ⟨b',o',cap2,vs,hu2,hvl,hvr,hvR,(Eh.1 hrows).1⟩
section
variable {P:Program} {S:PS} {o:Oper} {F:Nat->PV}
theorem Alg {K:Kx} {w:World} {ρ : Operand->Value} {x y:Operand} {ty:TypeId} {I:TyI} {id n:Nat} {c:List PV} {news:List (List DV)} (ho:o.op = .call { callee := .builtin .append,args := #[x,y],argTypes := #[ty,ty] }) (hT:TyI.of P ty=some I) (hk:I.kind=2)
  (hI:Inv K S w) (h1:Rep K w (.bsl I.ek id 0 n n) (ρ x)) (hc:S.boxes[id]? = some c) (hcl:n*I.ek<=c.length) (h2:∃ b o cap vs,ρ y = .slice (some ⟨b,o,none⟩) news.length cap/\vs.length=news.length*I.ek/\w.rangeAt b o vs/\Ap K w (news.flatten.map .d) vs/\∀ e∈news,e.length=I.ek) (hne:news≠[]) (hbytes:(n+news.length)*I.eb<=140737488355328) (h63:n+news.length<=9223372036854775807) :
  ∃ (cap:Nat) (olds vs:List Value),n+news.length<=cap/\cap<=9223372036854775807/\Ap K w (c.take (n*I.ek)) olds/\(∀ v∈olds,v.oneCell'=true)/\Ap K w (news.flatten.map .d) vs/\(∀ e∈news,e.length=I.ek) /\
   (execOp ρ o).run P w = .ok (.value (.slice (some ⟨w.heap.size,0,none⟩) (n+news.length) cap)) (w.drew.alloc (.cells (olds.toArray++vs.toArray++Builtin.zeroCells ⟨I.ez⟩ (cap-(n+news.length))) I.elem)):=by
 simp only [Rep] at h1
 obtain ⟨b,hb,hu1⟩:=h1
 obtain ⟨b',o',cap2,vs,hu2,hvl,hvr,hvR,hk2⟩:=h2
 obtain ⟨i,d,zz,hi,hu,hz,_,hzz,hd⟩:=TyI.inv hT
 rw [hk] at hd;simp at hd
 obtain ⟨rfl,ie,hie,ze,hze,hzs,hek2,heb,hez2⟩:=hd
 have hsz:ie.size=I.ek:=by first|exact hek2|exact hek2.symm
 have hbe:ie.bytes=I.eb:=by first|exact heb|exact heb.symm
 have hcz:ze.cells.toList=I.ez:=by first|exact hez2.1|exact hez2.1.symm
 obtain ⟨C,tyb,h4,h5,h6⟩:=hI.box id b c hb hc
 have hCl:C.toList.length=c.length:=h5.length.symm▸rfl
 have hm:0<news.length:=List.length_pos_iff.2 hne
 have hrun:=run_append_grow (P:=P) (w:=w) ty o.type I.elem ie ze hu hie hze ⟨b,0,none⟩ n n (C.toList.take (n*I.ek)) (by rw [hsz,List.length_take];omega)
  (fun j v hj=>by
   rw [List.getElem?_take] at hj
   split at hj
   ·have e:(⟨b,0,none⟩:Addr).add j=⟨b,j,none⟩:=by rw [Addr.add_mid,Nat.zero_add]
    rw [e,cell_of_row w b j C tyb (0,0) h4];simpa using hj
   ·cases hj) ⟨b',o',none⟩ news.length cap2 vs (by rw [hsz];exact hvl) (fun j v hj=>by rw [Addr.add_mid];exact hvr j v hj) (by omega) (by omega) (by rw [hbe];exact growslice_fits (by omega) hbytes)
 refine ⟨grownCap w (n+news.length) n I.elem,C.toList.take (n*I.ek),vs,grownCap_ge w _ n _,by simpa [maxLen] using grownCap_le_maxLen w (n+news.length) n I.elem (by simpa [maxLen] using h63),h5.take _,fun v hv=>h6 v (List.mem_of_mem_take hv),hvR,hk2,?_⟩
 refine Fp ho ?_
 rw [hu1,hu2,hrun]
 congr 5
 rw [<- hcz]
theorem ops_appG {x y:Operand} {ty:TypeId} {I:TyI} {id n:Nat} {c:List PV} {olds news:List (List DV)} (ho:o.op = .call { callee := .builtin .append,args := #[x,y],argTypes := #[ty,ty] }) (hT:TyI.of P ty=some I) (hk:I.kind=2)
  (hx:evP F x = .bsl I.ek id 0 n n) (hc:S.boxes[id]? = some c) (hol:olds.length=n) (hcl:c.take (n*I.ek)=olds.flatten.map .d) (hko:∀ e∈olds,e.length=I.ek) (hy:Reads S (evP F y) I.ek news) (hne:news≠[]) (hbytes:(n+news.length)*I.eb<=140737488355328) (h63:n+news.length<=9223372036854775807):OpS P o F S (.d (.sl I.ek (olds++news))) S :=
 OpS.val fun K w ρ hInv h=>by
  have h1:=h x (by simp [ho,Op.operands,Call.operands])
  have h2:=h y (by simp [ho,Op.operands,Call.operands])
  rw [hx] at h1
  have h2:=hy K w _ hInv h2
  have hle:n*I.ek<=c.length:=by
   have h3:=congrArg List.length hcl
   rw [List.length_take,List.length_map,Jv hko,hol] at h3
   omega
  obtain ⟨cap,us,vs,g1,g2,g3,g4,g5,g6,hrun⟩:=Alg ho hT hk hInv h1 hc hle h2 hne hbytes h63
  have hb:Below w.heap.size w w.drew:=(Below.refl _ _).drew
  obtain ⟨e1,e2⟩:=hInv.below (w':=w.drew.alloc (.cells (us.toArray++vs.toArray++Builtin.zeroCells ⟨I.ez⟩ (cap-(n+news.length))) I.elem)) (hb.alloc (Nat.le_refl _) _)
  refine ⟨_,_,K,hrun,e2,e1,?_⟩
  simp only [Rep,Cj]
  refine ⟨_,cap,by simp [hol],by simp [hol];omega,g2,fun _=>⟨w.heap.size,0,rfl,Xu hInv (by simp) _,Eh.2 ⟨fun e he=>?_,?_⟩⟩⟩
  ·rcases List.mem_append.1 he with he|he
   ·exact hko e he
   ·exact g6 e he
  ·rw [List.flatten_append]
   refine If (us:=us++vs) (fun j v hj=>?_) ?_
   ·have h9:j<(us++vs).length:=(List.getElem?_eq_some_iff.1 hj).1
    have h8:=Aap (w:=w.drew) (cs:=us.toArray++vs.toArray++Builtin.zeroCells ⟨I.ez⟩ (cap-(n+news.length))) (e:=I.elem) j v (by
     simp only [Array.toList_append,List.toList_toArray]
     rw [List.getElem?_append_left h9];exact hj)
    exact h8
   ·rw [List.map_append,<- hcl]
    exact Ap.step e2 _ _ (g3.append g5)
end
section
variable {P:Program} {N:Nat} {ops:Array Oper} {rest:List Oper} {o:Oper} {F:Nat->PV} {S:PS} {Q:Exit->(Nat->PV)->PS->Prop}
theorem ops_app0 {x y:Operand} {ty:TypeId} {I:TyI} {k id off n cap:Nat} (ho:o.op = .call { callee := .builtin .append,args := #[x,y],argTypes := #[ty,ty] }) (hT:TyI.of P ty=some I) (hk:I.kind=2) (hx:evP F x = .bsl k id off n cap) (hn:n<=cap) (hy:Coe S (evP F y) (.d (.sl I.ek []))):OpS P o F S (.bsl k id off n cap) S :=
 OpS.pure fun K w ρ hInv h=>by
  have h1:=h x (by simp [ho,Op.operands,Call.operands])
  have h2:=h y (by simp [ho,Op.operands,Call.operands])
  rw [hx] at h1
  have h2:=hy K w _ hInv h2
  simp only [Rep,Cj] at h1 h2
  obtain ⟨b,hb,hu1⟩:=h1
  obtain ⟨p,cap2,hu2,_,_,_⟩:=h2
  obtain ⟨i,d,zz,hi,hu,hz,_,hzz,hd⟩:=TyI.inv hT
  rw [hk] at hd;simp at hd
  obtain ⟨rfl,ie,hie,_⟩:=hd
  have hrun:=O0 (P:=P) (w:=w) (t:=ty) (ty:=o.type) (base:=some ⟨b,off,none⟩) (p:=p) (n:=n) (cap:=cap) (c:=cap2) hu hie hn
  refine ⟨_,Fp ho (by rw [hu1,hu2];exact hrun),?_⟩
  simp only [Rep]
  exact ⟨b,hb,rfl⟩
end
section
variable {N:Nat} {ops:Array Oper} {rest:List Oper} {o:Oper} {F:Nat->PV} {S S':PS} {q:WRes->Prop} {c:Operand} {al:Array Operand} {ats:Array TypeId} {f:Nat} {caps args:List PV} {r:PV}
theorem wlend (hD:Aw f args ⟨[],[]⟩ (.ret r) ⟨[],[]⟩) (ha:Aki S (al.toList.map (evP F)++caps) args) (kk:WK Tryz.prog N ops rest (Cd N o.dst r F) S q)
  (hg:Al ops F o=some true:=by exact rfl) (ho:o.op = .call { callee := .value c,args:=al,argTypes:=ats }:=by exact rfl) (hv:evP F c = .fn f caps:=by exact rfl) (hfl:r.flat=true:=by exact rfl):WK Tryz.prog N ops (o::rest) F S q:=Eo hg (ops_lend ho hD.1 hv ha hfl hD.2) kk
variable {ch:Nat->Bool} {us:List (Nat×List Nat)} {k:Nat} {D:List Nat}
theorem bcallw (hD:Aw f args S (.ret r) S') (kk:Bw.WB Tryz.prog N ops ch (Ck us) (fun _=>[]) (k+1) rest (Cd N o.dst r F) S' false D q) (hg:Al ops F o=some true:=by exact rfl) (ho:o.op = .call { callee := .value c,args:=al,argTypes:=ats }:=by exact rfl) (hv:evP F c = .fn f caps:=by exact rfl) (ha:F7 S (al.toList.map (evP F)++caps) args:=by repeat (first|exact Ae|refine Ab (Ac _) ?_)) (hc:ch k=true:=by first|exact rfl|kernel_rfl) (hA:AgK ops k us S S':=by repeat (first|exact W5|refine Gi (Bd rfl E4) ?_)):Bw.WB Tryz.prog N ops ch (Ck us) (fun _=>[]) k (o::rest) F S false D q :=
 Aj7 (Vt ho hD.1 hv ha hD.2) kk hg hc hA
variable {x y:Operand} {ty:TypeId} {id n cap:Nat} {cb:List PV}
theorem bapp0 (hn:n<=cap) (kk:Bw.WB Tryz.prog N ops ch (Ck us) (fun _=>[]) (k+1) rest (Cd N o.dst (.bsl (tyi ty).ek id 0 n cap) F) S false D q) (hy:Coe S (evP F y) (.d (.sl (tyi ty).ek []))) (hg:Al ops F o=some true:=by exact rfl) (ho:o.op = .call { callee := .builtin .append,args := #[x,y],argTypes := #[ty,ty] }:=by exact rfl) (hk:(Ba ty&&Nat.beq (tyi ty).kind 2)=true:=by exact rfl) (hx:evP F x = .bsl (tyi ty).ek id 0 n cap:=by exact rfl) (hc:ch k=true:=by first|exact rfl|kernel_rfl) (hA:AgK ops k us S S:=by repeat (first|exact W5|refine Gi (Bd rfl E4) ?_)):Bw.WB Tryz.prog N ops ch (Ck us) (fun _=>[]) k (o::rest) F S false D q:=by
 simp only [Bool.and_eq_true] at hk
 exact Aj7 (ops_app0 ho (Fj ty hk.1) (Nat.eq_of_beq_eq_true hk.2) hx hn hy) kk hg hc hA
theorem bappG (olds news:List (List DV)) (hne:news≠[]) (hcl:cb.take (n*(tyi ty).ek)=olds.flatten.map .d) (hol:olds.length=n) (hko:∀ e∈olds,e.length=(tyi ty).ek) (hbytes:(n+news.length)*(tyi ty).eb<=140737488355328) (h63:n+news.length<=9223372036854775807) (hy:Reads S (evP F y) (tyi ty).ek news)
  (kk:Bw.WB Tryz.prog N ops ch (Ck us) (fun _=>[]) (k+1) rest (Cd N o.dst (.d (.sl (tyi ty).ek (olds++news))) F) S false D q) (hg:Al ops F o=some true:=by exact rfl) (ho:o.op = .call { callee := .builtin .append,args := #[x,y],argTypes := #[ty,ty] }:=by exact rfl) (hk:(Ba ty&&Nat.beq (tyi ty).kind 2)=true:=by exact rfl) (hx:evP F x = .bsl (tyi ty).ek id 0 n n:=by exact rfl) (hcb:S.boxes[id]? = some cb:=by exact rfl) (hc:ch k=true:=by first|exact rfl|kernel_rfl) (hA:AgK ops k us S S:=by repeat (first|exact W5|refine Gi (Bd rfl E4) ?_)):Bw.WB Tryz.prog N ops ch (Ck us) (fun _=>[]) k (o::rest) F S false D q:=by
 simp only [Bool.and_eq_true] at hk
 exact Aj7 (ops_appG ho (Fj ty hk.1) (Nat.eq_of_beq_eq_true hk.2) hx hcb hol hcl hko hy hne hbytes h63) kk hg hc hA
end
@[reducible] def rvC (a b c:Int):List PV:=[An (a.tmod 10000),An (b.tmod 10000),An (c.tmod 10000)]
set_option maxHeartbeats 1000000 in
theorem An7 (a b c:Int) (ha : -32768<=a/\a<=32767) (hb : -32768<=b/\b<=32767) (hc : -32768<=c/\c<=32767):Aw 8 [.agg [Adf a,Adf b,Adf c]] ⟨[],[]⟩ (.ret (.bsl 1 1 0 3 3)) ⟨[[Adf a,Adf b,Adf c],rvC a b c],[]⟩:=by
 refine ⟨enters_of Tryz.func8 rfl rfl,Nb Tryz.func8 rfl (Nat.le_of_ble_eq_true rfl) ?_⟩
 repeat' (first|refine rl1 ?_|refine rs1 ?_ ?_<;>intro h|fail)
 refine Abc (n:=3) (.int .i64 0) rfl rfl rfl rfl rfl rfl rfl (by show 8*3<=_;omega) (by omega) ?_
 repeat' (first|refine rl1 ?_|refine rs1 ?_ ?_<;>intro h|fail)
 refine Ca (ι := Nat) (ok:=fun i=>i<=3) (L:=fun i=>[(1,.ptr 0 0),(3,.bsl 1 1 0 3 3),(4,An i)]) (Sx:=fun i=>⟨[[Adf a,Adf b,Adf c],rvB a b c i],[]⟩) (μ := fun i=>3-i) 0 (Nat.zero_le _) (by repeat (first|exact Ag|refine Aa rfl ?_)) rfl ?_
 rintro i hi
 repeat' (first|refine rl1 ?_|refine rs1 ?_ ?_<;>intro h|fail)
 ·have hlt:i<3:=by have:=of_decide_eq_true h;omega
  have h3:i=0\/i=1\/i=2:=by omega
  have ga:=F6 a
  have gb:=F6 b
  have gc:=F6 c
  rcases h3 with rfl|rfl|rfl
  ·refine wst rfl rfl ⟨by omega,by show _<(3:Int);omega⟩ ?_
   repeat' (first|refine rl1 ?_|refine rs1 ?_ ?_<;>intro h|fail)
   refine wst rfl rfl ⟨by show (-9223372036854775808:Int)<=_;omega,by show _<=(9223372036854775807:Int);omega⟩ ?_
   repeat' (first|refine rl1 ?_|refine rs1 ?_ ?_<;>intro h|fail)
   refine Ale (b:=10000) (by decide) ?_
   repeat' (first|refine rl1 ?_|refine rs1 ?_ ?_<;>intro h|fail)
   exact ⟨1,by omega,by omega,(by repeat (first|exact Ag|refine Aa rfl ?_)),rfl⟩
  ·refine wst rfl rfl ⟨by omega,by show _<(3:Int);omega⟩ ?_
   repeat' (first|refine rl1 ?_|refine rs1 ?_ ?_<;>intro h|fail)
   refine wst rfl rfl ⟨by show (-9223372036854775808:Int)<=_;omega,by show _<=(9223372036854775807:Int);omega⟩ ?_
   repeat' (first|refine rl1 ?_|refine rs1 ?_ ?_<;>intro h|fail)
   refine Ale (b:=10000) (by decide) ?_
   repeat' (first|refine rl1 ?_|refine rs1 ?_ ?_<;>intro h|fail)
   exact ⟨2,by omega,by omega,(by repeat (first|exact Ag|refine Aa rfl ?_)),rfl⟩
  ·refine wst rfl rfl ⟨by omega,by show _<(3:Int);omega⟩ ?_
   repeat' (first|refine rl1 ?_|refine rs1 ?_ ?_<;>intro h|fail)
   refine wst rfl rfl ⟨by show (-9223372036854775808:Int)<=_;omega,by show _<=(9223372036854775807:Int);omega⟩ ?_
   repeat' (first|refine rl1 ?_|refine rs1 ?_ ?_<;>intro h|fail)
   refine Ale (b:=10000) (by decide) ?_
   repeat' (first|refine rl1 ?_|refine rs1 ?_ ?_<;>intro h|fail)
   exact ⟨3,by omega,by omega,(by repeat (first|exact Ag|refine Aa rfl ?_)),rfl⟩
 ·obtain rfl:i=3:=by have:=of_decide_eq_false h;omega
  exact ⟨.inr rfl,rfl,_,B5 rfl,rfl⟩
def rdL:List (List DV)->Option (List Int)
 |[]=>some []
 |[.v (.int .u32 x)]::r=>match rdL r with
  |some l=>some (x::l)
  |none=>none
 |_::_=>none
def rdP:PV->Option (List Int)
 |.d (.sl 1 l)=>rdL l
 |.d (.v (.slice none 0 0))=>some []
 |_=>none
theorem rdL_ok:∀ {r:List (List DV)} {l:List Int},rdL r=some l->r=l.map B8
 |[],l,h=>by cases h;rfl
 |e::r,l,h=>by
  unfold rdL at h
  split at h
  ·rename_i he;cases he
  ·rename_i x r' he
   cases he
   split at h
   ·rename_i l' hl
    cases h
    rw [rdL_ok hl];rfl
   ·cases h
  ·cases h
theorem V9 {p:PV} {l:List Int} (h:rdP p=some l) (S:PS):Coe S p (B3 l):=by
 unfold rdP at h
 split at h
 ·rw [rdL_ok h];exact Ac _
 ·cases h;exact Er
 ·cases h
theorem Ih {f:Nat} {args args':List PV} {S S':PS} {out:POut} (h:Aw f args' S out S') (hc:F7 S args args'):Aw f args S out S' :=
 ⟨h.1,fun K w vs hI hA=>h.2 K w vs hI (F7.rep hI hc hA)⟩
def okB (l:List Int):Bool:=Nat.ble l.length 1000000&&l.all fun x=>decide (0<=x)&&decide (x<1000000000)
theorem Qj {l:List Int} (h:okB l=true):l.length<=1000000/\∀ x∈l,limbOk x:=by
 simp only [okB,Bool.and_eq_true] at h
 refine ⟨Nat.le_of_ble_eq_true h.1,fun x hx=>?_⟩
 have:=List.all_eq_true.1 h.2 x hx
 simp only [Bool.and_eq_true,decide_eq_true_eq] at this
 exact this
def orcE:Nat->List PV->PS->Option (POut×PS):=fun f args S=>match S with
 |⟨[],[]⟩=>match args with
  |[.agg [.d (.v (.bool na)),m],.agg [.d (.v (.bool nb)),o]]=>bif Nat.beq f 79 then
    match rdP m,rdP o with
    |some m,some o=>bif okB m&&okB o then some (.ret (whP (!decide (na=nb) && !decide (trimL (mulL m o)=[])) (trimL (mulL m o))),⟨[],[]⟩) else none
    |_,_=>none
   else none
  |[.agg [.d (.v (.bool na)),m]]=>bif Nat.beq f 64 then
    match rdP m with
    |some m=>bif okB m then some (.ret (Fi ⟨(Pc na m).toArray⟩),⟨[],[]⟩) else none
    |none=>none
   else none
  |[m,.d (.v (.int .u32 b))]=>bif Nat.beq f 176 then
    match rdP m with
    |some m=>bif okB m&&okB [b]&&decide (0<b) then some (.ret (.tup [B3 (qL b m).1,.d (.v (.int .u32 (qL b m).2))]),⟨[],[]⟩) else none
    |none=>none
   else none
  |[m]=>bif Nat.beq f 146 then
    match rdP m with
    |some m=>bif okB m&&Nat.ble m.length 2 then some (.ret (.d (.v (.int .u64 (valL m)))),⟨[],[]⟩) else none
    |none=>none
   else none
  |_=>none
 |_=>none
theorem Agv:Pk orcE:=by
 intro f args S out S' h
 unfold orcE at h
 split at h
 ·split at h
  ·rename_i na m nb o
   cases hb:Nat.beq f 79<;>simp only [hb,cond_true,cond_false] at h
   ·cases h
   ·obtain rfl:=Nat.eq_of_beq_eq_true hb
    split at h
    ·rename_i m' o' h1 h2
     cases hk:(okB m'&&okB o')<;>simp only [hk,cond_true,cond_false] at h
     ·cases h
     ·cases h
      simp only [Bool.and_eq_true] at hk
      obtain ⟨k1,k2⟩:=Qj hk.1
      obtain ⟨k3,k4⟩:=Qj hk.2
      exact Ih (mul_do na nb m' o' k2 k4 k1 k3) (Ab (Eb (Ab (Ac _) (Ab (V9 h1 _) Ae))) (Ab (Eb (Ab (Ac _) (Ab (V9 h2 _) Ae))) Ae))
    ·cases h
  ·rename_i na m
   cases hb:Nat.beq f 64<;>simp only [hb,cond_true,cond_false] at h
   ·cases h
   ·obtain rfl:=Nat.eq_of_beq_eq_true hb
    split at h
    ·rename_i m' h1
     cases hk:okB m'<;>simp only [hk,cond_true,cond_false] at h
     ·cases h
     ·cases h
      obtain ⟨k1,k2⟩:=Qj hk
      exact Ih (Abe na m' k1 k2) (Ab (Eb (Ab (Ac _) (Ab (V9 h1 _) Ae))) Ae)
    ·cases h
  ·rename_i m b
   cases hb:Nat.beq f 176<;>simp only [hb,cond_true,cond_false] at h
   ·cases h
   ·obtain rfl:=Nat.eq_of_beq_eq_true hb
    split at h
    ·rename_i m' h1
     cases hk:(okB m'&&okB [b]&&decide (0<b))<;>simp only [hk,cond_true,cond_false] at h
     ·cases h
     ·cases h
      simp only [Bool.and_eq_true,decide_eq_true_eq] at hk
      obtain ⟨k1,k2⟩:=Qj hk.1.1
      obtain ⟨_,k4⟩:=Qj hk.1.2
      exact Ih (Sp m' b k1 k2 (k4 b (by simp)) hk.2) (Ab (V9 h1 _) (Ab (Ac _) Ae))
    ·cases h
  ·rename_i m _
   cases hb:Nat.beq f 146<;>simp only [hb,cond_true,cond_false] at h
   ·cases h
   ·obtain rfl:=Nat.eq_of_beq_eq_true hb
    split at h
    ·rename_i m' h1
     cases hk:(okB m'&&Nat.ble m'.length 2)<;>simp only [hk,cond_true,cond_false] at h
     ·cases h
     ·cases h
      simp only [Bool.and_eq_true] at hk
      obtain ⟨k1,k2⟩:=Qj hk.1
      exact Ih (Td m' (Nat.le_of_ble_eq_true hk.2) k2) (Ab (V9 h1 _) Ae)
    ·cases h
  ·cases h
 ·cases h
noncomputable def runV (vars:List ByteArray) (vals:List Int) (x:Ex):Option (POut×PS):=Aet Tryz.prog orcE (fun _=>false) 1000 29 [.agg [Db vars,Dv vals],exP x] ⟨[],[]⟩
theorem Yg {vars:List ByteArray} {vals:List Int} {x:Ex} {out:POut} (h:runV vars vals x=some (out,⟨[],[]⟩)):Aw 29 [Ada vars vals,exP x] ⟨[],[]⟩ out ⟨[],[]⟩:=I7 Agv h
theorem rv1:runV [⟨#[120]⟩] [3] (nd 10 [eX,e2])=some (.ret (.agg (resC false [3] false [2] false)),⟨[],[]⟩):=by kernel_rfl
theorem rv2:runV [⟨#[120]⟩] [0] (nd 10 [e1,eX])=some (.panic divV,⟨[],[]⟩):=by kernel_rfl
theorem rv3:runV [⟨#[120]⟩] [0] (nd 18 [nd 11 [eX,e0],nd 15 [nd 10 [e1,eX],e0]])=some (.ret (.agg [At false,.d (.v (.slice none 0 0)),At false,.d (.v (.slice none 0 0)),At true]),⟨[],[]⟩):=by kernel_rfl
theorem tx1:Aet Tryz.prog orcE (fun _=>false) 1000 30 [.agg [At false,B3 [3],At false,B3 [2]]] ⟨[],[]⟩=some (.ret (Fi ⟨#[51,47,50]⟩),⟨[],[]⟩):=by kernel_rfl
theorem ev1:Aw 10 [exP (nd 10 [eX,e2]),Db [⟨#[120]⟩],Dv [3]] ⟨[],[]⟩ (.ret (.tup [vlP 1 ⟨#[51,47,50]⟩ false,An 0])) ⟨[],[]⟩ :=
 Zi _ _ _ (C4 (by decide +kernel)) (by decide +kernel) (by decide +kernel) (by decide +kernel) (by decide +kernel) _ _ _ _ _ _ (Yg rv1) (I7 Agv tx1)
theorem ev2:Aw 10 [exP (nd 10 [e1,eX]),Db [⟨#[120]⟩],Dv [0]] ⟨[],[]⟩ (.ret (.tup [vlP 0 ⟨#[]⟩ false,An 2])) ⟨[],[]⟩ :=
 Zh _ _ _ (C4 (by decide +kernel)) (by decide +kernel) (by decide +kernel) (by decide +kernel) (by decide +kernel) (Yg rv2)
theorem ev3:Aw 10 [exP (nd 18 [nd 11 [eX,e0],nd 15 [nd 10 [e1,eX],e0]]),Db [⟨#[120]⟩],Dv [0]] ⟨[],[]⟩ (.ret (.tup [vlP 2 ⟨#[]⟩ true,An 0])) ⟨[],[]⟩ :=
 P3 _ _ _ (C4 (by decide +kernel)) (by decide +kernel) (by decide +kernel) (by decide +kernel) (by decide +kernel) false [] false [] true
  (Dy (Yg rv3) (Eb (Ab (Ac _) (Ab Er (Ab (Ac _) (Ab Er (Ab (Ac _) Ae)))))))
theorem ev4:Aw 10 [exP e1,Db [⟨#[120]⟩,⟨#[120]⟩],Dv [1,1]] ⟨[],[]⟩ (.ret (.tup [vlP 0 ⟨#[]⟩ false,An 2])) ⟨[],[]⟩ :=
 Uf _ _ _ (C4 (by decide +kernel)) (by decide +kernel) (.inr (by decide +kernel))
theorem Yy {x:Ex} {s:ByteArray} (hs:Qs x=true) (h:Ac6 x=(s,0)):Aw 72 [exP x] ⟨[],[]⟩ (.ret (.tup [Fi s,An 0])) ⟨[],[]⟩:=by
 have:=ptext_do x (C4 hs)
 rwa [h] at this
theorem ty_of {x:Ex} {vars:List ByteArray} {a b:Int} (hs:Qs x=true) (h:Tc vars x=(a,b)):Aw 18 [exP x,Db vars] ⟨[],[]⟩ (.ret (.tup [An a,An b])) ⟨[],[]⟩:=by
 have:=type_do vars x (C4 hs)
 rwa [h] at this
theorem nm_of {x:Ex} {l:List ByteArray} {b:Int} (hs:Qs x=true) (h:Ok x=(l,b)):Aw 17 [exP x] ⟨[],[]⟩ (.ret (.tup [Db l,An b])) ⟨[],[]⟩:=by
 have:=names_do x (C4 hs)
 rwa [h] at this
def wx1:Ex:=nd 9 [nd 7 [e1,e2],eX]
def wx2:Ex:=nd 8 [e1,nd 8 [e2,e3]]
def wx3:Ex:=nd 6 [nd 6 [eT]]
def wx4:Ex:=nd 7 [nd 19 [eT,e1,e2],e3]
def wx5:Ex:=nd 7 [e1,nd 19 [eT,e2,e3]]
def wx6:Ex:=nd 17 [nd 13 [e1,e2],eT]
def wx7:Ex:=nd 5 [nd 7 [e1,e2]]
def ws1:ByteArray:=⟨#[40,32,49,32,43,32,50,32,41,32,42,32,120]⟩
def ws2:ByteArray:=⟨#[49,32,45,32,40,32,50,32,45,32,51,32,41]⟩
def ws3:ByteArray:=⟨#[110,111,116,32,110,111,116,32,116,114,117,101]⟩
def ws4:ByteArray:=⟨#[40,32,105,102,32,116,114,117,101,32,116,104,101,110,32,49,32,101,108,115,101,32,50,32,41,32,43,32,51]⟩
def ws5:ByteArray:=⟨#[49,32,43,32,40,32,105,102,32,116,114,117,101,32,116,104,101,110,32,50,32,101,108,115,101,32,51,32,41]⟩
def ws6:ByteArray:=⟨#[49,32,60,32,50,32,97,110,100,32,116,114,117,101]⟩
def ws7:ByteArray:=⟨#[45,32,40,32,49,32,43,32,50,32,41]⟩
def factsW:List Id:=[
 (36,[Fi txt1,exP (nd 8 [nd 7 [e1,nd 9 [e2,eX]],e3]),An 7],.ret (At true)),(36,[Fi txt2,exP (nd 13 [e1,eX]),An 3],.ret (At true)),(36,[Fi txt4,exP (nd 7 [e1,nd 5 [e2]]),An 4],.ret (At true)),
 (36,[Fi txt5,exP (nd 6 [e1]),An 2],.ret (At true)),(37,[Fi txt3,An 3,An 350],.ret (At true)),(37,[Fi txt6,An 0,An 350],.ret (At true)),
 (72,[exP wx1],.ret (.tup [Fi ws1,An 0])),(72,[exP wx2],.ret (.tup [Fi ws2,An 0])),(72,[exP wx3],.ret (.tup [Fi ws3,An 0])),(72,[exP wx4],.ret (.tup [Fi ws4,An 0])),
 (72,[exP wx5],.ret (.tup [Fi ws5,An 0])),(72,[exP wx6],.ret (.tup [Fi ws6,An 0])),(72,[exP wx7],.ret (.tup [Fi ws7,An 0])),
 (18,[exP (nd 7 [eX,e1]),Db [⟨#[120]⟩]],.ret (.tup [An 1,An 0])),(18,[exP eX,Db []],.ret (.tup [An 0,An 351])),(18,[exP (nd 6 [e1]),Db []],.ret (.tup [An 0,An 351])),(18,[exP (nd 19 [eT,e1,eF]),Db []],.ret (.tup [An 0,An 351])),
 (10,[exP (nd 10 [eX,e2]),Db [⟨#[120]⟩],Dv [3]],.ret (.tup [vlP 1 ⟨#[51,47,50]⟩ false,An 0])),(10,[exP (nd 10 [e1,eX]),Db [⟨#[120]⟩],Dv [0]],.ret (.tup [vlP 0 ⟨#[]⟩ false,An 2])),
 (10,[exP (nd 18 [nd 11 [eX,e0],nd 15 [nd 10 [e1,eX],e0]]),Db [⟨#[120]⟩],Dv [0]],.ret (.tup [vlP 2 ⟨#[]⟩ true,An 0])),(10,[exP e1,Db [⟨#[120]⟩,⟨#[120]⟩],Dv [1,1]],.ret (.tup [vlP 0 ⟨#[]⟩ false,An 2])),
 (17,[exP (nd 7 [eY,nd 9 [eX,eY]])],.ret (.tup [Db [⟨#[121]⟩,⟨#[120]⟩],An 0]))]
theorem Aew:∀ e∈factsW,Id.holds e :=
 A5 reads1 (A5 reads2 (A5 reads4 (A5 reads5 (A5 fails3 (A5 fails6
 (A5 (Yy (by decide +kernel) (by decide +kernel)) (A5 (Yy (by decide +kernel) (by decide +kernel)) (A5 (Yy (by decide +kernel) (by decide +kernel)) (A5 (Yy (by decide +kernel) (by decide +kernel))
 (A5 (Yy (by decide +kernel) (by decide +kernel)) (A5 (Yy (by decide +kernel) (by decide +kernel)) (A5 (Yy (by decide +kernel) (by decide +kernel))
 (A5 (ty_of (by decide +kernel) (by decide +kernel)) (A5 (ty_of (by decide +kernel) (by decide +kernel)) (A5 (ty_of (by decide +kernel) (by decide +kernel)) (A5 (ty_of (by decide +kernel) (by decide +kernel))
 (A5 ev1 (A5 ev2 (A5 ev3 (A5 ev4 (A5 (nm_of (by decide +kernel) (by decide +kernel)) Aex)))))))))))))))))))))
theorem Ah7:Aet Tryz.prog (orcT factsW) (fun _=>false) 1000 12 [] ⟨[],[]⟩=some (.ret (At true),⟨[],[]⟩):=by kernel_rfl
theorem works_do:Aw 12 [] ⟨[],[]⟩ (.ret (At true)) ⟨[],[]⟩:=I7 (orcT_ok Aew) Ah7
theorem Ain (t:Int) (s:ByteArray) (y:Bool):eqAg Tryz.prog 42 [An t,Fi s,At y] [An t,Fi s,At y]=some true:=by
 have h:eqAg Tryz.prog 42 [An t,Fi s,At y] [An t,Fi s,At y]=match decide (t=t) with|true=>(match decide (s=s) with|true=>(match decide (y=y) with|true=>some true|false=>some false)|false=>some false)|false=>some false:=by kernel_rfl
 rw [h];simp
theorem cut5i (vals:List Int):(((vals.map fun n=>[DV.v (.int .i64 n)]).take ((if (5:Int)<((vals.map fun n=>[DV.v (.int .i64 n)]).length:Int) then (5:Int) else ((vals.map fun n=>[DV.v (.int .i64 n)]).length:Int)).toNat)).drop (0:Int).toNat)=(vals.take 5).map fun n=>[DV.v (.int .i64 n)]:=by
 simp only [Int.toNat_zero,List.drop_zero,List.length_map,<- List.map_take]
 congr 1
 split
 ·rfl
 ·rw [Int.toNat_natCast,List.take_length,List.take_of_length_le (by omega)]
@[reducible] def wiC (vars:List ByteArray) (vals:List Int) (a b c:Int):List PV:=[Db vars,Dv vals,Adf a,Adf b,Adf c]
theorem hrk (n1 n2 n3:Int):∀ e∈(Ack n1 n2 n3).map (fun n=>[DV.v (.int .i64 n)]),e.length=1:=by
 intro e he;simp [Ack] at he;rcases he with rfl|rfl|rfl<;>rfl
section
variable {N:Nat} {ops:Array Oper} {rest:List Oper} {o:Oper} {F:Nat->PV} {S:PS} {q:WRes->Prop} {ty yt:TypeId} {x y:Operand} {l l':List PV}
theorem Q2 (kk:WK Tryz.prog N ops rest (Cd N o.dst (.d (.v (.bool false))) F) S q) (hg:Al ops F o=some true:=by exact rfl) (ho:o.op = .binOp .neq ty x y yt:=by exact rfl) (hx:evP F x = .agg l:=by exact rfl) (hy:evP F y = .agg l':=by exact rfl) (h:eqAg Tryz.prog ty l l'=some true:=by kernel_rfl):WK Tryz.prog N ops (o::rest) F S q:=Eo hg (Aae ho hx hy h) kk
end
set_option maxHeartbeats 4000000 in
theorem Amn (x:Ex) (l:List UInt8) (b:BendS) (deep:Nat) (vars:List ByteArray) (vals:List Int) (n1 n2 n3:Int) (g1 : -32768<=n1/\n1<=32767) (g2 : -32768<=n2/\n2<=32767) (g3 : -32768<=n3/\n3<=32767) (hx:x.small) (hbX:b.X.small) (hb:b.ok) (hd:deep<256) (hw:Aw 12 [] ⟨[],[]⟩ (.ret (At true)) ⟨[],[]⟩) :
  Aw 3 [exP x,H5 l,Amy b,.d (.v (.int .u8 deep)),.agg (wiC vars vals n1 n2 n3)] ⟨[],[]⟩ (.ret (At true)) ⟨[],[]⟩:=by
 have hsm:=Amv hx hbX l deep
 have hso:=some_do x l b hb deep hd
 have hvals:=rvals_do n1 n2 n3 g1 g2 g3
 have hbox:=An7 n1 n2 n3 g1 g2 g3
 have hvars:=vars_do
 have hlen:(Amu x l b deep).length=6:=rfl
 generalize Amu x l b deep=ys at *
 refine Af Tryz.func3 rfl rfl (Nat.le_of_ble_eq_true rfl) rfl (Nat.le_refl _) ?_
 repeat' (first|refine rl2 ?_|refine rs2 ?_ ?_<;>intro h|fail)
 refine b0 (fun _=>false) [(1,[2]),(3,[2]),(8,[2]),(10,[2])] ?_
 repeat' (first|refine rl7 ?_|refine rs7 ?_ ?_<;>intro h|fail)
 rw [cut5]
 repeat' (first|refine rl7 ?_|refine rs7 ?_ ?_<;>intro h|fail)
 rw [cut5i]
 repeat' (first|refine rl7 ?_|refine rs7 ?_ ?_<;>intro h|fail)
 repeat' (first|refine rl2 ?_|refine rs2 ?_ ?_<;>intro h|fail)
 refine b0 (fun _=>false) [(2,[2])] ?_
 repeat' (first|refine rl7 ?_|refine rs7 ?_ ?_<;>intro h|fail)
 refine Ah hvars ?_
 repeat' (first|refine rl7 ?_|refine rs7 ?_ ?_<;>intro h|fail)
 refine Ah hvals ?_
 repeat' (first|refine rl7 ?_|refine rs7 ?_ ?_<;>intro h|fail)
 repeat' (first|refine rl2 ?_|refine rs2 ?_ ?_<;>intro h|fail)
 refine Gh hso rfl rfl rfl rfl (by simp only [PV.lt];exact Aid ys) (by repeat (first|exact Ae|refine Ab (Ac _) ?_)) ?_
 repeat' (first|refine rl2 ?_|refine rs2 ?_ ?_<;>intro h|fail)
 refine Ai6 (ι := Nat) (ok:=fun i=>i<=6) (L:=fun i=>[(5,.ptr 0 0),(7,.ptr 1 0),(9,.ptr 2 0),(11,Db (vars.take 5)),(12,Dv (vals.take 5)),(13,Db Dc),(14,Dv (Ack n1 n2 n3)),(45,.agg (ys.flatMap fun y=>(exP y).parts)),(46,An i)]) (Sx:=fun _=>⟨[(exP x).parts,Akj b,wiC vars vals n1 n2 n3],[]⟩) (μ := fun i=>6-i) 0 (Nat.zero_le _) (by repeat (first|exact Ag|refine Aa rfl ?_)) rfl ?_
 rintro i hi
 repeat' (first|refine rl2 ?_|refine rs2 ?_ ?_<;>intro h|fail)
 rotate_left
 ·refine Gh hw rfl rfl rfl rfl rfl (by repeat (first|exact Ae|refine Ab (Ac _) ?_)) ?_
  repeat' (first|refine rl2 ?_|refine rs2 ?_ ?_<;>intro h|fail)
  rfl
 have hlt:i<6:=by simp at h;omega
 obtain ⟨y,hy⟩:∃ y,ys[i]? = some y:=⟨_,List.getElem?_eq_getElem (by omega)⟩
 have hys:=hsm y (List.mem_of_getElem? hy)
 refine wiv (exP y).parts rfl rfl rfl rfl rfl ⟨by omega,by show (i:Int)<6;omega⟩ (Al1 hy) ?_
 repeat' (first|refine rl2 ?_|refine rs2 ?_ ?_<;>intro h|fail)
 refine b0 (fun k=>Nat.beq k 9||Nat.beq k 11||Nat.beq k 14||Nat.beq k 16) [(13,[2])] ?_
 repeat' (first|refine rl7 ?_|refine rs7 ?_ ?_<;>intro h|fail)
 refine bcallw (vars_row _) ?_
 repeat' (first|refine rl7 ?_|refine rs7 ?_ ?_<;>intro h|fail)
 refine bapp ((vars.take 5).map Ajm) ?_ ?_
 ·have:(vars.take 5).length<=5:=by rw [List.length_take];omega
  simp only [List.length_map];show (3+_)*16<=_;omega
 repeat' (first|refine rl7 ?_|refine rs7 ?_ ?_<;>intro h|fail)
 refine bnew hbox rfl rfl ?_ ?_
 ·exact Gi (Bd rfl E4) W5
 repeat' (first|refine rl7 ?_|refine rs7 ?_ ?_<;>intro h|fail)
 by_cases hne:vals.take 5=[]
 ·have e5:(vals.take 5).map (fun n=>[DV.v (.int .i64 n)])=[]:=by rw [hne];rfl
  refine bapp0 (id:=5) (n:=3) (cap:=3) (by decide) ?_ ?_
  rotate_left
  ·exact Am2 (congrArg (fun z=>PV.d (DV.sl 1 z)) e5)
  repeat' (first|refine rl7 ?_|refine rs7 ?_ ?_<;>intro h|fail)
  repeat' (first|refine rl2 ?_|refine rs2 ?_ ?_<;>intro h|fail)
  refine Ai6 (ι := Nat) (ok:=fun k=>k<=4) (L:=fun k=>[(5,.ptr 0 0),(7,.ptr 1 0),(9,.ptr 2 0),(11,Db (vars.take 5)),(12,Dv (vals.take 5)),(13,Db Dc),(14,Dv (Ack n1 n2 n3)),(16,.ptr 3 0),(45,.agg (ys.flatMap fun y=>(exP y).parts)),(46,An i),(67,.agg [Db (vars.take 5),Dv (vals.take 5),Db Dc,Dv (Ack n1 n2 n3),Db Dc,Dv (vals.take 5),.hd 0 1,.bsl 1 5 0 3 3]),(68,An k)]) (Sx:=fun _=>⟨[(exP x).parts,Akj b,wiC vars vals n1 n2 n3,(exP y).parts,[Adf n1,Adf n2,Adf n3],rvC n1 n2 n3],[⟨1,1,(Dc++vars.take 5).map Ajm,9⟩]⟩) (μ := fun k=>4-k) 0 (Nat.zero_le _) (by repeat (first|exact Ag|refine Aa rfl ?_)) rfl ?_
  rintro k hk
  repeat' (first|refine rl2 ?_|refine rs2 ?_ ?_<;>intro h|fail)
  rotate_left
  ·refine ⟨i+1,by omega,by omega,(by repeat (first|exact Ag|refine Aa rfl ?_)),rfl,rfl,?_,Nat.le_refl _,Nat.le_refl _⟩
   simp only [ltF,List.all_cons,List.all_nil,PV.lt,Aid,Bool.and_true]
   rfl
  have hk3:k=0\/k=1\/k=2\/k=3:=by simp at h;omega
  rcases hk3 with rfl|rfl|rfl|rfl
  ·refine wiv [Db (vars.take 5),Dv (vals.take 5)] rfl rfl rfl rfl rfl (by decide) ⟨rfl,Nat.le_of_ble_eq_true rfl⟩ ?_
   repeat' (first|refine rl2 ?_|refine rs2 ?_ ?_<;>intro h|fail)
   refine Gh (Aio y (vars.take 5) (vals.take 5) hys) rfl rfl rfl rfl rfl (by repeat (first|exact Ae|refine Ab (Ac _) ?_)) ?_
   repeat' (first|refine rl2 ?_|refine rs2 ?_ ?_<;>intro h|fail)
   refine Gh (Aii y (vars.take 5) (vals.take 5) hys) rfl rfl rfl rfl rfl (by repeat (first|exact Ae|refine Ab (Ac _) ?_)) ?_
   repeat' (first|refine rl2 ?_|refine rs2 ?_ ?_<;>intro h|fail)
   refine Q2 (h:=Ain _ _ _) ?_
   repeat' (first|refine rl2 ?_|refine rs2 ?_ ?_<;>intro h|fail)
   ·exfalso;simp at h
   refine ⟨1,by omega,by omega,(by repeat (first|exact Ag|refine Aa rfl ?_)),rfl,rfl,?_,Nat.le_refl _,Nat.le_refl _⟩
   simp only [ltF,List.all_cons,List.all_nil,PV.lt,Aid,Bool.and_true]
   rfl
  ·refine wiv [Db Dc,Dv (Ack n1 n2 n3)] rfl rfl rfl rfl rfl (by decide) ⟨rfl,Nat.le_of_ble_eq_true rfl⟩ ?_
   repeat' (first|refine rl2 ?_|refine rs2 ?_ ?_<;>intro h|fail)
   refine Gh (Aio y Dc (Ack n1 n2 n3) hys) rfl rfl rfl rfl rfl (by repeat (first|exact Ae|refine Ab (Ac _) ?_)) ?_
   repeat' (first|refine rl2 ?_|refine rs2 ?_ ?_<;>intro h|fail)
   refine Gh (Aii y Dc (Ack n1 n2 n3) hys) rfl rfl rfl rfl rfl (by repeat (first|exact Ae|refine Ab (Ac _) ?_)) ?_
   repeat' (first|refine rl2 ?_|refine rs2 ?_ ?_<;>intro h|fail)
   refine Q2 (h:=Ain _ _ _) ?_
   repeat' (first|refine rl2 ?_|refine rs2 ?_ ?_<;>intro h|fail)
   ·exfalso;simp at h
   refine ⟨2,by omega,by omega,(by repeat (first|exact Ag|refine Aa rfl ?_)),rfl,rfl,?_,Nat.le_refl _,Nat.le_refl _⟩
   simp only [ltF,List.all_cons,List.all_nil,PV.lt,Aid,Bool.and_true]
   rfl
  ·refine wiv [Db Dc,Dv (vals.take 5)] rfl rfl rfl rfl rfl (by decide) ⟨rfl,Nat.le_of_ble_eq_true rfl⟩ ?_
   repeat' (first|refine rl2 ?_|refine rs2 ?_ ?_<;>intro h|fail)
   refine Gh (Aio y Dc (vals.take 5) hys) rfl rfl rfl rfl rfl (by repeat (first|exact Ae|refine Ab (Ac _) ?_)) ?_
   repeat' (first|refine rl2 ?_|refine rs2 ?_ ?_<;>intro h|fail)
   refine Gh (Aii y Dc (vals.take 5) hys) rfl rfl rfl rfl rfl (by repeat (first|exact Ae|refine Ab (Ac _) ?_)) ?_
   repeat' (first|refine rl2 ?_|refine rs2 ?_ ?_<;>intro h|fail)
   refine Q2 (h:=Ain _ _ _) ?_
   repeat' (first|refine rl2 ?_|refine rs2 ?_ ?_<;>intro h|fail)
   ·exfalso;simp at h
   refine ⟨3,by omega,by omega,(by repeat (first|exact Ag|refine Aa rfl ?_)),rfl,rfl,?_,Nat.le_refl _,Nat.le_refl _⟩
   simp only [ltF,List.all_cons,List.all_nil,PV.lt,Aid,Bool.and_true]
   rfl
  ·refine wiv [.hd 0 1,.bsl 1 5 0 3 3] rfl rfl rfl rfl rfl (by decide) ⟨rfl,Nat.le_of_ble_eq_true rfl⟩ ?_
   repeat' (first|refine rl2 ?_|refine rs2 ?_ ?_<;>intro h|fail)
   refine wlend (Aio y (Dc++vars.take 5) (Ack n1 n2 n3) hys) (Ail (Ak7 rfl) (Ail (Akq (Ki (Fc rfl)) rfl) (Ail (Al3 (k:=1) (id:=5) (n:=3) (cap:=3) (c:=rvC n1 n2 n3) rfl rfl rfl (hrk _ _ _) (by decide) (by decide) rfl) Ak5))) ?_
   repeat' (first|refine rl2 ?_|refine rs2 ?_ ?_<;>intro h|fail)
   refine wlend (Aii y (Dc++vars.take 5) (Ack n1 n2 n3) hys) (Ail (Ak7 rfl) (Ail (Akq (Ki (Fc rfl)) rfl) (Ail (Al3 (k:=1) (id:=5) (n:=3) (cap:=3) (c:=rvC n1 n2 n3) rfl rfl rfl (hrk _ _ _) (by decide) (by decide) rfl) Ak5))) ?_
   repeat' (first|refine rl2 ?_|refine rs2 ?_ ?_<;>intro h|fail)
   refine Q2 (h:=Ain _ _ _) ?_
   repeat' (first|refine rl2 ?_|refine rs2 ?_ ?_<;>intro h|fail)
   ·exfalso;simp at h
   refine ⟨4,by omega,by omega,(by repeat (first|exact Ag|refine Aa rfl ?_)),rfl,rfl,?_,Nat.le_refl _,Nat.le_refl _⟩
   simp only [ltF,List.all_cons,List.all_nil,PV.lt,Aid,Bool.and_true]
   rfl
 ·refine bappG (id:=5) (n:=3) ((Ack n1 n2 n3).map fun n=>[DV.v (.int .i64 n)]) ((vals.take 5).map fun n=>[DV.v (.int .i64 n)]) (by simpa using hne) rfl rfl ?_ ?_ ?_ (Aos (Ac _) (by simpa using hne)) ?_
  ·intro e he;simp [Ack] at he;rcases he with rfl|rfl|rfl<;>rfl
  ·have:(vals.take 5).length<=5:=by rw [List.length_take];omega
   simp only [List.length_map];show (3+_)*8<=_;omega
  ·have:(vals.take 5).length<=5:=by rw [List.length_take];omega
   simp only [List.length_map];omega
  repeat' (first|refine rl7 ?_|refine rs7 ?_ ?_<;>intro h|fail)
  repeat' (first|refine rl2 ?_|refine rs2 ?_ ?_<;>intro h|fail)
  refine Ai6 (ι := Nat) (ok:=fun k=>k<=4) (L:=fun k=>[(5,.ptr 0 0),(7,.ptr 1 0),(9,.ptr 2 0),(11,Db (vars.take 5)),(12,Dv (vals.take 5)),(13,Db Dc),(14,Dv (Ack n1 n2 n3)),(16,.ptr 3 0),(45,.agg (ys.flatMap fun y=>(exP y).parts)),(46,An i),(67,.agg [Db (vars.take 5),Dv (vals.take 5),Db Dc,Dv (Ack n1 n2 n3),Db Dc,Dv (vals.take 5),.hd 0 1,Dv (Ack n1 n2 n3++vals.take 5)]),(68,An k)]) (Sx:=fun _=>⟨[(exP x).parts,Akj b,wiC vars vals n1 n2 n3,(exP y).parts,[Adf n1,Adf n2,Adf n3],rvC n1 n2 n3],[⟨1,1,(Dc++vars.take 5).map Ajm,9⟩]⟩) (μ := fun k=>4-k) 0 (Nat.zero_le _) (by repeat (first|exact Ag|refine Aa rfl ?_)) rfl ?_
  rintro k hk
  repeat' (first|refine rl2 ?_|refine rs2 ?_ ?_<;>intro h|fail)
  rotate_left
  ·refine ⟨i+1,by omega,by omega,(by repeat (first|exact Ag|refine Aa rfl ?_)),rfl,rfl,?_,Nat.le_refl _,Nat.le_refl _⟩
   simp only [ltF,List.all_cons,List.all_nil,PV.lt,Aid,Bool.and_true]
   rfl
  have hk3:k=0\/k=1\/k=2\/k=3:=by simp at h;omega
  rcases hk3 with rfl|rfl|rfl|rfl
  ·refine wiv [Db (vars.take 5),Dv (vals.take 5)] rfl rfl rfl rfl rfl (by decide) ⟨rfl,Nat.le_of_ble_eq_true rfl⟩ ?_
   repeat' (first|refine rl2 ?_|refine rs2 ?_ ?_<;>intro h|fail)
   refine Gh (Aio y (vars.take 5) (vals.take 5) hys) rfl rfl rfl rfl rfl (by repeat (first|exact Ae|refine Ab (Ac _) ?_)) ?_
   repeat' (first|refine rl2 ?_|refine rs2 ?_ ?_<;>intro h|fail)
   refine Gh (Aii y (vars.take 5) (vals.take 5) hys) rfl rfl rfl rfl rfl (by repeat (first|exact Ae|refine Ab (Ac _) ?_)) ?_
   repeat' (first|refine rl2 ?_|refine rs2 ?_ ?_<;>intro h|fail)
   refine Q2 (h:=Ain _ _ _) ?_
   repeat' (first|refine rl2 ?_|refine rs2 ?_ ?_<;>intro h|fail)
   ·exfalso;simp at h
   refine ⟨1,by omega,by omega,(by repeat (first|exact Ag|refine Aa rfl ?_)),rfl,rfl,?_,Nat.le_refl _,Nat.le_refl _⟩
   simp only [ltF,List.all_cons,List.all_nil,PV.lt,Aid,Bool.and_true]
   rfl
  ·refine wiv [Db Dc,Dv (Ack n1 n2 n3)] rfl rfl rfl rfl rfl (by decide) ⟨rfl,Nat.le_of_ble_eq_true rfl⟩ ?_
   repeat' (first|refine rl2 ?_|refine rs2 ?_ ?_<;>intro h|fail)
   refine Gh (Aio y Dc (Ack n1 n2 n3) hys) rfl rfl rfl rfl rfl (by repeat (first|exact Ae|refine Ab (Ac _) ?_)) ?_
   repeat' (first|refine rl2 ?_|refine rs2 ?_ ?_<;>intro h|fail)
   refine Gh (Aii y Dc (Ack n1 n2 n3) hys) rfl rfl rfl rfl rfl (by repeat (first|exact Ae|refine Ab (Ac _) ?_)) ?_
   repeat' (first|refine rl2 ?_|refine rs2 ?_ ?_<;>intro h|fail)
   refine Q2 (h:=Ain _ _ _) ?_
   repeat' (first|refine rl2 ?_|refine rs2 ?_ ?_<;>intro h|fail)
   ·exfalso;simp at h
   refine ⟨2,by omega,by omega,(by repeat (first|exact Ag|refine Aa rfl ?_)),rfl,rfl,?_,Nat.le_refl _,Nat.le_refl _⟩
   simp only [ltF,List.all_cons,List.all_nil,PV.lt,Aid,Bool.and_true]
   rfl
  ·refine wiv [Db Dc,Dv (vals.take 5)] rfl rfl rfl rfl rfl (by decide) ⟨rfl,Nat.le_of_ble_eq_true rfl⟩ ?_
   repeat' (first|refine rl2 ?_|refine rs2 ?_ ?_<;>intro h|fail)
   refine Gh (Aio y Dc (vals.take 5) hys) rfl rfl rfl rfl rfl (by repeat (first|exact Ae|refine Ab (Ac _) ?_)) ?_
   repeat' (first|refine rl2 ?_|refine rs2 ?_ ?_<;>intro h|fail)
   refine Gh (Aii y Dc (vals.take 5) hys) rfl rfl rfl rfl rfl (by repeat (first|exact Ae|refine Ab (Ac _) ?_)) ?_
   repeat' (first|refine rl2 ?_|refine rs2 ?_ ?_<;>intro h|fail)
   refine Q2 (h:=Ain _ _ _) ?_
   repeat' (first|refine rl2 ?_|refine rs2 ?_ ?_<;>intro h|fail)
   ·exfalso;simp at h
   refine ⟨3,by omega,by omega,(by repeat (first|exact Ag|refine Aa rfl ?_)),rfl,rfl,?_,Nat.le_refl _,Nat.le_refl _⟩
   simp only [ltF,List.all_cons,List.all_nil,PV.lt,Aid,Bool.and_true]
   rfl
  ·refine wiv [.hd 0 1,Dv (Ack n1 n2 n3++vals.take 5)] rfl rfl rfl rfl rfl (by decide) ⟨rfl,Nat.le_of_ble_eq_true rfl⟩ ?_
   repeat' (first|refine rl2 ?_|refine rs2 ?_ ?_<;>intro h|fail)
   refine Gh (Aio y (Dc++vars.take 5) (Ack n1 n2 n3++vals.take 5) hys) rfl rfl rfl rfl rfl (Ab (Ac _) (Ab (Ki (Fc rfl)) (Ab (Ac _) Ae))) ?_
   repeat' (first|refine rl2 ?_|refine rs2 ?_ ?_<;>intro h|fail)
   refine Gh (Aii y (Dc++vars.take 5) (Ack n1 n2 n3++vals.take 5) hys) rfl rfl rfl rfl rfl (Ab (Ac _) (Ab (Ki (Fc rfl)) (Ab (Ac _) Ae))) ?_
   repeat' (first|refine rl2 ?_|refine rs2 ?_ ?_<;>intro h|fail)
   refine Q2 (h:=Ain _ _ _) ?_
   repeat' (first|refine rl2 ?_|refine rs2 ?_ ?_<;>intro h|fail)
   ·exfalso;simp at h
   refine ⟨4,by omega,by omega,(by repeat (first|exact Ag|refine Aa rfl ?_)),rfl,rfl,?_,Nat.le_refl _,Nat.le_refl _⟩
   simp only [ltF,List.all_cons,List.all_nil,PV.lt,Aid,Bool.and_true]
   rfl
end Go.Proofs.YtjagmmmcibdibaaGreatDoor
