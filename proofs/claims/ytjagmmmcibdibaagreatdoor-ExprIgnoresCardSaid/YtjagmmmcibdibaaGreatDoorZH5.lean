/- A part of the proofs of some statements of this chapter: texts of these claims, merged. -/
import Derived.Below
import Derived.WalkKit
import Derived.BigQuiet
import Derived.Lib.Hide
import Derived.ControlIn
import Derived.OwnWalkIn
import Derived.Lib.ItoaNum
import Derived.OrdersIn
import Derived.TacticsIn
import Derived.Deep.MidRow
import Derived.OpenShut
import Derived.Lib.SmallJoins
import Derived.Laws.Tables
import Derived.Laws.OwnMore
import Derived.Orders
import Derived.Test.YtjagmmmcibdibaaGreatDoorProg
import Derived.Shelf.Abstract
import Derived.Test.YtjagmmmcibdibaaGreatDoorRows
import Derived.Carry
import Derived.Lib.LaidU8
import Derived.Lib.LaidTab
import Derived.Lay
import Derived.MakeChecks
import Derived.RangeFuncLeaves
import Derived.RangeFuncOwn
import Derived.RecoverIn
import Derived.Laws.MakeOwn
import Derived.Laws.Strings
import Derived.WalkSpells
import Derived.WalkLawsBesides
import Derived.Laws.EntriesVeiled
import Derived.Deep.RegionHeld3
import Derived.Deep.QuietTactic
import Derived.Lib.Bytealg
import Derived.Shelf.Strings.Builder1
import Derived.Shelf.Small.Strs
import Derived.Shelf.Small.Wraps
import Derived.Shelf.Strings.BuilderF
import Derived.Shelf.Strings.BuilderK
import Derived.Shelf.Strconv.Atoi
import Derived.Shelf.Strconv.Itoa0
import Derived.Shelf.Strconv.Itoa1
import Derived.Shelf.LaysM
import Derived.Shelf.Strconv.Itoa2
import Derived.Shelf.Strconv.Itoa3
import Derived.Shelf.Strconv.AtoiErrFast
import Derived.Shelf.Strconv.ParseIntEmpty
import Derived.Shelf.Strconv.AtoiFail
import Derived.Shelf.Strconv.Clone
import Derived.Shelf.Strconv.SyntaxError
import Derived.Shelf.LaysC
import Derived.Shelf.Strconv.ToError
import Derived.Shelf.Strconv.AtoiErr
import Derived.Shelf.Strconv.ErrVar
import Derived.Shelf.Strconv.Lower
import Derived.Shelf.Strconv.ParseUint10
import Derived.Shelf.Strconv.ParseUint10Empty
import Derived.Shelf.Strconv.ParseUint10Any
import Derived.Shelf.Strconv.ParseInt10
import Derived.Shelf.Strconv.AtoiLong
import Derived.Shelf.Strconv.AtoiInnerAll
import Derived.Shelf.Strconv.RangeError
import Derived.Shelf.Strconv.ToErrorRange
import Derived.Shelf.Strconv.AtoiAll
import Derived.Shelf.Strconv.ErrVarAll
import Derived.Shelf.Strconv.ParseUintEmpty
import Derived.Shelf.Strconv.ParseUint10b64
import Derived.Shelf.Strconv.ParseUint10b32
import Derived.Shelf.Strconv.ParseUint10b16
import Derived.Shelf.Strconv.ParseUint10b8
import Derived.Shelf.Strconv.ParseUint10At
import Derived.Ground.MpProg
import Derived.Shelf.Pu.ParseUintPublic10
import Derived.Shelf.Pu.ErrVarParseUint
import Derived.Shelf.Strings.Search1
import Derived.Shelf.Strings.Search2
import Derived.Shelf.Strings.Cut
import Derived.Shelf.Strings.Shaped
import Derived.Shelf.Strings.Prefix
import Derived.Shelf.Strings.BuilderCap
import Derived.Shelf.Slices.Turned
import Derived.Ground.Names2Prog
import Derived.Shelf.Slices.SearchI
import Derived.Deep.DeepCutAuto
import Derived.Lib.IndexBytes
import Derived.Deep.LoopGhost
import Derived.StillTail
import Derived.BigRegion
import Derived.Deep.CutBlock
import Derived.RangeFuncBox
import Derived.RangeFuncCalls
import Derived.TacticsInMore
import Derived.LoopNIn
import Derived.LoopIn
import Derived.RangeFuncNested
import Derived.Maps.AppendAt
import Derived.Shelf.RegionOpen
import Derived.Laws.StructEq
import Derived.Lib.Join
import Derived.Deep.AppendLies
import Derived.Deep.RegionLaw
import Derived.Laws.Rows
import Derived.Lib.AppendStr
import Derived.Laws.BytesArg
import Derived.Test.YtjagmmmcibdibaaGreatDoorZH4
set_option linter.unusedVariables false
set_option linter.unusedSimpArgs false
set_option linter.unusedSectionVars false
set_option linter.all false
namespace Go.Proofs.YtjagmmmcibdibaaGreatDoor
open Go.RowKit
@[reducible] def rsP (r:Res):PV := .agg (resC (decide (r.1.1<0)) (Al r.1.1.natAbs) (decide (r.1.2<0)) (Al r.1.2.natAbs) r.2)
def evOut:Option Res->POut
 |none => .panic divV
 |some r => .ret (rsP r)
theorem rsP_z (b:Bool):rsP (zF,b) = .agg (resC false [] false [] b):=by
 unfold rsP zF;simp [At]
theorem Z4 {f:Nat} {args:List PV} {S S':PS} {b:Bool} (h:Aq f args S (.ret (.agg [An false,.d (.v (.slice none 0 0)),An false,.d (.v (.slice none 0 0)),An b])) S'):Aq f args S (.ret (rsP (zF,b))) S':=by
 rw [rsP_z]
 exact Ei h (by repeat' (first|exact Ad|refine Ab ?_ ?_|exact Gf|exact Ac _|refine Fa ?_|refine Ja ?_))
theorem Af2:∀ (l:List ByteArray) (s:ByteArray),M7 l s<l.length
 |[],_=>by simp [M7]
 |x::r,s=>by
  have:=Af2 r s
  rw [M7]
  simp only [List.length_cons]
  split
  ·omega
  ·split<;>omega
section
variable {N:Nat} {ops:Array Oper} {rest:List Oper} {o:Oper} {F:Nat->PV} {S:PS} {q:WRes->Prop} {ch:Nat->Bool} {us:List (Nat×List Nat)} {k:Nat} {bm:Bool} {D:List Nat}
theorem biv {t:TypeId} {x y:Operand} {l:List PV} {kd:IntKind} {j:Int} {p:PV} (h0:0<=j) (kk:Bw.WB Tryz.prog N ops ch (Br us) (fun _=>[]) (k+1) rest (By N o.dst p F) S bm D q) (hg:Ah ops F o=some true:=by exact rfl) (hc:ch k=false:=by first|exact rfl|kernel_rfl) (ho:o.op = .index t x y:=by exact rfl)
  (hk:(A5 t&&Nat.beq (tyi t).kind 3&&A5 (tyi t).elem && !(tyi (tyi t).elem).isRow)=true:=by exact rfl) (hx:evP F x = .agg l:=by exact rfl) (hy:evP F y = .d (.v (.int kd j)):=by exact rfl) (hp:l[j.toNat*(tyi (tyi t).elem).size]? = some p:=by exact rfl) (h1:decide (j<((tyi t).len:Int))=true:=by kernel_rfl):Bw.WB Tryz.prog N ops ch (Br us) (fun _=>[]) k (o::rest) F S bm D q:=by
 simp only [Bool.and_eq_true,Bool.not_eq_true'] at hk
 exact Ry (fun S' _=>Hi ho (E8 t hk.1.1.1) (Nat.eq_of_beq_eq_true hk.1.1.2) (E8 _ hk.1.2) hx hy h0 (of_decide_eq_true h1) (.inr ⟨hk.2,hp⟩)) kk hg hc
end
@[reducible] def nfP:PV := .d (.v .nilFunc)
theorem arith_do:Aq 62 [] ⟨[],[]⟩ (.ret (.agg [nfP,nfP,nfP,nfP,nfP,nfP,nfP,.fn 44 [],.fn 43 [],.fn 45 [],.fn 50 []])) ⟨[],[]⟩:=by
 refine Ag Tryz.func62 rfl rfl (Nat.le_of_ble_eq_true rfl) rfl (Nat.le_refl _) ?_
 repeat' (first|refine rl0 ?_|refine rs0 ?_ ?_<;>intro h|fail)
 rfl
set_option maxHeartbeats 4000000 in
theorem eval_do (vars:List ByteArray) (vals:List Int) (hl:vars.length=vals.length) (hv:Zr vals):∀ (n:Nat) (x:Ex),x.hgt<=n->Good x->Ax vars x≠0->Ch x<=60->Aq 29 [Ad8 vars vals,exP x] ⟨[],[]⟩ (evOut (evX vars vals x)) ⟨[],[]⟩:=by
 intro n
 induction n with
 |zero=>intro a h;cases a;simp [Ex.hgt] at h
 |succ n ih =>
  intro x hn hx hk hs
  cases hx with
  |num m h1 h2 =>
   rw [ev_num]
   have ho:=fof_do m (by omega)
   show Aq _ _ _ (.ret (rsP ((m,1),false))) _
   refine Ag Tryz.func29 rfl rfl (Nat.le_of_ble_eq_true rfl) rfl (Nat.le_refl _) ?_
   repeat' (first|refine rl0 ?_|refine rs0 ?_ ?_<;>intro h|fail)
   refine wp1 ho ?_
   repeat' (first|refine rl0 ?_|refine rs0 ?_ ?_<;>intro h|fail)
   rfl
  |name s h1 =>
   rw [R3]
   have hm:=O2 hk
   rw [Aar] at hm
   have hi:=of_decide_eq_true hm
   have hlt:=Af2 vars s
   obtain ⟨i,hii⟩:∃ i:Nat,M7 vars s=i:=⟨(M7 vars s).toNat,by omega⟩
   have hx:=Aas vars s
   rw [hii] at hx
   have ho:=fof_do (vals.getD i 0) (Ag6 hv i)
   show Aq _ _ _ (.ret (rsP ((Aec vars vals s,1),false))) _
   unfold Aec
   rw [hii,Int.toNat_natCast]
   refine Ag Tryz.func29 rfl rfl (Nat.le_of_ble_eq_true rfl) rfl (Nat.le_refl _) ?_
   repeat' (first|refine rl2 ?_|refine rs2 ?_ ?_<;>intro h|fail)
   refine b0 (fun k=>Nat.beq k 11) [(1,[0]),(3,[0]),(5,[1])] ?_
   repeat' (first|refine rl7 ?_|refine rs7 ?_ ?_<;>intro h|fail)
   refine A9 hx ?_
   repeat' (first|refine rl7 ?_|refine rs7 ?_ ?_<;>intro h|fail)
   refine Fv _ (Sh (l:=vals) (i:=i) (by omega)) (by omega) ?_
   repeat' (first|refine rl7 ?_|refine rs7 ?_ ?_<;>intro h|fail)
   refine Dn ho ?_
   repeat' (first|refine rl7 ?_|refine rs7 ?_ ?_<;>intro h|fail)
   repeat' (first|refine rl0 ?_|refine rs0 ?_ ?_<;>intro h|fail)
   rfl
  |yes =>
   rw [ev_yes]
   refine Z4 ?_
   refine Ag Tryz.func29 rfl rfl (Nat.le_of_ble_eq_true rfl) rfl (Nat.le_refl _) ?_
   repeat' (first|refine rl0 ?_|refine rs0 ?_ ?_<;>intro h|fail)
   rfl
  |no =>
   rw [ev_no]
   refine Z4 ?_
   refine Ag Tryz.func29 rfl rfl (Nat.le_of_ble_eq_true rfl) rfl (Nat.le_refl _) ?_
   repeat' (first|refine rl0 ?_|refine rs0 ?_ ?_<;>intro h|fail)
   rfl
  |neg a ha =>
   have hka:=(Jh hk (by omega) (by omega)).1
   rw [show Gn 5=1 from rfl] at hka
   have hna:Ch a+1=Ch (nd 5 [a]):=by rw [nd,Bh,Bp,Cl];omega
   have hc:=ih a (by have:=Gh (x:=nd 5 [a]) (y:=a) (by simp [nd,Ex.args]);omega) ha (by omega) (by omega)
   have hkk:=R2 (vars:=vars) hv ha (by omega)
   rw [Aad]
   cases e:evX vars vals a with
   |none =>
    rw [e] at hc
    refine Ft Tryz.func29 rfl rfl (Nat.le_of_ble_eq_true rfl) ?_
    repeat' (first|refine rl2 ?_|refine rs2 ?_ ?_<;>intro h|fail)
    refine b0w 5 (fun k=>Nat.beq k 5||Nat.beq k 6||Nat.beq k 7) (fun k=>Nat.beq k 5||Nat.beq k 6||Nat.beq k 7) [(0,[0]),(2,[1])] [(0,[0]),(2,[1])] (by dsimp only [mkE]) (by dsimp only [mkE,B6,List.map]) ?_ ?_
    ·repeat' (first|refine rl7 ?_|refine rs7 ?_ ?_<;>intro h|fail)
     refine Fv _ (Ai (i:=0) rfl) (by omega) ?_
     repeat' (first|refine rl7 ?_|refine rs7 ?_ ?_<;>intro h|fail)
     exact Il (B5 rfl (hc).1 rfl rfl (Bd _) (hc).2) ⟨rfl,rfl,rfl⟩
    ·repeat' (first|refine rl7 ?_|refine rs7 ?_ ?_<;>intro h|fail)
     refine Fv _ (Ai (i:=0) rfl) (by omega) ?_
     repeat' (first|refine rl7 ?_|refine rs7 ?_ ?_<;>intro h|fail)
     exact Il (B5 rfl (hc).1 rfl rfl (Bd _) (hc).2) ⟨rfl,rfl,rfl⟩
   |some r =>
    rw [e] at hc
    obtain ⟨hf,hb⟩:=(hkk r e).1 hka
    have hg:=fneg_do r.1
    show Aq _ _ _ (.ret (rsP (negF r.1,false))) _
    refine Ag Tryz.func29 rfl rfl (Nat.le_of_ble_eq_true rfl) rfl (Nat.le_refl _) ?_
    repeat' (first|refine rl2 ?_|refine rs2 ?_ ?_<;>intro h|fail)
    refine b0 (fun k=>Nat.beq k 6||Nat.beq k 7) [(0,[0]),(2,[1])] ?_
    repeat' (first|refine rl7 ?_|refine rs7 ?_ ?_<;>intro h|fail)
    refine Fv _ (Ai (i:=0) rfl) (by omega) ?_
    repeat' (first|refine rl7 ?_|refine rs7 ?_ ?_<;>intro h|fail)
    refine A9 hc ?_
    repeat' (first|refine rl7 ?_|refine rs7 ?_ ?_<;>intro h|fail)
    repeat' (first|refine rl0 ?_|refine rs0 ?_ ?_<;>intro h|fail)
    refine wp1 hg ?_
    repeat' (first|refine rl0 ?_|refine rs0 ?_ ?_<;>intro h|fail)
    rfl
  |not a ha =>
   have hka:=(Jh hk (by omega) (by omega)).1
   rw [show Gn 6=2 from rfl] at hka
   have hna:Ch a+1=Ch (nd 6 [a]):=by rw [nd,Bh,Bp,Cl];omega
   have hc:=ih a (by have:=Gh (x:=nd 6 [a]) (y:=a) (by simp [nd,Ex.args]);omega) ha (by omega) (by omega)
   rw [Aae]
   cases e:evX vars vals a with
   |none =>
    rw [e] at hc
    refine Ft Tryz.func29 rfl rfl (Nat.le_of_ble_eq_true rfl) ?_
    repeat' (first|refine rl2 ?_|refine rs2 ?_ ?_<;>intro h|fail)
    refine b0w 5 (fun k=>Nat.beq k 5||Nat.beq k 6||Nat.beq k 7) (fun k=>Nat.beq k 5||Nat.beq k 6||Nat.beq k 7) [(0,[0]),(2,[1])] [(0,[0]),(2,[1])] (by dsimp only [mkE]) (by dsimp only [mkE,B6,List.map]) ?_ ?_
    ·repeat' (first|refine rl7 ?_|refine rs7 ?_ ?_<;>intro h|fail)
     refine Fv _ (Ai (i:=0) rfl) (by omega) ?_
     repeat' (first|refine rl7 ?_|refine rs7 ?_ ?_<;>intro h|fail)
     exact Il (B5 rfl (hc).1 rfl rfl (Bd _) (hc).2) ⟨rfl,rfl,rfl⟩
    ·repeat' (first|refine rl7 ?_|refine rs7 ?_ ?_<;>intro h|fail)
     refine Fv _ (Ai (i:=0) rfl) (by omega) ?_
     repeat' (first|refine rl7 ?_|refine rs7 ?_ ?_<;>intro h|fail)
     exact Il (B5 rfl (hc).1 rfl rfl (Bd _) (hc).2) ⟨rfl,rfl,rfl⟩
   |some r =>
    rw [e] at hc
    show Aq _ _ _ (.ret (rsP (zF,!r.2))) _
    refine Z4 ?_
    refine Ag Tryz.func29 rfl rfl (Nat.le_of_ble_eq_true rfl) rfl (Nat.le_refl _) ?_
    repeat' (first|refine rl2 ?_|refine rs2 ?_ ?_<;>intro h|fail)
    refine b0 (fun k=>Nat.beq k 6||Nat.beq k 7) [(0,[0]),(2,[1])] ?_
    repeat' (first|refine rl7 ?_|refine rs7 ?_ ?_<;>intro h|fail)
    refine Fv _ (Ai (i:=0) rfl) (by omega) ?_
    repeat' (first|refine rl7 ?_|refine rs7 ?_ ?_<;>intro h|fail)
    refine A9 hc ?_
    repeat' (first|refine rl7 ?_|refine rs7 ?_ ?_<;>intro h|fail)
    repeat' (first|refine rl0 ?_|refine rs0 ?_ ?_<;>intro h|fail)
    rfl
  |bin o a b h1 h2 ha hb =>
   obtain ⟨hka,hkb,hko⟩:=Sm hk (by omega) (by omega)
   have hw:Gn o≠0:=by unfold Gn;split<;>omega
   have hna:Ch a+Ch b+1=Ch (nd o [a,b]):=by rw [nd,Bh,Bp,Bp,Cl];omega
   have hca:=ih a (by have:=Gh (x:=nd o [a,b]) (y:=a) (by simp [nd,Ex.args]);omega) ha (by omega) (by omega)
   have hcb:=ih b (by have:=Gh (x:=nd o [a,b]) (y:=b) (by simp [nd,Ex.args]);omega) hb (by omega) (by omega)
   have hva:=R2 (vars:=vars) hv ha (by omega)
   have hvb:=R2 (vars:=vars) hv hb (by omega)
   by_cases hlog:o=17\/o=18
   ·rw [Aac _ _ o hlog]
    cases e:evX vars vals a with
    |none =>
     rw [e] at hca
     rcases hlog with rfl|rfl
     ·refine Ft Tryz.func29 rfl rfl (Nat.le_of_ble_eq_true rfl) ?_
      repeat' (first|refine rl2 ?_|refine rs2 ?_ ?_<;>intro h|fail)
      refine b0w 5 (fun k=>Nat.beq k 5||Nat.beq k 6||Nat.beq k 7) (fun k=>Nat.beq k 5||Nat.beq k 6||Nat.beq k 7) [(0,[0]),(2,[1])] [(0,[0]),(2,[1])] (by dsimp only [mkE]) (by dsimp only [mkE,B6,List.map]) ?_ ?_
      ·repeat' (first|refine rl7 ?_|refine rs7 ?_ ?_<;>intro h|fail)
       refine Fv _ (Ai (i:=0) rfl) (by omega) ?_
       repeat' (first|refine rl7 ?_|refine rs7 ?_ ?_<;>intro h|fail)
       exact Il (B5 rfl (hca).1 rfl rfl (Bd _) (hca).2) ⟨rfl,rfl,rfl⟩
      ·repeat' (first|refine rl7 ?_|refine rs7 ?_ ?_<;>intro h|fail)
       refine Fv _ (Ai (i:=0) rfl) (by omega) ?_
       repeat' (first|refine rl7 ?_|refine rs7 ?_ ?_<;>intro h|fail)
       exact Il (B5 rfl (hca).1 rfl rfl (Bd _) (hca).2) ⟨rfl,rfl,rfl⟩
     ·refine Ft Tryz.func29 rfl rfl (Nat.le_of_ble_eq_true rfl) ?_
      repeat' (first|refine rl2 ?_|refine rs2 ?_ ?_<;>intro h|fail)
      refine b0w 5 (fun k=>Nat.beq k 5||Nat.beq k 6||Nat.beq k 7) (fun k=>Nat.beq k 5||Nat.beq k 6||Nat.beq k 7) [(0,[0]),(2,[1])] [(0,[0]),(2,[1])] (by dsimp only [mkE]) (by dsimp only [mkE,B6,List.map]) ?_ ?_
      ·repeat' (first|refine rl7 ?_|refine rs7 ?_ ?_<;>intro h|fail)
       refine Fv _ (Ai (i:=0) rfl) (by omega) ?_
       repeat' (first|refine rl7 ?_|refine rs7 ?_ ?_<;>intro h|fail)
       exact Il (B5 rfl (hca).1 rfl rfl (Bd _) (hca).2) ⟨rfl,rfl,rfl⟩
      ·repeat' (first|refine rl7 ?_|refine rs7 ?_ ?_<;>intro h|fail)
       refine Fv _ (Ai (i:=0) rfl) (by omega) ?_
       repeat' (first|refine rl7 ?_|refine rs7 ?_ ?_<;>intro h|fail)
       exact Il (B5 rfl (hca).1 rfl rfl (Bd _) (hca).2) ⟨rfl,rfl,rfl⟩
    |some r =>
     rw [e] at hca
     obtain ⟨f,y⟩:=r
     rw [Option.bind_some]
     (try dsimp only)
     cases e2:evX vars vals b with
     |none =>
      rw [e2] at hcb
      rcases hlog with rfl|rfl<;>cases y
      ·show Aq _ _ _ (.ret (rsP (f,false))) _
       refine Ag Tryz.func29 rfl rfl (Nat.le_of_ble_eq_true rfl) rfl (Nat.le_refl _) ?_
       repeat' (first|refine rl2 ?_|refine rs2 ?_ ?_<;>intro h|fail)
       refine b0 (fun k=>Nat.beq k 6||Nat.beq k 7) [(0,[0]),(2,[1])] ?_
       repeat' (first|refine rl7 ?_|refine rs7 ?_ ?_<;>intro h|fail)
       refine Fv _ (Ai (i:=0) rfl) (by omega) ?_
       repeat' (first|refine rl7 ?_|refine rs7 ?_ ?_<;>intro h|fail)
       refine A9 hca ?_
       repeat' (first|refine rl7 ?_|refine rs7 ?_ ?_<;>intro h|fail)
       repeat' (first|refine rl0 ?_|refine rs0 ?_ ?_<;>intro h|fail)
       rfl
      ·refine Ft Tryz.func29 rfl rfl (Nat.le_of_ble_eq_true rfl) ?_
       repeat' (first|refine rl2 ?_|refine rs2 ?_ ?_<;>intro h|fail)
       refine b0 (fun k=>Nat.beq k 6||Nat.beq k 7) [(0,[0]),(2,[1])] ?_
       repeat' (first|refine rl7 ?_|refine rs7 ?_ ?_<;>intro h|fail)
       refine Fv _ (Ai (i:=0) rfl) (by omega) ?_
       repeat' (first|refine rl7 ?_|refine rs7 ?_ ?_<;>intro h|fail)
       refine A9 hca ?_
       repeat' (first|refine rl7 ?_|refine rs7 ?_ ?_<;>intro h|fail)
       repeat' (first|refine rl2 ?_|refine rs2 ?_ ?_<;>intro h|fail)
       refine b0 (fun k=>Nat.beq k 5||Nat.beq k 6) [(0,[0]),(2,[1])] ?_
       repeat' (first|refine rl7 ?_|refine rs7 ?_ ?_<;>intro h|fail)
       refine Fv _ (Ai (i:=1) rfl) (by omega) ?_
       repeat' (first|refine rl7 ?_|refine rs7 ?_ ?_<;>intro h|fail)
       exact Il (B5 rfl (hcb).1 rfl rfl (Bd _) (hcb).2) ⟨rfl,rfl,rfl⟩
      ·refine Ft Tryz.func29 rfl rfl (Nat.le_of_ble_eq_true rfl) ?_
       repeat' (first|refine rl2 ?_|refine rs2 ?_ ?_<;>intro h|fail)
       refine b0 (fun k=>Nat.beq k 6||Nat.beq k 7) [(0,[0]),(2,[1])] ?_
       repeat' (first|refine rl7 ?_|refine rs7 ?_ ?_<;>intro h|fail)
       refine Fv _ (Ai (i:=0) rfl) (by omega) ?_
       repeat' (first|refine rl7 ?_|refine rs7 ?_ ?_<;>intro h|fail)
       refine A9 hca ?_
       repeat' (first|refine rl7 ?_|refine rs7 ?_ ?_<;>intro h|fail)
       repeat' (first|refine rl2 ?_|refine rs2 ?_ ?_<;>intro h|fail)
       refine b0 (fun k=>Nat.beq k 5||Nat.beq k 6) [(0,[0]),(2,[1])] ?_
       repeat' (first|refine rl7 ?_|refine rs7 ?_ ?_<;>intro h|fail)
       refine Fv _ (Ai (i:=1) rfl) (by omega) ?_
       repeat' (first|refine rl7 ?_|refine rs7 ?_ ?_<;>intro h|fail)
       exact Il (B5 rfl (hcb).1 rfl rfl (Bd _) (hcb).2) ⟨rfl,rfl,rfl⟩
      ·show Aq _ _ _ (.ret (rsP (f,true))) _
       refine Ag Tryz.func29 rfl rfl (Nat.le_of_ble_eq_true rfl) rfl (Nat.le_refl _) ?_
       repeat' (first|refine rl2 ?_|refine rs2 ?_ ?_<;>intro h|fail)
       refine b0 (fun k=>Nat.beq k 6||Nat.beq k 7) [(0,[0]),(2,[1])] ?_
       repeat' (first|refine rl7 ?_|refine rs7 ?_ ?_<;>intro h|fail)
       refine Fv _ (Ai (i:=0) rfl) (by omega) ?_
       repeat' (first|refine rl7 ?_|refine rs7 ?_ ?_<;>intro h|fail)
       refine A9 hca ?_
       repeat' (first|refine rl7 ?_|refine rs7 ?_ ?_<;>intro h|fail)
       repeat' (first|refine rl0 ?_|refine rs0 ?_ ?_<;>intro h|fail)
       rfl
     |some t =>
      rw [e2] at hcb
      rcases hlog with rfl|rfl<;>cases y
      ·show Aq _ _ _ (.ret (rsP (f,false))) _
       refine Ag Tryz.func29 rfl rfl (Nat.le_of_ble_eq_true rfl) rfl (Nat.le_refl _) ?_
       repeat' (first|refine rl2 ?_|refine rs2 ?_ ?_<;>intro h|fail)
       refine b0 (fun k=>Nat.beq k 6||Nat.beq k 7) [(0,[0]),(2,[1])] ?_
       repeat' (first|refine rl7 ?_|refine rs7 ?_ ?_<;>intro h|fail)
       refine Fv _ (Ai (i:=0) rfl) (by omega) ?_
       repeat' (first|refine rl7 ?_|refine rs7 ?_ ?_<;>intro h|fail)
       refine A9 hca ?_
       repeat' (first|refine rl7 ?_|refine rs7 ?_ ?_<;>intro h|fail)
       repeat' (first|refine rl0 ?_|refine rs0 ?_ ?_<;>intro h|fail)
       rfl
      ·show Aq _ _ _ (.ret (rsP t)) _
       refine Ag Tryz.func29 rfl rfl (Nat.le_of_ble_eq_true rfl) rfl (Nat.le_refl _) ?_
       repeat' (first|refine rl2 ?_|refine rs2 ?_ ?_<;>intro h|fail)
       refine b0 (fun k=>Nat.beq k 6||Nat.beq k 7) [(0,[0]),(2,[1])] ?_
       repeat' (first|refine rl7 ?_|refine rs7 ?_ ?_<;>intro h|fail)
       refine Fv _ (Ai (i:=0) rfl) (by omega) ?_
       repeat' (first|refine rl7 ?_|refine rs7 ?_ ?_<;>intro h|fail)
       refine A9 hca ?_
       repeat' (first|refine rl7 ?_|refine rs7 ?_ ?_<;>intro h|fail)
       repeat' (first|refine rl2 ?_|refine rs2 ?_ ?_<;>intro h|fail)
       refine b0 (fun k=>Nat.beq k 6) [(0,[0]),(2,[1])] ?_
       repeat' (first|refine rl7 ?_|refine rs7 ?_ ?_<;>intro h|fail)
       refine Fv _ (Ai (i:=1) rfl) (by omega) ?_
       repeat' (first|refine rl7 ?_|refine rs7 ?_ ?_<;>intro h|fail)
       refine Dn hcb ?_
       repeat' (first|refine rl7 ?_|refine rs7 ?_ ?_<;>intro h|fail)
       repeat' (first|refine rl0 ?_|refine rs0 ?_ ?_<;>intro h|fail)
       rfl
      ·show Aq _ _ _ (.ret (rsP t)) _
       refine Ag Tryz.func29 rfl rfl (Nat.le_of_ble_eq_true rfl) rfl (Nat.le_refl _) ?_
       repeat' (first|refine rl2 ?_|refine rs2 ?_ ?_<;>intro h|fail)
       refine b0 (fun k=>Nat.beq k 6||Nat.beq k 7) [(0,[0]),(2,[1])] ?_
       repeat' (first|refine rl7 ?_|refine rs7 ?_ ?_<;>intro h|fail)
       refine Fv _ (Ai (i:=0) rfl) (by omega) ?_
       repeat' (first|refine rl7 ?_|refine rs7 ?_ ?_<;>intro h|fail)
       refine A9 hca ?_
       repeat' (first|refine rl7 ?_|refine rs7 ?_ ?_<;>intro h|fail)
       repeat' (first|refine rl2 ?_|refine rs2 ?_ ?_<;>intro h|fail)
       refine b0 (fun k=>Nat.beq k 6) [(0,[0]),(2,[1])] ?_
       repeat' (first|refine rl7 ?_|refine rs7 ?_ ?_<;>intro h|fail)
       refine Fv _ (Ai (i:=1) rfl) (by omega) ?_
       repeat' (first|refine rl7 ?_|refine rs7 ?_ ?_<;>intro h|fail)
       refine Dn hcb ?_
       repeat' (first|refine rl7 ?_|refine rs7 ?_ ?_<;>intro h|fail)
       repeat' (first|refine rl0 ?_|refine rs0 ?_ ?_<;>intro h|fail)
       rfl
      ·show Aq _ _ _ (.ret (rsP (f,true))) _
       refine Ag Tryz.func29 rfl rfl (Nat.le_of_ble_eq_true rfl) rfl (Nat.le_refl _) ?_
       repeat' (first|refine rl2 ?_|refine rs2 ?_ ?_<;>intro h|fail)
       refine b0 (fun k=>Nat.beq k 6||Nat.beq k 7) [(0,[0]),(2,[1])] ?_
       repeat' (first|refine rl7 ?_|refine rs7 ?_ ?_<;>intro h|fail)
       refine Fv _ (Ai (i:=0) rfl) (by omega) ?_
       repeat' (first|refine rl7 ?_|refine rs7 ?_ ?_<;>intro h|fail)
       refine A9 hca ?_
       repeat' (first|refine rl7 ?_|refine rs7 ?_ ?_<;>intro h|fail)
       repeat' (first|refine rl0 ?_|refine rs0 ?_ ?_<;>intro h|fail)
       rfl
   ·rw [Aaf _ _ o h1 (by omega)]
    cases e:evX vars vals a with
    |none =>
     rw [e] at hca
     show Aq _ _ _ (.panic divV) _
     have ho:o=7\/o=8\/o=9\/o=10\/o=11\/o=12\/o=13\/o=14\/o=15\/o=16:=by omega
     rcases ho with rfl|rfl|rfl|rfl|rfl|rfl|rfl|rfl|rfl|rfl
     all_goals
      refine Ft Tryz.func29 rfl rfl (Nat.le_of_ble_eq_true rfl) ?_
      repeat' (first|refine rl2 ?_|refine rs2 ?_ ?_<;>intro h|fail)
      refine b0w 5 (fun k=>Nat.beq k 5||Nat.beq k 6||Nat.beq k 7) (fun k=>Nat.beq k 5||Nat.beq k 6||Nat.beq k 7) [(0,[0]),(2,[1])] [(0,[0]),(2,[1])] (by dsimp only [mkE]) (by dsimp only [mkE,B6,List.map]) ?_ ?_
      ·repeat' (first|refine rl7 ?_|refine rs7 ?_ ?_<;>intro h|fail)
       refine Fv _ (Ai (i:=0) rfl) (by omega) ?_
       repeat' (first|refine rl7 ?_|refine rs7 ?_ ?_<;>intro h|fail)
       exact Il (B5 rfl (hca).1 rfl rfl (Bd _) (hca).2) ⟨rfl,rfl,rfl⟩
      ·repeat' (first|refine rl7 ?_|refine rs7 ?_ ?_<;>intro h|fail)
       refine Fv _ (Ai (i:=0) rfl) (by omega) ?_
       repeat' (first|refine rl7 ?_|refine rs7 ?_ ?_<;>intro h|fail)
       exact Il (B5 rfl (hca).1 rfl rfl (Bd _) (hca).2) ⟨rfl,rfl,rfl⟩
    |some r =>
     rw [e] at hca
     rw [Option.bind_some]
     (try dsimp only)
     cases e2:evX vars vals b with
     |none =>
      rw [e2] at hcb
      show Aq _ _ _ (.panic divV) _
      have ho:o=7\/o=8\/o=9\/o=10\/o=11\/o=12\/o=13\/o=14\/o=15\/o=16:=by omega
      rcases ho with rfl|rfl|rfl|rfl|rfl|rfl|rfl|rfl|rfl|rfl
      all_goals
       refine Ft Tryz.func29 rfl rfl (Nat.le_of_ble_eq_true rfl) ?_
       repeat' (first|refine rl2 ?_|refine rs2 ?_ ?_<;>intro h|fail)
       refine b0 (fun k=>Nat.beq k 6||Nat.beq k 7) [(0,[0]),(2,[1])] ?_
       repeat' (first|refine rl7 ?_|refine rs7 ?_ ?_<;>intro h|fail)
       refine Fv _ (Ai (i:=0) rfl) (by omega) ?_
       repeat' (first|refine rl7 ?_|refine rs7 ?_ ?_<;>intro h|fail)
       refine A9 hca ?_
       repeat' (first|refine rl7 ?_|refine rs7 ?_ ?_<;>intro h|fail)
       repeat' (first|refine rl2 ?_|refine rs2 ?_ ?_<;>intro h|fail)
       refine b0w 5 (fun k=>Nat.beq k 5||Nat.beq k 6||Nat.beq k 7) (fun k=>Nat.beq k 5||Nat.beq k 6||Nat.beq k 7) [(0,[0]),(2,[1])] [(0,[0]),(2,[1])] (by dsimp only [mkE]) (by dsimp only [mkE,B6,List.map]) ?_ ?_
       ·repeat' (first|refine rl7 ?_|refine rs7 ?_ ?_<;>intro h|fail)
        refine Fv _ (Ai (i:=1) rfl) (by omega) ?_
        repeat' (first|refine rl7 ?_|refine rs7 ?_ ?_<;>intro h|fail)
        exact Il (B5 rfl (hcb).1 rfl rfl (Bd _) (hcb).2) ⟨rfl,rfl,rfl⟩
       ·repeat' (first|refine rl7 ?_|refine rs7 ?_ ?_<;>intro h|fail)
        refine Fv _ (Ai (i:=1) rfl) (by omega) ?_
        repeat' (first|refine rl7 ?_|refine rs7 ?_ ?_<;>intro h|fail)
        exact Il (B5 rfl (hcb).1 rfl rfl (Bd _) (hcb).2) ⟨rfl,rfl,rfl⟩
     |some t =>
      rw [e2] at hcb
      rw [Option.bind_some]
      have hw1:Gn o=1:=by unfold Gn;rw [if_neg (by omega)]
      obtain ⟨ra,ya⟩:=r
      obtain ⟨rb,yb⟩:=t
      have fa:=((hva _ e).1 (by omega)).1
      have fb:=((hvb _ e2).1 (by omega)).1
      have hcm:=fcmp_do fa fb (by omega) (by omega)
      have hsg:=nsign_do rb.1 rb.2
      by_cases hrel:11<=o
      ·have hcp:=cmpZ_do o (cmpF ra rb) hrel (by omega)
       unfold twoR
       rw [if_pos hrel]
       show Aq _ _ _ (.ret (rsP (zF,cmpZ o (cmpF ra rb)))) _
       refine Z4 ?_
       generalize cmpF ra rb=cv at *
       have ho:o=11\/o=12\/o=13\/o=14\/o=15\/o=16:=by omega
       rcases ho with rfl|rfl|rfl|rfl|rfl|rfl
       all_goals
        refine Ag Tryz.func29 rfl rfl (Nat.le_of_ble_eq_true rfl) rfl (Nat.le_refl _) ?_
        repeat' (first|refine rl2 ?_|refine rs2 ?_ ?_<;>intro h|fail)
        refine b0 (fun k=>Nat.beq k 6||Nat.beq k 7) [(0,[0]),(2,[1])] ?_
        repeat' (first|refine rl7 ?_|refine rs7 ?_ ?_<;>intro h|fail)
        refine Fv _ (Ai (i:=0) rfl) (by omega) ?_
        repeat' (first|refine rl7 ?_|refine rs7 ?_ ?_<;>intro h|fail)
        refine A9 hca ?_
        repeat' (first|refine rl7 ?_|refine rs7 ?_ ?_<;>intro h|fail)
        repeat' (first|refine rl2 ?_|refine rs2 ?_ ?_<;>intro h|fail)
        refine b0 (fun k=>Nat.beq k 6||Nat.beq k 7) [(0,[0]),(2,[1])] ?_
        repeat' (first|refine rl7 ?_|refine rs7 ?_ ?_<;>intro h|fail)
        refine Fv _ (Ai (i:=1) rfl) (by omega) ?_
        repeat' (first|refine rl7 ?_|refine rs7 ?_ ?_<;>intro h|fail)
        refine A9 hcb ?_
        repeat' (first|refine rl7 ?_|refine rs7 ?_ ?_<;>intro h|fail)
        repeat' (first|refine rl2 ?_|refine rs2 ?_ ?_<;>intro h|fail)
        refine b0 (fun k=>Nat.beq k 9) [(1,[1]),(3,[3]),(5,[4])] ?_
        repeat' (first|refine rl7 ?_|refine rs7 ?_ ?_<;>intro h|fail)
        refine A9 hcm ?_
        repeat' (first|refine rl7 ?_|refine rs7 ?_ ?_<;>intro h|fail)
        refine A9 hcp ?_
        repeat' (first|refine rl7 ?_|refine rs7 ?_ ?_<;>intro h|fail)
        repeat' (first|refine rl0 ?_|refine rs0 ?_ ?_<;>intro h|fail)
        rfl
      ·have har:=arith_do
       unfold twoR
       rw [if_neg hrel]
       have ho:o=7\/o=8\/o=9\/o=10:=by omega
       by_cases hz:o=10/\rb.1=0
       ·obtain ⟨rfl,hz⟩:=hz
        rw [if_pos ⟨rfl,hz⟩]
        show Aq _ _ _ (.panic divV) _
        rw [On.2 hz] at hsg
        refine Ft Tryz.func29 rfl rfl (Nat.le_of_ble_eq_true rfl) ?_
        repeat' (first|refine rl2 ?_|refine rs2 ?_ ?_<;>intro h|fail)
        refine b0 (fun k=>Nat.beq k 6||Nat.beq k 7) [(0,[0]),(2,[1])] ?_
        repeat' (first|refine rl7 ?_|refine rs7 ?_ ?_<;>intro h|fail)
        refine Fv _ (Ai (i:=0) rfl) (by omega) ?_
        repeat' (first|refine rl7 ?_|refine rs7 ?_ ?_<;>intro h|fail)
        refine A9 hca ?_
        repeat' (first|refine rl7 ?_|refine rs7 ?_ ?_<;>intro h|fail)
        repeat' (first|refine rl2 ?_|refine rs2 ?_ ?_<;>intro h|fail)
        refine b0 (fun k=>Nat.beq k 6||Nat.beq k 7) [(0,[0]),(2,[1])] ?_
        repeat' (first|refine rl7 ?_|refine rs7 ?_ ?_<;>intro h|fail)
        refine Fv _ (Ai (i:=1) rfl) (by omega) ?_
        repeat' (first|refine rl7 ?_|refine rs7 ?_ ?_<;>intro h|fail)
        refine A9 hcb ?_
        repeat' (first|refine rl7 ?_|refine rs7 ?_ ?_<;>intro h|fail)
        repeat' (first|refine rl2 ?_|refine rs2 ?_ ?_<;>intro h|fail)
        refine wp1 hsg ?_
        repeat' (first|refine rl2 ?_|refine rs2 ?_ ?_<;>intro h|fail)
        refine T9 rfl (Aa9 rfl rfl) ?_
        exact ⟨rfl,rfl,rfl⟩
       ·rw [if_neg hz]
        show Aq _ _ _ (.ret (rsP (ariF o ra rb,false))) _
        rcases ho with rfl|rfl|rfl|rfl
        ·have hfn:=fadd_do fa fb (by omega) (by omega)
         show Aq _ _ _ (.ret (rsP (addF ra rb,false))) _
         refine Ag Tryz.func29 rfl rfl (Nat.le_of_ble_eq_true rfl) rfl (Nat.le_refl _) ?_
         repeat' (first|refine rl2 ?_|refine rs2 ?_ ?_<;>intro h|fail)
         refine b0 (fun k=>Nat.beq k 6||Nat.beq k 7) [(0,[0]),(2,[1])] ?_
         repeat' (first|refine rl7 ?_|refine rs7 ?_ ?_<;>intro h|fail)
         refine Fv _ (Ai (i:=0) rfl) (by omega) ?_
         repeat' (first|refine rl7 ?_|refine rs7 ?_ ?_<;>intro h|fail)
         refine A9 hca ?_
         repeat' (first|refine rl7 ?_|refine rs7 ?_ ?_<;>intro h|fail)
         repeat' (first|refine rl2 ?_|refine rs2 ?_ ?_<;>intro h|fail)
         refine b0 (fun k=>Nat.beq k 6||Nat.beq k 7) [(0,[0]),(2,[1])] ?_
         repeat' (first|refine rl7 ?_|refine rs7 ?_ ?_<;>intro h|fail)
         refine Fv _ (Ai (i:=1) rfl) (by omega) ?_
         repeat' (first|refine rl7 ?_|refine rs7 ?_ ?_<;>intro h|fail)
         refine A9 hcb ?_
         repeat' (first|refine rl7 ?_|refine rs7 ?_ ?_<;>intro h|fail)
         repeat' (first|refine rl2 ?_|refine rs2 ?_ ?_<;>intro h|fail)
         refine b0 (fun k=>Nat.beq k 10) [(2,[1]),(5,[3]),(7,[4])] ?_
         repeat' (first|refine rl7 ?_|refine rs7 ?_ ?_<;>intro h|fail)
         refine A9 har ?_
         repeat' (first|refine rl7 ?_|refine rs7 ?_ ?_<;>intro h|fail)
         refine biv (j:=7) (by decide) ?_
         repeat' (first|refine rl7 ?_|refine rs7 ?_ ?_<;>intro h|fail)
         refine A9 hfn ?_
         repeat' (first|refine rl7 ?_|refine rs7 ?_ ?_<;>intro h|fail)
         repeat' (first|refine rl0 ?_|refine rs0 ?_ ?_<;>intro h|fail)
         rfl
        ·have hfn:=fsub_do fa fb (by omega) (by omega)
         show Aq _ _ _ (.ret (rsP (subF ra rb,false))) _
         refine Ag Tryz.func29 rfl rfl (Nat.le_of_ble_eq_true rfl) rfl (Nat.le_refl _) ?_
         repeat' (first|refine rl2 ?_|refine rs2 ?_ ?_<;>intro h|fail)
         refine b0 (fun k=>Nat.beq k 6||Nat.beq k 7) [(0,[0]),(2,[1])] ?_
         repeat' (first|refine rl7 ?_|refine rs7 ?_ ?_<;>intro h|fail)
         refine Fv _ (Ai (i:=0) rfl) (by omega) ?_
         repeat' (first|refine rl7 ?_|refine rs7 ?_ ?_<;>intro h|fail)
         refine A9 hca ?_
         repeat' (first|refine rl7 ?_|refine rs7 ?_ ?_<;>intro h|fail)
         repeat' (first|refine rl2 ?_|refine rs2 ?_ ?_<;>intro h|fail)
         refine b0 (fun k=>Nat.beq k 6||Nat.beq k 7) [(0,[0]),(2,[1])] ?_
         repeat' (first|refine rl7 ?_|refine rs7 ?_ ?_<;>intro h|fail)
         refine Fv _ (Ai (i:=1) rfl) (by omega) ?_
         repeat' (first|refine rl7 ?_|refine rs7 ?_ ?_<;>intro h|fail)
         refine A9 hcb ?_
         repeat' (first|refine rl7 ?_|refine rs7 ?_ ?_<;>intro h|fail)
         repeat' (first|refine rl2 ?_|refine rs2 ?_ ?_<;>intro h|fail)
         refine b0 (fun k=>Nat.beq k 10) [(2,[1]),(5,[3]),(7,[4])] ?_
         repeat' (first|refine rl7 ?_|refine rs7 ?_ ?_<;>intro h|fail)
         refine A9 har ?_
         repeat' (first|refine rl7 ?_|refine rs7 ?_ ?_<;>intro h|fail)
         refine biv (j:=8) (by decide) ?_
         repeat' (first|refine rl7 ?_|refine rs7 ?_ ?_<;>intro h|fail)
         refine A9 hfn ?_
         repeat' (first|refine rl7 ?_|refine rs7 ?_ ?_<;>intro h|fail)
         repeat' (first|refine rl0 ?_|refine rs0 ?_ ?_<;>intro h|fail)
         rfl
        ·have hfn:=fmul_do fa fb (by omega) (by omega)
         show Aq _ _ _ (.ret (rsP (mulF ra rb,false))) _
         refine Ag Tryz.func29 rfl rfl (Nat.le_of_ble_eq_true rfl) rfl (Nat.le_refl _) ?_
         repeat' (first|refine rl2 ?_|refine rs2 ?_ ?_<;>intro h|fail)
         refine b0 (fun k=>Nat.beq k 6||Nat.beq k 7) [(0,[0]),(2,[1])] ?_
         repeat' (first|refine rl7 ?_|refine rs7 ?_ ?_<;>intro h|fail)
         refine Fv _ (Ai (i:=0) rfl) (by omega) ?_
         repeat' (first|refine rl7 ?_|refine rs7 ?_ ?_<;>intro h|fail)
         refine A9 hca ?_
         repeat' (first|refine rl7 ?_|refine rs7 ?_ ?_<;>intro h|fail)
         repeat' (first|refine rl2 ?_|refine rs2 ?_ ?_<;>intro h|fail)
         refine b0 (fun k=>Nat.beq k 6||Nat.beq k 7) [(0,[0]),(2,[1])] ?_
         repeat' (first|refine rl7 ?_|refine rs7 ?_ ?_<;>intro h|fail)
         refine Fv _ (Ai (i:=1) rfl) (by omega) ?_
         repeat' (first|refine rl7 ?_|refine rs7 ?_ ?_<;>intro h|fail)
         refine A9 hcb ?_
         repeat' (first|refine rl7 ?_|refine rs7 ?_ ?_<;>intro h|fail)
         repeat' (first|refine rl2 ?_|refine rs2 ?_ ?_<;>intro h|fail)
         refine b0 (fun k=>Nat.beq k 10) [(2,[1]),(5,[3]),(7,[4])] ?_
         repeat' (first|refine rl7 ?_|refine rs7 ?_ ?_<;>intro h|fail)
         refine A9 har ?_
         repeat' (first|refine rl7 ?_|refine rs7 ?_ ?_<;>intro h|fail)
         refine biv (j:=9) (by decide) ?_
         repeat' (first|refine rl7 ?_|refine rs7 ?_ ?_<;>intro h|fail)
         refine A9 hfn ?_
         repeat' (first|refine rl7 ?_|refine rs7 ?_ ?_<;>intro h|fail)
         repeat' (first|refine rl0 ?_|refine rs0 ?_ ?_<;>intro h|fail)
         rfl
        ·have hb0:rb.1≠0:=fun e=>hz ⟨rfl,e⟩
         have hfn:=fdiv_do fa fb hb0 (by omega) (by omega)
         show Aq _ _ _ (.ret (rsP (divF ra rb,false))) _
         refine Ag Tryz.func29 rfl rfl (Nat.le_of_ble_eq_true rfl) rfl (Nat.le_refl _) ?_
         repeat' (first|refine rl2 ?_|refine rs2 ?_ ?_<;>intro h|fail)
         refine b0 (fun k=>Nat.beq k 6||Nat.beq k 7) [(0,[0]),(2,[1])] ?_
         repeat' (first|refine rl7 ?_|refine rs7 ?_ ?_<;>intro h|fail)
         refine Fv _ (Ai (i:=0) rfl) (by omega) ?_
         repeat' (first|refine rl7 ?_|refine rs7 ?_ ?_<;>intro h|fail)
         refine A9 hca ?_
         repeat' (first|refine rl7 ?_|refine rs7 ?_ ?_<;>intro h|fail)
         repeat' (first|refine rl2 ?_|refine rs2 ?_ ?_<;>intro h|fail)
         refine b0 (fun k=>Nat.beq k 6||Nat.beq k 7) [(0,[0]),(2,[1])] ?_
         repeat' (first|refine rl7 ?_|refine rs7 ?_ ?_<;>intro h|fail)
         refine Fv _ (Ai (i:=1) rfl) (by omega) ?_
         repeat' (first|refine rl7 ?_|refine rs7 ?_ ?_<;>intro h|fail)
         refine A9 hcb ?_
         repeat' (first|refine rl7 ?_|refine rs7 ?_ ?_<;>intro h|fail)
         repeat' (first|refine rl2 ?_|refine rs2 ?_ ?_<;>intro h|fail)
         refine wp1 hsg ?_
         repeat' (first|refine rl2 ?_|refine rs2 ?_ ?_<;>intro h|fail)
         ·exfalso;have:=On (x:=rb.1);simp at *;omega
         refine b0 (fun k=>Nat.beq k 10) [(2,[1]),(5,[3]),(7,[4])] ?_
         repeat' (first|refine rl7 ?_|refine rs7 ?_ ?_<;>intro h|fail)
         refine A9 har ?_
         repeat' (first|refine rl7 ?_|refine rs7 ?_ ?_<;>intro h|fail)
         refine biv (j:=10) (by decide) ?_
         repeat' (first|refine rl7 ?_|refine rs7 ?_ ?_<;>intro h|fail)
         refine A9 hfn ?_
         repeat' (first|refine rl7 ?_|refine rs7 ?_ ?_<;>intro h|fail)
         repeat' (first|refine rl0 ?_|refine rs0 ?_ ?_<;>intro h|fail)
         rfl
  |ite a b c ha hb hc =>
   obtain ⟨hka,hkb,hkc⟩:=Sl hk
   have hna:Ch a+Ch b+Ch c+1=Ch (nd 19 [a,b,c]):=by rw [nd,Bh,Bp,Bp,Bp,Cl];omega
   have hca:=ih a (by have:=Gh (x:=nd 19 [a,b,c]) (y:=a) (by simp [nd,Ex.args]);omega) ha (by omega) (by omega)
   have hcb:=ih b (by have:=Gh (x:=nd 19 [a,b,c]) (y:=b) (by simp [nd,Ex.args]);omega) hb (by omega) (by omega)
   have hcc:=ih c (by have:=Gh (x:=nd 19 [a,b,c]) (y:=c) (by simp [nd,Ex.args]);omega) hc (by omega) (by omega)
   rw [Aab]
   cases e:evX vars vals a with
   |none =>
    rw [e] at hca
    refine Ft Tryz.func29 rfl rfl (Nat.le_of_ble_eq_true rfl) ?_
    repeat' (first|refine rl2 ?_|refine rs2 ?_ ?_<;>intro h|fail)
    refine b0w 5 (fun k=>Nat.beq k 5||Nat.beq k 6||Nat.beq k 7) (fun k=>Nat.beq k 5||Nat.beq k 6||Nat.beq k 7) [(0,[0]),(2,[1])] [(0,[0]),(2,[1])] (by dsimp only [mkE]) (by dsimp only [mkE,B6,List.map]) ?_ ?_
    ·repeat' (first|refine rl7 ?_|refine rs7 ?_ ?_<;>intro h|fail)
     refine Fv _ (Ai (i:=0) rfl) (by omega) ?_
     repeat' (first|refine rl7 ?_|refine rs7 ?_ ?_<;>intro h|fail)
     exact Il (B5 rfl (hca).1 rfl rfl (Bd _) (hca).2) ⟨rfl,rfl,rfl⟩
    ·repeat' (first|refine rl7 ?_|refine rs7 ?_ ?_<;>intro h|fail)
     refine Fv _ (Ai (i:=0) rfl) (by omega) ?_
     repeat' (first|refine rl7 ?_|refine rs7 ?_ ?_<;>intro h|fail)
     exact Il (B5 rfl (hca).1 rfl rfl (Bd _) (hca).2) ⟨rfl,rfl,rfl⟩
   |some r =>
    rw [e] at hca
    obtain ⟨f,y⟩:=r
    rw [Option.bind_some]
    (try dsimp only)
    cases y with
    |true =>
     rw [if_pos rfl]
     cases e2:evX vars vals b with
     |none =>
      rw [e2] at hcb
      refine Ft Tryz.func29 rfl rfl (Nat.le_of_ble_eq_true rfl) ?_
      repeat' (first|refine rl2 ?_|refine rs2 ?_ ?_<;>intro h|fail)
      refine b0 (fun k=>Nat.beq k 6||Nat.beq k 7) [(0,[0]),(2,[1])] ?_
      repeat' (first|refine rl7 ?_|refine rs7 ?_ ?_<;>intro h|fail)
      refine Fv _ (Ai (i:=0) rfl) (by omega) ?_
      repeat' (first|refine rl7 ?_|refine rs7 ?_ ?_<;>intro h|fail)
      refine A9 hca ?_
      repeat' (first|refine rl7 ?_|refine rs7 ?_ ?_<;>intro h|fail)
      repeat' (first|refine rl2 ?_|refine rs2 ?_ ?_<;>intro h|fail)
      refine b0 (fun k=>Nat.beq k 5||Nat.beq k 6) [(0,[0]),(2,[1])] ?_
      repeat' (first|refine rl7 ?_|refine rs7 ?_ ?_<;>intro h|fail)
      refine Fv _ (Ai (i:=1) rfl) (by omega) ?_
      repeat' (first|refine rl7 ?_|refine rs7 ?_ ?_<;>intro h|fail)
      exact Il (B5 rfl (hcb).1 rfl rfl (Bd _) (hcb).2) ⟨rfl,rfl,rfl⟩
     |some t =>
      rw [e2] at hcb
      show Aq _ _ _ (.ret (rsP t)) _
      refine Ag Tryz.func29 rfl rfl (Nat.le_of_ble_eq_true rfl) rfl (Nat.le_refl _) ?_
      repeat' (first|refine rl2 ?_|refine rs2 ?_ ?_<;>intro h|fail)
      refine b0 (fun k=>Nat.beq k 6||Nat.beq k 7) [(0,[0]),(2,[1])] ?_
      repeat' (first|refine rl7 ?_|refine rs7 ?_ ?_<;>intro h|fail)
      refine Fv _ (Ai (i:=0) rfl) (by omega) ?_
      repeat' (first|refine rl7 ?_|refine rs7 ?_ ?_<;>intro h|fail)
      refine A9 hca ?_
      repeat' (first|refine rl7 ?_|refine rs7 ?_ ?_<;>intro h|fail)
      repeat' (first|refine rl2 ?_|refine rs2 ?_ ?_<;>intro h|fail)
      refine b0 (fun k=>Nat.beq k 6) [(0,[0]),(2,[1])] ?_
      repeat' (first|refine rl7 ?_|refine rs7 ?_ ?_<;>intro h|fail)
      refine Fv _ (Ai (i:=1) rfl) (by omega) ?_
      repeat' (first|refine rl7 ?_|refine rs7 ?_ ?_<;>intro h|fail)
      refine Dn hcb ?_
      repeat' (first|refine rl7 ?_|refine rs7 ?_ ?_<;>intro h|fail)
      repeat' (first|refine rl0 ?_|refine rs0 ?_ ?_<;>intro h|fail)
      rfl
    |false =>
     rw [if_neg (by simp)]
     cases e2:evX vars vals c with
     |none =>
      rw [e2] at hcc
      refine Ft Tryz.func29 rfl rfl (Nat.le_of_ble_eq_true rfl) ?_
      repeat' (first|refine rl2 ?_|refine rs2 ?_ ?_<;>intro h|fail)
      refine b0 (fun k=>Nat.beq k 6||Nat.beq k 7) [(0,[0]),(2,[1])] ?_
      repeat' (first|refine rl7 ?_|refine rs7 ?_ ?_<;>intro h|fail)
      refine Fv _ (Ai (i:=0) rfl) (by omega) ?_
      repeat' (first|refine rl7 ?_|refine rs7 ?_ ?_<;>intro h|fail)
      refine A9 hca ?_
      repeat' (first|refine rl7 ?_|refine rs7 ?_ ?_<;>intro h|fail)
      repeat' (first|refine rl2 ?_|refine rs2 ?_ ?_<;>intro h|fail)
      refine b0 (fun k=>Nat.beq k 5||Nat.beq k 6) [(0,[0]),(2,[1])] ?_
      repeat' (first|refine rl7 ?_|refine rs7 ?_ ?_<;>intro h|fail)
      refine Fv _ (Ai (i:=2) rfl) (by omega) ?_
      repeat' (first|refine rl7 ?_|refine rs7 ?_ ?_<;>intro h|fail)
      exact Il (B5 rfl (hcc).1 rfl rfl (Bd _) (hcc).2) ⟨rfl,rfl,rfl⟩
     |some t =>
      rw [e2] at hcc
      show Aq _ _ _ (.ret (rsP t)) _
      refine Ag Tryz.func29 rfl rfl (Nat.le_of_ble_eq_true rfl) rfl (Nat.le_refl _) ?_
      repeat' (first|refine rl2 ?_|refine rs2 ?_ ?_<;>intro h|fail)
      refine b0 (fun k=>Nat.beq k 6||Nat.beq k 7) [(0,[0]),(2,[1])] ?_
      repeat' (first|refine rl7 ?_|refine rs7 ?_ ?_<;>intro h|fail)
      refine Fv _ (Ai (i:=0) rfl) (by omega) ?_
      repeat' (first|refine rl7 ?_|refine rs7 ?_ ?_<;>intro h|fail)
      refine A9 hca ?_
      repeat' (first|refine rl7 ?_|refine rs7 ?_ ?_<;>intro h|fail)
      repeat' (first|refine rl2 ?_|refine rs2 ?_ ?_<;>intro h|fail)
      refine b0 (fun k=>Nat.beq k 6) [(0,[0]),(2,[1])] ?_
      repeat' (first|refine rl7 ?_|refine rs7 ?_ ?_<;>intro h|fail)
      refine Fv _ (Ai (i:=2) rfl) (by omega) ?_
      repeat' (first|refine rl7 ?_|refine rs7 ?_ ?_<;>intro h|fail)
      refine Dn hcc ?_
      repeat' (first|refine rl7 ?_|refine rs7 ?_ ?_<;>intro h|fail)
      repeat' (first|refine rl0 ?_|refine rs0 ?_ ?_<;>intro h|fail)
      rfl
end Go.Proofs.YtjagmmmcibdibaaGreatDoor
namespace Go.Proofs.YtjagmmmcibdibaaGreatDoor.D4
open Go.RowKit
def Aj:List Int->Int
 |[]=>0
 |x::r=>x+10000*Aj r
def Af (x:Int):Prop:=0<=x/\x<10000
theorem Aw:∀ {l:List Int},(∀ x∈l,Af x)->0<=Aj l
 |[],_=>by simp [Aj]
 |x::r,h=>by
  have h1:=Aw (l:=r) fun y hy=>h y (List.mem_cons_of_mem _ hy)
  have h2:=(h x List.mem_cons_self).1
  simp only [Aj];omega
theorem Bv:∀ (l r:List Int),Aj (l++r)=Aj l+10000 ^ l.length*Aj r
 |[],r=>by simp [Aj]
 |x::l,r=>by
  simp only [List.cons_append,Aj,Bv l r,List.length_cons,Int.pow_succ]
  rw [Int.mul_add,<- Int.mul_assoc,Int.mul_comm (10000 ^ l.length) 10000];omega
theorem Xq {l:List Int} {i:Nat} (h:i<l.length):Aj (l.drop i)=l.getD i 0+10000*Aj (l.drop (i+1)):=by
 rw [List.drop_eq_getElem_cons h,Aj,List.getD_eq_getElem?_getD,List.getElem?_eq_getElem h];rfl
theorem Cn:∀ {l:List Int},(∀ x∈l,Af x)->Aj l<10000 ^ l.length
 |[],_=>by simp [Aj]
 |x::r,h=>by
  have h1:=Cn (l:=r) fun y hy=>h y (List.mem_cons_of_mem _ hy)
  have h2:=(h x List.mem_cons_self).2
  simp only [Aj,List.length_cons,Int.pow_succ];omega
theorem H5 {l:List Int} (h:∀ x∈l,Af x) {i:Nat} (hi:i<l.length):Af (l.getD i 0):=by
 rw [List.getD_eq_getElem?_getD,List.getElem?_eq_getElem hi];exact h _ (List.getElem_mem hi)
def Bq:List Int->List Int
 |[]=>[]
 |x::r=>match Bq r with
  |[]=>if x=0 then [] else [x]
  |y::s=>x::y::s
theorem Lu:∀ l,(Bq l).length<=l.length
 |[]=>Nat.le_refl _
 |x::r=>by
  have h:=Lu r
  unfold Bq
  split
  ·rename_i e;split<;>simp
  ·rename_i y s e;rw [e] at h;simp at h |-;omega
theorem Hp:∀ (l:List Int) (x:Int),Bq (l++[x])=if x=0 then Bq l else l++[x]
 |[],x=>by simp [Bq]
 |a::l,x=>by
  rw [List.cons_append,Bq,Hp l x]
  by_cases h:x=0
  ·simp only [if_pos h];rw [Bq]
  ·simp only [if_neg h]
   cases l with
   |nil=>rfl
   |cons b l=>rfl
theorem Lw:∀ l,Aj (Bq l)=Aj l
 |[]=>rfl
 |x::r=>by
  have h:=Lw r
  unfold Bq
  split
  ·rename_i e
   rw [e] at h;simp only [Aj] at h |-
   split<;>simp [Aj]<;>omega
  ·rename_i y s e
   rw [e] at h
   rw [Aj,h];rfl
theorem Lv {p:Int->Prop}:∀ {l:List Int},(∀ x∈l,p x)->∀ x∈Bq l,p x
 |[],h=>h
 |x::r,h=>by
  have h1:=Lv (l:=r) fun y hy=>h y (List.mem_cons_of_mem _ hy)
  unfold Bq
  split
  ·split
   ·simp
   ·intro y hy;simp at hy;subst hy;exact h _ List.mem_cons_self
  ·rename_i y s e
   rw [e] at h1
   intro z hz
   rcases List.mem_cons.1 hz with rfl|hz
   ·exact h _ List.mem_cons_self
   ·exact h1 z hz
theorem Ay {l:List Int} (h:∀ z∈l,Af z) (i:Nat):Af (l.getD i 0):=by
 by_cases hi:i<l.length
 ·exact H5 h hi
 ·rw [List.getD_eq_getElem?_getD,List.getElem?_eq_none (by omega)];exact ⟨by simp,by simp⟩
theorem Aih {l:List Int} {i:Nat} {v:Int} (h:∀ z∈l,Af z) (hv:Af v):∀ z∈l.set i v,Af z:=fun x hx=>by
 rcases List.mem_or_eq_of_mem_set hx with h1|rfl
 ·exact h x h1
 ·exact hv
def Al (n:Nat):List Int:=if h:n=0 then [] else ((n % 10000:Nat):Int)::Al (n / 10000)
termination_by n
decreasing_by omega
theorem At:Al 0=[]:=by rw [Al];rfl
theorem Ca {n:Nat} (h:n≠0):Al n=((n % 10000:Nat):Int)::Al (n / 10000):=by rw [Al,dif_neg h]
theorem Bg (n:Nat):Aj (Al n)=n:=by
 induction n using Nat.strongRecOn with
 |ind n ih =>
  by_cases h:n=0
  ·subst h;rw [At];rfl
  ·rw [Ca h,Aj,ih _ (by omega)];omega
theorem Bt (n:Nat):∀ x∈Al n,Af x:=by
 induction n using Nat.strongRecOn with
 |ind n ih =>
  by_cases h:n=0
  ·subst h;rw [At];simp
  ·rw [Ca h]
   intro x hx
   rcases List.mem_cons.1 hx with rfl|hx
   ·exact ⟨by omega,by omega⟩
   ·exact ih _ (by omega) x hx
theorem Db {n:Nat}:Al n=[]<->n=0:=by
 constructor
 ·intro h;have:=Bg n;rw [h] at this;simp only [Aj] at this;omega
 ·rintro rfl;exact At
theorem Oc:∀ {l:List Int},(∀ x∈l,Af x)->Bq l=Al (Aj l).toNat
 |[],_=>by simp [Bq,Aj,At]
 |x::r,h=>by
  have hr:=fun y hy=>h y (List.mem_cons_of_mem x hy)
  have h1:=Oc hr
  have h0:=Aw hr
  obtain ⟨h2,h3⟩:=h x List.mem_cons_self
  rw [Bq,Aj]
  by_cases hz:Aj r=0
  ·rw [h1,hz]
   simp only [Int.toNat_zero,At]
   split
   ·rename_i e;subst e;simp [At]
   ·rename_i e
    rw [Ca (by omega)]
    simp only [Int.mul_zero,Int.add_zero]
    rw [show x.toNat / 10000=0 by omega,At]
    congr 1;omega
  ·rw [h1]
   have hn:Al (Aj r).toNat≠[]:=by rw [Ne,Db];omega
   rw [Ca (n:=(x+10000*Aj r).toNat) (by omega),show (x+10000*Aj r).toNat / 10000=(Aj r).toNat by omega]
   split
   ·rename_i e;exact absurd e hn
   ·rename_i y s e;rw [e];congr 1;omega
theorem Lb {n k:Nat} (h:n<10000 ^ k):(Al n).length<=k:=by
 induction k generalizing n with
 |zero=>simp at h;subst h;rw [At];exact Nat.le_refl _
 |succ k ih =>
  by_cases hn:n=0
  ·subst hn;rw [At];simp
  ·rw [Ca hn]
   have:=ih (n:=n / 10000) (by rw [Nat.pow_succ] at h;omega)
   simp;exact this
theorem Lc {n k : Nat} (h : (Al n).length <= k) : n < 10000 ^ k := by
  induction k generalizing n with
  | zero => have : Al n = [] := List.length_eq_zero_iff.1 (by omega)
            rw [Db] at this; subst this; decide
  | succ k ih =>
    by_cases hn : n = 0
    . subst hn; exact Nat.pow_pos (by decide)
    . rw [Ca hn] at h
      have := ih (n := n / 10000) (by simpa using h)
      rw [Nat.pow_succ]; omega
theorem A8 (l:List Int):∀ i,Aj (l.take (i+1))=Aj (l.take i)+10000 ^ i*l.getD i 0:=by
 intro i
 by_cases h:i<l.length
 ·rw [List.take_succ_eq_append_getElem h,Bv,List.length_take,Nat.min_eq_left (by omega),List.getD_eq_getElem?_getD,List.getElem?_eq_getElem h]
  simp [Aj]
 ·rw [List.take_of_length_le (by omega),List.take_of_length_le (by omega),List.getD_eq_getElem?_getD,List.getElem?_eq_none (by omega)];simp
theorem G4 {a b:Nat} (h:a<=b):(10000:Int) ^ a<=10000 ^ b:=by
 have h1:((10000 ^ a:Nat):Int)<=((10000 ^ b:Nat):Int):=Int.ofNat_le.2 (Nat.pow_le_pow_right (by decide) h)
 rw [Int.natCast_pow,Int.natCast_pow] at h1;exact h1
theorem Jq (k:Nat):(0:Int)<10000 ^ k:=Int.pow_pos (by decide)
def Av (m o:List Int):Nat->List Int×Int
 |0=>([],0)
 |i+1=>((Av m o i).1++[(if m.getD i 0-(Av m o i).2-o.getD i 0<0 then m.getD i 0-(Av m o i).2-o.getD i 0+10000 else m.getD i 0-(Av m o i).2-o.getD i 0)],if m.getD i 0-(Av m o i).2-o.getD i 0<0 then 1 else 0)
def J5 (m o:List Int):List Int:=(Av m o m.length).1
theorem Bu (m o:List Int):∀ i,(Av m o i).1.length=i
 |0=>rfl
 |i+1=>by simp [Av,Bu m o i]
theorem Hf {m o:List Int} (hm:∀ z∈m,Af z) (ho:∀ z∈o,Af z):∀ i,(∀ z∈(Av m o i).1,Af z)/\0<=(Av m o i).2/\(Av m o i).2<=1
 |0=>by simp [Av]
 |i+1=>by
  obtain ⟨h1,h2,h3⟩:=Hf hm ho i
  obtain ⟨h4,h5⟩:=Ay hm i
  obtain ⟨h6,h7⟩:=Ay ho i
  simp only [Av]
  refine ⟨fun z hz=>?_,by split<;>omega,by split<;>omega⟩
  rcases List.mem_append.1 hz with hz|hz
  ·exact h1 z hz
  ·rw [List.mem_singleton] at hz;subst hz;unfold Af;split<;>omega
theorem Hg (m o:List Int):∀ i,Aj (Av m o i).1-10000 ^ i*(Av m o i).2=Aj (m.take i)-Aj (o.take i)
 |0=>by simp [Av,Aj]
 |i+1=>by
  have h:=Hg m o i
  rw [A8,A8,Av,Bv,Bu]
  simp only [Aj]
  rw [Int.pow_succ]
  split<;>grind
theorem Mg {m o:List Int} (hm:∀ z∈m,Af z) (ho:∀ z∈o,Af z) (hl:o.length<=m.length) (hv:Aj o<=Aj m):Aj (J5 m o)=Aj m-Aj o/\(∀ z∈J5 m o,Af z)/\(J5 m o).length=m.length:=by
 have h:=Hg m o m.length
 rw [List.take_length,List.take_of_length_le hl] at h
 obtain ⟨h1,h2,h3⟩:=Hf hm ho m.length
 have h4:=Bu m o m.length
 have h5:=Cn h1
 rw [h4] at h5
 have hb:(Av m o m.length).2=0:=by
  rcases (show (Av m o m.length).2=0\/(Av m o m.length).2=1 by omega) with e|e
  ·exact e
  ·rw [e] at h;simp at h;omega
 rw [hb] at h
 exact ⟨by unfold J5;omega,h1,h4⟩
def Uy (m o:List Int):Nat->Int
 |0=>0
 |i+1=>if m.getD i 0<o.getD i 0 then -1 else if o.getD i 0<m.getD i 0 then 1 else Uy m o i
theorem Kv {m o:List Int} (hm:∀ z∈m,Af z) (ho:∀ z∈o,Af z):∀ i,Uy m o i=Cy (Aj (m.take i)) (Aj (o.take i))
 |0=>by simp [Uy,Aj,Cy]
 |i+1=>by
  have h:=Kv hm ho i
  rw [A8,A8,Uy]
  have h1:=Cn (l:=m.take i) fun z hz=>hm z (List.mem_of_mem_take hz)
  have h2:=Cn (l:=o.take i) fun z hz=>ho z (List.mem_of_mem_take hz)
  have h3:=Aw (l:=m.take i) fun z hz=>hm z (List.mem_of_mem_take hz)
  have h4:=Aw (l:=o.take i) fun z hz=>ho z (List.mem_of_mem_take hz)
  have h5:(10000:Int) ^ (m.take i).length<=10000 ^ i:=G4 (by rw [List.length_take];omega)
  have h6:(10000:Int) ^ (o.take i).length<=10000 ^ i:=G4 (by rw [List.length_take];omega)
  have h7:=Jq i
  split
  ·rename_i hlt
   have h8:(10000:Int) ^ i*(m.getD i 0+1)<=10000 ^ i*o.getD i 0:=Int.mul_le_mul_of_nonneg_left (by omega) (by omega)
   rw [Int.mul_add] at h8
   rw [Cy,if_pos (by omega)]
  ·split
   ·rename_i hlt
    have h8:(10000:Int) ^ i*(o.getD i 0+1)<=10000 ^ i*m.getD i 0:=Int.mul_le_mul_of_nonneg_left (by omega) (by omega)
    rw [Int.mul_add] at h8
    rw [Cy,if_neg (by omega),if_pos (by omega)]
   ·have e:m.getD i 0=o.getD i 0:=by omega
    rw [h,e];unfold Cy
    congr 1
    ·simp
    ·congr 1;simp
def cmpL (m o:List Int):Int:=if m.length<o.length then -1 else if o.length<m.length then 1 else Uy m o m.length
theorem H4 {n:Nat} (h:n≠0):10000 ^ ((Al n).length-1)<=n:=by
 induction n using Nat.strongRecOn with
 |ind n ih =>
  rw [Ca h]
  simp only [List.length_cons,Nat.add_sub_cancel]
  by_cases h2:n / 10000=0
  ·rw [h2,At];simp;omega
  ·have:=ih _ (by omega) h2
   have hl:(Al (n / 10000)).length≠0:=by rw [Ne,List.length_eq_zero_iff,Db];exact h2
   obtain ⟨k,hk⟩:∃ k,(Al (n / 10000)).length=k+1:=⟨(Al (n / 10000)).length-1,by omega⟩
   rw [hk] at this |-
   simp only [Nat.add_sub_cancel] at this
   rw [Nat.pow_succ];omega
theorem Kw (a b:Nat):cmpL (Al a) (Al b)=Cy a b:=by
 unfold cmpL
 have ha:=Cn (Bt a)
 have hb:=Cn (Bt b)
 rw [Bg] at ha hb
 split
 ·rename_i h
  have h0:b≠0:=by rintro rfl;rw [At] at h;simp at h
  have h1:=H4 h0
  have h2:(10000:Int) ^ (Al a).length<=10000 ^ ((Al b).length-1):=G4 (by omega)
  have h3:((10000 ^ ((Al b).length-1):Nat):Int)<=b:=by exact_mod_cast h1
  rw [Int.natCast_pow] at h3
  rw [Cy,if_pos];exact Int.lt_of_lt_of_le ha (Int.le_trans h2 h3)
 ·split
  ·rename_i h
   have h0:a≠0:=by rintro rfl;rw [At] at h;simp at h
   have h1:=H4 h0
   have h2:(10000:Int) ^ (Al b).length<=10000 ^ ((Al a).length-1):=G4 (by omega)
   have h3:((10000 ^ ((Al a).length-1):Nat):Int)<=a:=by exact_mod_cast h1
   rw [Int.natCast_pow] at h3
   have h4:=Int.lt_of_lt_of_le hb (Int.le_trans h2 h3)
   rw [Cy,if_neg (by omega),if_pos h4]
  ·have he:(Al a).length=(Al b).length:=by omega
   rw [Kv (Bt a) (Bt b),List.take_length,he,List.take_length,Bg,Bg]
theorem Ig:∀ {l:List Int} {j:Nat} {v:Int},j<l.length->Aj (l.set j v)=Aj l+10000 ^ j*(v-l.getD j 0)
 |x::r,0,v,_=>by simp [Aj];omega
 |x::r,j+1,v,h=>by
  have h1:=Ig (l:=r) (j:=j) (v:=v) (by simpa using h)
  simp only [List.set_cons_succ,Aj,h1,List.getD_cons_succ,Int.pow_succ]
  grind
theorem K9 {l:List Int} {i j:Nat} {v:Int} (h:i≠j):(l.set i v).getD j 0=l.getD j 0:=by
 simp only [List.getD_eq_getElem?_getD,List.getElem?_set_ne h]
theorem Ab4 (n:Nat):Aj (List.replicate n 0)=0:=by
 induction n with
 |zero=>rfl
 |succ n ih=>rw [List.replicate_succ,Aj,ih];rfl
end Go.Proofs.YtjagmmmcibdibaaGreatDoor.D4
namespace Go.Proofs.YtjagmmmcibdibaaGreatDoor
open Go.RowKit
theorem Oq {n:Nat} (h:n<10):Lib.decDigits n=[UInt8.ofNat (48+n)]:=by rw [Lib.decDigits,dif_pos h]
theorem Afb {n:Nat} (h:¬ n<10):Lib.decDigits n=Lib.decDigits (n / 10)++[UInt8.ofNat (48+n % 10)]:=by rw [Lib.decDigits,dif_neg h]
set_option maxRecDepth 100000 in
set_option maxHeartbeats 1000000 in
theorem bld_used (b:Nat) (w:World) (h0:w.cell? ⟨b,0,none⟩=some (.pointer (some ⟨b,0,none⟩))) :
  Calls Tryz.prog 123 #[.pointer (some ⟨b,0,none⟩)] w fun e w'=>e = .returned (.tuple #[])/\w'=w:=by
 obtain ⟨j,hj,_⟩:∃ j,Tryz.prog.info? 151=some j/\j.size=2:=Option.map_eq_some_iff.1 (by kernel_rfl)
 go_enter Tryz.func123,Tryz.ntmps123
 go_wp2
 rw [Lib.run_neq_ptr_same w _ Tryz.underlying149 hj]
 go_wp2
 go_end0
 exact ⟨rfl,rfl⟩
set_option maxRecDepth 100000 in
set_option maxHeartbeats 1000000 in
theorem Aew (b:Nat) (w:World) (h0:w.cell? ⟨b,0,none⟩=some (.pointer none)) (hsh:w.shape? b=some (151,2)) (hfz:w.frozen? ⟨b,0,none⟩=false) :
  Calls Tryz.prog 123 #[.pointer (some ⟨b,0,none⟩)] w fun e w'=>e = .returned (.tuple #[])/\w'=w.setCell ⟨b,0,none⟩ (.pointer (some ⟨b,0,none⟩)):=by
 obtain ⟨j,hj,hjs⟩:∃ j,Tryz.prog.info? 151=some j/\j.size=2:=Option.map_eq_some_iff.1 (by kernel_rfl)
 go_enter Tryz.func123,Tryz.ntmps123
 go_wp2
 rw [Lib.run_to_unsafe w ⟨b,0,none⟩ Tryz.underlying149 Tryz.underlying216 hj (by rw [hjs];decide) hsh (Nat.zero_lt_succ 1)]
 simp only [Result.andThen]
 rw [Oper.upon_value]
 go_wp2
 rw [run_callFunc_extern Tryz.func157 (by kernel_rfl) (by kernel_rfl) (by kernel_rfl) (e:=Extern.AbiNoEscape.same) (by kernel_rfl)]
 rw [Lib.run_noEscape]
 simp only [Result.andThen]
 rw [Oper.upon_value]
 go_wp2
 rw [Lib.run_from_unsafe w ⟨b,0,none⟩ Tryz.underlying216 Tryz.underlying149 hj hsh (by kernel_rfl)]
 simp only [Result.andThen]
 rw [Oper.upon_value]
 go_wp2
 go_end0
 exact ⟨rfl,rfl⟩
theorem Un (B b:Nat) (bs:List Value) (w:World) (h:Lib.IsBuilder 151 5 B b bs w) :
  Calls Tryz.prog 123 #[.pointer (some ⟨b,0,none⟩)] w fun e w'=>e = .returned (.tuple #[])/\(Lib.BuilderAt 151 5 B b (.pointer (some ⟨b,0,none⟩)) bs w'/\Below B w w'):=by
 rcases h with h|h
 ·refine (Aew b w h.cell0 h.shape h.frozen0).mono ?_
  rintro e w' ⟨rfl,rfl⟩
  exact ⟨rfl,h.used _,(Below.refl B w).setCell (p:=⟨b,0,none⟩) h.1 _⟩
 ·refine (bld_used b w h.cell0).mono ?_
  rintro e w' ⟨rfl,rfl⟩
  exact ⟨rfl,h,Below.refl B _⟩
set_option maxHeartbeats 2000000 in
set_option maxRecDepth 100000 in
theorem Ga (B b:Nat) (bs:List Value) (s:ByteArray) (w:World) (h:Lib.IsBuilder 151 5 B b bs w) (hlen:bs.length+s.size<=140737488355328) (hBw:B<=w.heap.size) :
  Calls Tryz.prog 92 #[.pointer (some ⟨b,0,none⟩),.string s] w fun e w'=>e = .returned (.tuple #[.int .i64 s.size,.nilIface])/\(Lib.BuilderAt 151 5 B b (.pointer (some ⟨b,0,none⟩)) (bs++Lib.strCells s) w'/\Below B w w'):=by
 obtain ⟨i0,hi,hz0,hz1,hz2⟩:=info_parts (P:=Tryz.prog) (e:=5) (size:=1) (bytes:=1) (z := .int .u8 0) (by kernel_rfl)
 go_enter Tryz.func92,Tryz.ntmps92
 go_wp2_with (go_at_call 123;refine (Un B b bs _ h).mono ?_)
 rintro e w1 ⟨rfl,h1,hb1⟩
 obtain ⟨hB,v,hbk,hown,hne⟩:=h1
 have c0:w1.cell? ⟨b,0,none⟩=some (.pointer (some ⟨b,0,none⟩)):=by rw [Lib.cell_of_heap hbk];rfl
 have c1:w1.cell? ⟨b,1,none⟩=some v:=by rw [Lib.cell_of_heap hbk];rfl
 go_wp2_with (at_builtin;refine Lib.wpList_append_own_string _ rfl _ _ 25 9 rfl B 5 i0 Tryz.underlying25 Tryz.underlying9 hi hz0 hz1 hz2 _ _ _ rfl hown s rfl ?c3 ?c4 ?c5 ?_)
 case c3=>unfold maxLen;omega
 case c4=>omega
 case c5=>have:=hb1.size;omega
 intro v' w2 hown' hgrow _
 have hlt:b<w1.heap.size:=by
  rcases Nat.lt_or_ge b w1.heap.size with h'|h'
  ·exact h'
  ·simp [Array.getElem?_eq_none h'] at hbk
 have hb2:w2.heap[b]? = some (.cells #[.pointer (some ⟨b,0,none⟩),v] 151 (0,0)):=by
  rw [hgrow.block b hlt (fun e=>hne e.symm)]
  exact hbk
 have d0:w2.cell? ⟨b,0,none⟩=some (.pointer (some ⟨b,0,none⟩)):=by rw [Lib.cell_of_heap hb2];rfl
 have d1:w2.cell? ⟨b,1,none⟩=some v:=by rw [Lib.cell_of_heap hb2];rfl
 have f1:w2.frozen? ⟨b,1,none⟩=false:=Lib.frozen_of_heap hb2 1
 obtain ⟨ao,n',cap,rfl⟩:∃ ao n' cap,v' = .slice ao n' cap:=by
  rcases hown'.2 with ⟨hv,_⟩|⟨g,cap,cur,hv,_⟩
  ·exact ⟨_,_,_,hv⟩
  ·exact ⟨_,_,_,hv⟩
 go_wp2
 go_ret2
 refine ⟨rfl,?_,?_⟩
 ·exact Lib.BuilderAt.put (T:=151) (e:=5) hB hb2 (bs':=bs++Lib.strCells s) (by simpa [Lib.strCells_length] using hown') (by decide)
 ·exact (hb1.grown hgrow (by have:=hb1.size;omega) (fun k hk=>(hown.lt k hk).1)).setCell (p:=⟨b,1,none⟩) hB _
set_option maxHeartbeats 2000000 in
set_option maxRecDepth 100000 in
theorem bld_byte (B b:Nat) (bs:List Value) (c:Int) (w:World) (h:Lib.IsBuilder 151 5 B b bs w) (hlen:bs.length+1<=140737488355328) (hBw:B<=w.heap.size) :
  Calls Tryz.prog 90 #[.pointer (some ⟨b,0,none⟩),.int .u8 c] w fun e w'=>e = .returned .nilIface/\(Lib.BuilderAt 151 5 B b (.pointer (some ⟨b,0,none⟩)) (bs++[.int .u8 c]) w'/\Below B w w'):=by
 obtain ⟨i0,hi,hz0,hz1,hz2⟩:=info_parts (P:=Tryz.prog) (e:=5) (size:=1) (bytes:=1) (z := .int .u8 0) (by kernel_rfl)
 go_enter Tryz.func90,Tryz.ntmps90
 go_wp2_with (go_at_call 123;refine (Un B b bs _ h).mono ?_)
 rintro e w1 ⟨rfl,h1,hb1⟩
 obtain ⟨hB,v,hbk,hown,hne⟩:=h1
 have c0:w1.cell? ⟨b,0,none⟩=some (.pointer (some ⟨b,0,none⟩)):=by rw [Lib.cell_of_heap hbk];rfl
 have c1:w1.cell? ⟨b,1,none⟩=some v:=by rw [Lib.cell_of_heap hbk];rfl
 go_wp2_with (at_builtin;refine wpList_append_own _ rfl _ _ 25 rfl B 5 i0 (.int .u8 0) 1 1 Tryz.underlying25 hi hz0 hz1 hz2 rfl (by decide) _ _ _ rfl (hown.alloc _) ⟨w1.heap.size,0,none⟩ 1 1 [.int .u8 c] rfl rfl ?c1 ?c2 ?c3 ?c4 ?c5 ?_)
 case c1 =>
  intro j u hj
  match j,hj with
  |0,hj=>simp at hj;subst hj;simp [Addr.add]
 case c2=>intro u hu;simp at hu;subst hu;rfl
 case c3=>unfold maxLen;omega
 case c4=>omega
 case c5=>have:=hb1.size;simp;omega
 intro v' w2 hown' hgrow _
 have hlt:b<w1.heap.size:=by
  rcases Nat.lt_or_ge b w1.heap.size with h'|h'
  ·exact h'
  ·simp [Array.getElem?_eq_none h'] at hbk
 have hb2:w2.heap[b]? = some (.cells #[.pointer (some ⟨b,0,none⟩),v] 151 (0,0)):=by
  rw [hgrow.block b (by simp;omega) (fun e=>hne e.symm),Lib.alloc_old w1 _ b hlt]
  exact hbk
 have d0:w2.cell? ⟨b,0,none⟩=some (.pointer (some ⟨b,0,none⟩)):=by rw [Lib.cell_of_heap hb2];rfl
 have d1:w2.cell? ⟨b,1,none⟩=some v:=by rw [Lib.cell_of_heap hb2];rfl
 have f1:w2.frozen? ⟨b,1,none⟩=false:=Lib.frozen_of_heap hb2 1
 obtain ⟨g,cap,rfl⟩:∃ g cap,v' = .slice (some ⟨g,0,none⟩) (bs.length+1) cap:=by
  rcases hown'.2 with ⟨_,h0⟩|⟨g,cap,cur,hv,_⟩
  ·omega
  ·exact ⟨g,cap,hv⟩
 go_wp2
 go_ret
 refine ⟨rfl,?_,?_⟩
 ·exact Lib.BuilderAt.put (T:=151) (e:=5) hB hb2 (bs':=bs++[.int .u8 c]) (by simpa using hown') (by decide)
 ·exact ((hb1.alloc (by have:=hb1.size;omega) _).grown hgrow (by have:=hb1.size;simp;omega) (fun k hk=>(hown.lt k hk).1)).setCell (p:=⟨b,1,none⟩) hB _
attribute [local go_sem] Oper.semAt_some
def J8:List Int->List UInt8
 |[]=>[]
 |[x]=>Lib.itoa x
 |x::y::r=>J8 (y::r)++((List.replicate 9 48).drop (Lib.itoa x).length++Lib.itoa x)
def Py (neg:Bool) (l:List Int):List UInt8:=if l=[] then [48] else (if neg then [45] else [])++J8 l
theorem Agn:∀ (k u:Nat),u<10 ^ (k+1)->Lib.nDigits u<=k+1
 |0,u,h=>by rw [Lib.nDigits_small (by omega)];exact Nat.le_refl _
 |k+1,u,h=>by
  rw [Lib.nDigits]
  split
  ·omega
  ·have:=Agn k (u / 10) (by rw [Nat.pow_succ] at h;omega)
   omega
theorem Nv {x:Int} (h:Af x):(Lib.itoa x).length<=9:=by
 obtain ⟨n,rfl⟩:=Int.eq_ofNat_of_zero_le h.1
 rw [show ((n:Nat):Int)=Int.ofNat n from rfl] at *
 rw [show Int.ofNat n=(n:Int) from rfl,Lib.itoa_nonneg,Lib.decDigits_length]
 have h2:=h.2
 exact Agn 8 n (by rw [show Int.ofNat n=(n:Int) from rfl] at h2;omega)
theorem Lx:∀ {l:List Int},(∀ x∈l,Af x)->(J8 l).length<=9*l.length
 |[],_=>by simp [J8]
 |[x],h=>by have:=Nv (h x List.mem_cons_self);simpa [J8] using this
 |x::y::r,h=>by
  have h1:=Lx (l:=y::r) fun z hz=>h z (List.mem_cons_of_mem _ hz)
  have h2:=Nv (h x List.mem_cons_self)
  simp only [J8,List.length_append,List.length_drop,List.length_replicate,List.length_cons] at h1 |-
  omega
theorem lims_of {G:Nat->Nat->Prop} {w:World} {sl:Value} {l:List Int} (h:Cj G w (.sl 1 (l.map B9)) sl):∃ p cap,sl = .slice p l.length cap/\l.length<=cap/\cap<=9223372036854775807 /\
  ∀ (j:Nat),j<l.length->∃ b o,p=some ⟨b,o,none⟩/\w.cell? ⟨b,o+j,none⟩=some (.int .u32 (l.getD j 0)):=by
 simp only [Cj] at h
 obtain ⟨p,cap,rfl,h1,h2,h3⟩:=h
 simp only [List.length_map] at h1 h3
 refine ⟨p,cap,by simp,h1,h2,fun j hlt=>?_⟩
 obtain ⟨b,o,rfl,h4,h5⟩:=h3 (by intro e;simp at e;subst e;simp at hlt)
 have h6:=Ln (j:=j) (e:=B9 l[j]) h5 (by simp [hlt])
 simp only [Ap] at h6
 obtain ⟨⟨u0,c0,r0⟩,_⟩:=h6
 simp only [Cj] at r0
 rw [r0.1,Nat.mul_one] at c0
 refine ⟨b,o,rfl,?_⟩
 rw [c0,List.getD_eq_getElem?_getD,List.getElem?_eq_getElem hlt];rfl
theorem Um {T e:TypeId} {B b:Nat} {bs:List Value} {w w':World} (h:Lib.IsBuilder T e B b bs w) (hb:Below w.heap.size w w'):Lib.IsBuilder T e B b bs w':=by
 have key:∀ p,Lib.BuilderAt T e B b p bs w->Lib.BuilderAt T e B b p bs w':=by
  rintro p ⟨h1,v,h2,h3,h4⟩
  refine ⟨h1,v,(hb.block _ (Array.getElem?_eq_some_iff.1 h2).1).trans h2,h3.kept (row:=none) ⟨hb.os,hb.tape,hb.output,hb.size,fun k hk _=>hb.block k hk⟩ ?_,h4⟩
  cases hv:v.ownBlock with
  |none=>exact .inl rfl
  |some k=>exact .inr (by simp)
 rcases h with h|h
 ·exact .inl (key _ h)
 ·exact .inr (key _ h)
theorem Pz {x:Int} {r:List Int} (h:r≠[]):J8 (x::r)=J8 r++((List.replicate 9 48).drop (Lib.itoa x).length++Lib.itoa x):=by
 cases r with
 |nil=>exact absurd rfl h
 |cons y r=>rfl
theorem zext (n:Nat) (h:n<=9):(ByteArray.extract ⟨#[48,48,48,48,48,48,48,48,48]⟩ n 9).data.toList=(List.replicate 9 48).drop n:=by
 have key:∀ n:Fin 10,(ByteArray.extract ⟨#[48,48,48,48,48,48,48,48,48]⟩ n.val 9).data.toList=(List.replicate 9 48).drop n.val:=by decide +kernel
 exact key ⟨n,by omega⟩
theorem zsize (n:Nat):ByteArray.size (ByteArray.extract ⟨#[48,48,48,48,48,48,48,48,48]⟩ n 9)<=9:=by
 rw [ByteArray.size_extract];simp [ByteArray.size]
set_option maxRecDepth 100000 in
set_option maxHeartbeats 4000000 in
theorem text_any (neg:Bool) (l:List Int) (K:Kx) (w:World) (hf:Inv K ⟨[],[]⟩ w) (hl:l.length<=1000000) (hok:∀ x∈l,Af x) (p:Option Addr) (cap:Nat) (hcap:l.length<=cap) (hmax:cap<=9223372036854775807)
  (hel:∀ (j:Nat),j<l.length->∃ b o,p=some ⟨b,o,none⟩/\w.cell? ⟨b,o+j,none⟩=some (.int .u32 (l.getD j 0))) :
  Calls Tryz.prog 64 #[.agg #[.bool neg,.slice p l.length cap]] w fun e w'=>e = .returned (.string ⟨(Py neg l).toArray⟩)/\Below w.heap.size w w':=by
 go_enter Tryz.func64,Tryz.ntmps64
 by_cases h0:l.length=0
 ·go_wp2
  go_ret
  have hl0:l=[]:=List.length_eq_zero_iff.1 h0
  subst hl0
  exact ⟨rfl,(Below.refl _ _).alloc (Nat.le_refl _) _⟩
 ·have h0':¬ ((l.length:Int)=0):=by omega
  have h0b:((l.length:Int)==0)=false:=by simpa using h0'
  have hw1:IntKind.i64.wrap ((l.length:Int)-1)=(l.length:Int)-1:=by rw [IntKind.wrap_i64];omega
  have hne:l≠[]:=fun e=>h0 (by rw [e];rfl)
  have HF:=Lib.hid hf
  have HOK:=Lib.hid hok
  have HEL:=Lib.hid hel
  clear hf hok hel
  obtain ⟨W1,hW1⟩:∃ W1,w.alloc (.cells #[.bool neg,.slice p l.length cap] 75)=W1:=⟨_,rfl⟩
  have hs1:W1.heap.size=w.heap.size+1:=by rw [<- hW1];simp
  have hb1:Below w.heap.size w W1:=by rw [<- hW1];exact (Below.refl _ _).alloc (Nat.le_refl _) _
  have hcl1:∀ j u,[Value.bool neg,.slice p l.length cap][j]? = some u->W1.cell? ((⟨w.heap.size,0,none⟩:Addr).add j)=some u:=by rw [<- hW1];exact Us _ _ _
  have c0:W1.cell? ⟨w.heap.size,0,none⟩=some (.bool neg):=by simpa [Addr.add] using hcl1 0 _ rfl
  have c1:W1.cell? ⟨w.heap.size,1,none⟩=some (.slice p l.length cap):=by simpa [Addr.add] using hcl1 1 _ rfl
  clear hcl1
  have HW1:=Lib.hid hb1
  have hfr:Lib.IsBuilder 151 5 (w.heap.size+1) (w.heap.size+1) (Lib.byteCells []) (W1.alloc (.cells #[.pointer none,.slice none 0 0] 151)):=by
   have:=Lib.fresh_isBuilder 151 5 W1
   rw [hs1] at this;exact this
  have hb2:Below (w.heap.size+1) W1 (W1.alloc (.cells #[.pointer none,.slice none 0 0] 151)):=by
   have:=(Below.refl W1.heap.size W1).alloc (Nat.le_refl _) (.cells #[.pointer none,.slice none 0 0] 151)
   rw [hs1] at this;exact this
  obtain ⟨W2,hW2⟩:∃ W2,W1.alloc (.cells #[.pointer none,.slice none 0 0] 151)=W2:=⟨_,rfl⟩
  have hs2:W2.heap.size=w.heap.size+2:=by rw [<- hW2];simp [hs1]
  rw [hW2] at hfr hb2
  have HFR:=Lib.hid hfr
  have HB2:=Lib.hid hb2
  have d0:=(A0 (i:=0) (hb2.block w.heap.size (by omega))).trans c0
  have d1:=(A0 (i:=1) (hb2.block w.heap.size (by omega))).trans c1
  clear hfr hb2 hb1
  have HTAB:Hid (∀ wr,Below w.heap.size w wr->Lib.TabIs Tryz.prog wr "internal/strconv.uint64pow10" .u64 Lib.pow10Tab):=Lib.hid fun wr hb=>tab_of (by kernel_rfl) (HF.out.below hb).1.fz
  obtain ⟨neg0,hneg⟩:∃ neg0,neg=neg0:=⟨_,rfl⟩
  rw [show Py neg l=Py neg0 l from by rw [hneg]]
  have HNEG:=Lib.hid hneg
  clear hneg
  cases neg with
  |true =>
   go_wp2_with fail
   refine (bld_byte (w.heap.size+1) (w.heap.size+1) [] 45 _ HFR.out (by simp) (by rw [hs2];omega)).mono ?_
   rintro e W3 ⟨rfl,h3,hb3⟩
   have hfr:Lib.IsBuilder 151 5 (w.heap.size+1) (w.heap.size+1) (Lib.byteCells [45]) W3 := .inr h3
   have hb4:=HB2.out.trans (hb3.mono (Nat.le_refl _))
   have d2:=(A0 (i:=1) (hb4.block w.heap.size (by omega))).trans c1
   have hs3:w.heap.size+2<=W3.heap.size:=h3.lt
   clear HFR HB2 d0 d1
   have HFR:=Lib.hid hfr
   have HB2:=Lib.hid hb4
   clear hfr hb4 h3 hb3
   go_wp2_with fail
   go_loopw [4] (fun i wr=>∃ j:Nat,j<=l.length/\i = .int .i64 ((j:Int)-1)/\Lib.IsBuilder 151 5 (w.heap.size+1) (w.heap.size+1) (Lib.byteCells ([45]++J8 (l.drop j))) wr/\Below (w.heap.size+1) W1 wr) (fun i _=>(intOf i+1).toNat)
   case atStart=>exact ⟨l.length,Nat.le_refl _,rfl,by rw [List.drop_length,J8,List.append_nil];exact HFR.out,HB2.out⟩
   case round =>
    obtain ⟨j,hj,rfl,hbl,hbr⟩:=hrel
    have HBL:=Lib.hid hbl
    have HBR:=Lib.hid hbr
    have e1:=(A0 (i:=1) (hbr.block w.heap.size (by omega))).trans c1
    have hsr:w.heap.size+2<=wr.heap.size:=by
     rcases hbl with h|h<;>exact h.lt
    have htab:Lib.TabIs Tryz.prog wr "internal/strconv.uint64pow10" .u64 Lib.pow10Tab:=HTAB.out wr ((HW1.out).trans (hbr.mono (Nat.le_succ _)))
    have HT:=Lib.hid htab
    clear hbl hbr htab
    by_cases hlt:0<j
    ·obtain ⟨j,rfl⟩:∃ i,j=i+1:=⟨j-1,by omega⟩
     have hj1:((j+1:Nat):Int)-1=(j:Int):=by omega
     rw [hj1]
     obtain ⟨b,o,rfl,c2⟩:=HEL.out j (by omega)
     have hbw:=G0 c2
     have e2:=(A0 (i:=o+j) (HBR.out.block b (by omega))).trans ((A0 (i:=o+j) (HW1.out.block b hbw)).trans c2)
     have hx:Af (l.getD j 0):=H5 HOK.out (by omega)
     have HX:=Lib.hid (Nv hx)
     have HD:=Lib.hid (List.drop_eq_getElem_cons (show j<l.length by omega))
     have HG:Hid (l[j]'(by omega)=l.getD j 0):=Lib.hid (by rw [List.getD_eq_getElem?_getD,List.getElem?_eq_getElem (by omega)];rfl)
     obtain ⟨x,hxx⟩:∃ x,l.getD j 0=x:=⟨_,rfl⟩
     rw [hxx] at e2 hx HX HG
     have hz:=G0 e2
     have hw2:IntKind.i64.wrap ((j:Int)-1)=(j:Int)-1:=by rw [IntKind.wrap_i64];omega
     have hwx:IntKind.i64.wrap x=x:=by rw [IntKind.wrap_i64];have:=hx.1;have:=hx.2;omega
     clear c2
     go_wp2_with fail
     refine (Tryz.strconv_Itoa x (by have:=hx.1;omega) (by have:=hx.2;omega) wr HT.out).mono ?_
     rintro e w5 ⟨rfl,k5,os5,hw5⟩
     have hb5:Below wr.heap.size wr w5:=by rw [hw5];exact ⟨rfl,rfl,rfl,by show wr.heap.size<=(wr.heap++os5).size;rw [Array.size_append];omega,fun q hq=>by show (wr.heap++os5)[q]? = _;rw [Array.getElem?_append_left hq]⟩
     obtain ⟨ds,hds⟩:∃ ds,Lib.itoa x=ds:=⟨_,rfl⟩
     rw [hds] at HX |-
     obtain ⟨S,hS⟩:∃ S,(⟨ds.toArray⟩:ByteArray)=S:=⟨_,rfl⟩
     have hSs:S.size=ds.length:=by rw [<- hS];simp [ByteArray.size]
     have hSc:S.data.toList=ds:=by rw [<- hS]
     have HBL5:=Lib.hid (Um HBL.out hb5)
     have HBR5:=Lib.hid (HBR.out.trans (hb5.mono (by omega)))
     have hs5:w.heap.size+2<=w5.heap.size:=Nat.le_trans hsr hb5.size
     have f1:=(A0 (i:=1) (HBR5.out.block w.heap.size (by omega))).trans c1
     have HSC:=Lib.hid hSc
     have HDS:=Lib.hid hds
     rw [hS]
     have hX9:=HX.out
     rw [<- hSs] at hX9
     clear e2 e1 hw5 hb5 HBL HBR HT hS hSc hds
     by_cases hl2:j+1<l.length
     ·have hl3:(j:Int)<(l.length:Int)-1:=by omega
      have HE:Hid (Lib.byteCells ([45]++J8 (l.drop (j+1)))++Lib.strCells (ByteArray.extract ⟨#[48,48,48,48,48,48,48,48,48]⟩ ds.length 9)++Lib.strCells S=Lib.byteCells ([45]++J8 (l.drop j))):=Lib.hid (by
       rw [HD.out,HG.out,Pz (by intro e;have:=congrArg List.length e;simp at this;omega),Lib.strCells_eq,Lib.strCells_eq,HSC.out,zext _ (by rw [<- hSs];exact hX9),HDS.out,<- Lib.byteCells_append,<- Lib.byteCells_append]
       simp only [List.append_assoc])
      have HL:Hid ((Lib.byteCells ([45]++J8 (l.drop (j+1)))).length<=9000001):=Lib.hid (by
       have:=Lx (l:=l.drop (j+1)) fun z hz=>HOK.out z (List.mem_of_mem_drop hz)
       rw [List.length_drop] at this
       simp [Lib.byteCells_length];omega)
      have HZ:Hid (ByteArray.size (ByteArray.extract ⟨#[48,48,48,48,48,48,48,48,48]⟩ ds.length 9)<=9):=Lib.hid (zsize _)
      go_wp2_with fail
      refine (Ga (w.heap.size+1) (w.heap.size+1) _ _ w5 HBL5.out (by have:=HL.out;have:=HZ.out;omega) (by omega)).mono ?_
      rintro e w6 ⟨rfl,h6,hb6⟩
      have hs6:w.heap.size+2<=w6.heap.size:=h6.lt
      have H6:=Lib.hid h6
      have HBR6:=Lib.hid (HBR5.out.trans hb6)
      clear h6 hb6
      go_wp2_with fail
      refine (Ga (w.heap.size+1) (w.heap.size+1) _ S w6 (.inr H6.out) (by have:=HL.out;have:=HZ.out;rw [List.length_append,Lib.strCells_length];omega) (by omega)).mono ?_
      rintro e w7 ⟨rfl,h7,hb7⟩
      have H7:=Lib.hid h7
      have HBR7:=Lib.hid (HBR6.out.trans hb7)
      clear h7 hb7
      go_wp2
      go_round
      case rel =>
       exact ⟨j,by omega,by go_num,by rw [<- HE.out];exact .inr H7.out,HBR7.out⟩
      case measure=>simp [intOf]
     ·have hl3:¬ (j:Int)<(l.length:Int)-1:=by omega
      have HE:Hid (Lib.byteCells ([45]++J8 (l.drop (j+1)))++Lib.strCells S=Lib.byteCells ([45]++J8 (l.drop j))):=Lib.hid (by
       rw [HD.out,HG.out,List.drop_of_length_le (show l.length<=j+1 by omega),Lib.strCells_eq,HSC.out,<- Lib.byteCells_append,J8,J8,HDS.out]
       simp only [List.append_nil])
      have HL:Hid ((Lib.byteCells ([45]++J8 (l.drop (j+1)))).length<=9000001):=Lib.hid (by
       have:=Lx (l:=l.drop (j+1)) fun z hz=>HOK.out z (List.mem_of_mem_drop hz)
       rw [List.length_drop] at this
       simp [Lib.byteCells_length];omega)
      go_wp2_with fail
      refine (Ga (w.heap.size+1) (w.heap.size+1) _ S w5 HBL5.out (by have:=HL.out;omega) (by omega)).mono ?_
      rintro e w7 ⟨rfl,h7,hb7⟩
      have H7:=Lib.hid h7
      have HBR7:=Lib.hid (HBR5.out.trans hb7)
      clear h7 hb7
      go_wp2
      go_round
      case rel=>exact ⟨j,by omega,by go_num,by rw [<- HE.out];exact .inr H7.out,HBR7.out⟩
      case measure=>simp [intOf]
    ·obtain rfl:j=0:=by omega
     go_wp2_with fail
     refine (Tryz.Builder_String_any (w.heap.size+1) (w.heap.size+1) _ wr HBL.out (by omega)).mono ?_
     rintro e w7 ⟨rfl,hb7⟩
     have HB7:=Lib.hid hb7
     clear hb7
     go_wp2
     go_ret
     refine ⟨?_,HW1.out.trans ((HBR.out.trans HB7.out).mono (Nat.le_succ _))⟩
     have e:Py neg0 l=[45]++J8 (l.drop 0):=by rw [<- HNEG.out];unfold Py;rw [if_neg hne];rfl
     rw [e]
     rfl
  |false =>
   go_wp2_with fail
   go_loopw [4] (fun i wr=>∃ j:Nat,j<=l.length/\i = .int .i64 ((j:Int)-1)/\Lib.IsBuilder 151 5 (w.heap.size+1) (w.heap.size+1) (Lib.byteCells ([]++J8 (l.drop j))) wr/\Below (w.heap.size+1) W1 wr) (fun i _=>(intOf i+1).toNat)
   case atStart=>exact ⟨l.length,Nat.le_refl _,rfl,by rw [List.drop_length,J8,List.append_nil];exact HFR.out,HB2.out⟩
   case round =>
    obtain ⟨j,hj,rfl,hbl,hbr⟩:=hrel
    have HBL:=Lib.hid hbl
    have HBR:=Lib.hid hbr
    have e1:=(A0 (i:=1) (hbr.block w.heap.size (by omega))).trans c1
    have hsr:w.heap.size+2<=wr.heap.size:=by
     rcases hbl with h|h<;>exact h.lt
    have htab:Lib.TabIs Tryz.prog wr "internal/strconv.uint64pow10" .u64 Lib.pow10Tab:=HTAB.out wr ((HW1.out).trans (hbr.mono (Nat.le_succ _)))
    have HT:=Lib.hid htab
    clear hbl hbr htab
    by_cases hlt:0<j
    ·obtain ⟨j,rfl⟩:∃ i,j=i+1:=⟨j-1,by omega⟩
     have hj1:((j+1:Nat):Int)-1=(j:Int):=by omega
     rw [hj1]
     obtain ⟨b,o,rfl,c2⟩:=HEL.out j (by omega)
     have hbw:=G0 c2
     have e2:=(A0 (i:=o+j) (HBR.out.block b (by omega))).trans ((A0 (i:=o+j) (HW1.out.block b hbw)).trans c2)
     have hx:Af (l.getD j 0):=H5 HOK.out (by omega)
     have HX:=Lib.hid (Nv hx)
     have HD:=Lib.hid (List.drop_eq_getElem_cons (show j<l.length by omega))
     have HG:Hid (l[j]'(by omega)=l.getD j 0):=Lib.hid (by rw [List.getD_eq_getElem?_getD,List.getElem?_eq_getElem (by omega)];rfl)
     obtain ⟨x,hxx⟩:∃ x,l.getD j 0=x:=⟨_,rfl⟩
     rw [hxx] at e2 hx HX HG
     have hz:=G0 e2
     have hw2:IntKind.i64.wrap ((j:Int)-1)=(j:Int)-1:=by rw [IntKind.wrap_i64];omega
     have hwx:IntKind.i64.wrap x=x:=by rw [IntKind.wrap_i64];have:=hx.1;have:=hx.2;omega
     clear c2
     go_wp2_with fail
     refine (Tryz.strconv_Itoa x (by have:=hx.1;omega) (by have:=hx.2;omega) wr HT.out).mono ?_
     rintro e w5 ⟨rfl,k5,os5,hw5⟩
     have hb5:Below wr.heap.size wr w5:=by rw [hw5];exact ⟨rfl,rfl,rfl,by show wr.heap.size<=(wr.heap++os5).size;rw [Array.size_append];omega,fun q hq=>by show (wr.heap++os5)[q]? = _;rw [Array.getElem?_append_left hq]⟩
     obtain ⟨ds,hds⟩:∃ ds,Lib.itoa x=ds:=⟨_,rfl⟩
     rw [hds] at HX |-
     obtain ⟨S,hS⟩:∃ S,(⟨ds.toArray⟩:ByteArray)=S:=⟨_,rfl⟩
     have hSs:S.size=ds.length:=by rw [<- hS];simp [ByteArray.size]
     have hSc:S.data.toList=ds:=by rw [<- hS]
     have HBL5:=Lib.hid (Um HBL.out hb5)
     have HBR5:=Lib.hid (HBR.out.trans (hb5.mono (by omega)))
     have hs5:w.heap.size+2<=w5.heap.size:=Nat.le_trans hsr hb5.size
     have f1:=(A0 (i:=1) (HBR5.out.block w.heap.size (by omega))).trans c1
     have HSC:=Lib.hid hSc
     have HDS:=Lib.hid hds
     rw [hS]
     have hX9:=HX.out
     rw [<- hSs] at hX9
     clear e2 e1 hw5 hb5 HBL HBR HT hS hSc hds
     by_cases hl2:j+1<l.length
     ·have hl3:(j:Int)<(l.length:Int)-1:=by omega
      have HE:Hid (Lib.byteCells ([]++J8 (l.drop (j+1)))++Lib.strCells (ByteArray.extract ⟨#[48,48,48,48,48,48,48,48,48]⟩ ds.length 9)++Lib.strCells S=Lib.byteCells ([]++J8 (l.drop j))):=Lib.hid (by
       rw [HD.out,HG.out,Pz (by intro e;have:=congrArg List.length e;simp at this;omega),Lib.strCells_eq,Lib.strCells_eq,HSC.out,zext _ (by rw [<- hSs];exact hX9),HDS.out,<- Lib.byteCells_append,<- Lib.byteCells_append]
       simp only [List.append_assoc])
      have HL:Hid ((Lib.byteCells ([]++J8 (l.drop (j+1)))).length<=9000001):=Lib.hid (by
       have:=Lx (l:=l.drop (j+1)) fun z hz=>HOK.out z (List.mem_of_mem_drop hz)
       rw [List.length_drop] at this
       simp [Lib.byteCells_length];omega)
      have HZ:Hid (ByteArray.size (ByteArray.extract ⟨#[48,48,48,48,48,48,48,48,48]⟩ ds.length 9)<=9):=Lib.hid (zsize _)
      go_wp2_with fail
      refine (Ga (w.heap.size+1) (w.heap.size+1) _ _ w5 HBL5.out (by have:=HL.out;have:=HZ.out;omega) (by omega)).mono ?_
      rintro e w6 ⟨rfl,h6,hb6⟩
      have hs6:w.heap.size+2<=w6.heap.size:=h6.lt
      have H6:=Lib.hid h6
      have HBR6:=Lib.hid (HBR5.out.trans hb6)
      clear h6 hb6
      go_wp2_with fail
      refine (Ga (w.heap.size+1) (w.heap.size+1) _ S w6 (.inr H6.out) (by have:=HL.out;have:=HZ.out;rw [List.length_append,Lib.strCells_length];omega) (by omega)).mono ?_
      rintro e w7 ⟨rfl,h7,hb7⟩
      have H7:=Lib.hid h7
      have HBR7:=Lib.hid (HBR6.out.trans hb7)
      clear h7 hb7
      go_wp2
      go_round
      case rel =>
       exact ⟨j,by omega,by go_num,by rw [<- HE.out];exact .inr H7.out,HBR7.out⟩
      case measure=>simp [intOf]
     ·have hl3:¬ (j:Int)<(l.length:Int)-1:=by omega
      have HE:Hid (Lib.byteCells ([]++J8 (l.drop (j+1)))++Lib.strCells S=Lib.byteCells ([]++J8 (l.drop j))):=Lib.hid (by
       rw [HD.out,HG.out,List.drop_of_length_le (show l.length<=j+1 by omega),Lib.strCells_eq,HSC.out,<- Lib.byteCells_append,J8,J8,HDS.out]
       simp only [List.append_nil])
      have HL:Hid ((Lib.byteCells ([]++J8 (l.drop (j+1)))).length<=9000001):=Lib.hid (by
       have:=Lx (l:=l.drop (j+1)) fun z hz=>HOK.out z (List.mem_of_mem_drop hz)
       rw [List.length_drop] at this
       simp [Lib.byteCells_length];omega)
      go_wp2_with fail
      refine (Ga (w.heap.size+1) (w.heap.size+1) _ S w5 HBL5.out (by have:=HL.out;omega) (by omega)).mono ?_
      rintro e w7 ⟨rfl,h7,hb7⟩
      have H7:=Lib.hid h7
      have HBR7:=Lib.hid (HBR5.out.trans hb7)
      clear h7 hb7
      go_wp2
      go_round
      case rel=>exact ⟨j,by omega,by go_num,by rw [<- HE.out];exact .inr H7.out,HBR7.out⟩
      case measure=>simp [intOf]
    ·obtain rfl:j=0:=by omega
     go_wp2_with fail
     refine (Tryz.Builder_String_any (w.heap.size+1) (w.heap.size+1) _ wr HBL.out (by omega)).mono ?_
     rintro e w7 ⟨rfl,hb7⟩
     have HB7:=Lib.hid hb7
     clear hb7
     go_wp2
     go_ret
     refine ⟨?_,HW1.out.trans ((HBR.out.trans HB7.out).mono (Nat.le_succ _))⟩
     have e:Py neg0 l=[]++J8 (l.drop 0):=by rw [<- HNEG.out];unfold Py;rw [if_neg hne];rfl
     rw [e]
     rfl
theorem Acd (neg:Bool) (l:List Int) (hl:l.length<=1000000) (hok:∀ x∈l,Af x):Aq 64 [whP neg l] ⟨[],[]⟩ (.ret (Ez ⟨(Py neg l).toArray⟩)) ⟨[],[]⟩:=by
 refine ⟨enters_of Tryz.func64 rfl rfl,fun K w vs hI hA=>?_⟩
 simp only [Am,Rep] at hA
 obtain ⟨u,us,rfl,⟨cs,rfl,u0,us0,rfl,r0,u1,us1,rfl,r1,rfl⟩,rfl⟩:=hA
 simp only [Cj] at r0
 obtain ⟨rfl,_⟩:=r0
 obtain ⟨p,cap,rfl,hcap,hmax,hel⟩:=lims_of r1
 refine (text_any neg l K w hI hl hok p cap hcap hmax hel).mono ?_
 rintro e w' ⟨rfl,hb⟩
 obtain ⟨h1,h2⟩:=hI.below hb
 exact ⟨K,h2,h1,_,rfl,by simp only [Rep,Cj];exact ⟨trivial,rfl⟩⟩
def digK:Nat->Nat->List UInt8
 |0,_=>[]
 |k+1,x=>digK k (x / 10)++[UInt8.ofNat (48+x % 10)]
theorem U5:∀ k,digK k 0=List.replicate k 48
 |0=>rfl
 |k+1=>by rw [digK,U5 k,List.replicate_succ'];rfl
theorem Z3:∀ (k x:Nat),x<10 ^ (k+1)->digK (k+1) x=(List.replicate (k+1) 48).drop (Lib.decDigits x).length++Lib.decDigits x
 |0,x,h=>by
  have h':x<10:=by simpa using h
  rw [Oq h',digK,digK,show x % 10=x by omega];rfl
 |k+1,x,h=>by
  rw [digK]
  by_cases h1:x<10
  ·rw [show x / 10=0 by omega,U5,Oq h1,show x % 10=x by omega]
   simp
  ·rw [Z3 k (x / 10) (by rw [Nat.pow_succ] at h;omega),Afb h1]
   simp only [List.length_append,List.length_cons,List.length_nil,List.drop_replicate,List.append_assoc]
   congr 2
   omega
theorem Afc:∀ (k n:Nat),10 ^ k<=n->Lib.decDigits n=Lib.decDigits (n / 10 ^ k)++digK k (n % 10 ^ k)
 |0,n,_=>by simp [digK]
 |k+1,n,h=>by
  have hp:0<10 ^ k:=Nat.pow_pos (by decide)
  have e:10 ^ (k+1)=10*10 ^ k:=by rw [Nat.pow_succ,Nat.mul_comm]
  have h1:¬ n<10:=by omega
  have h2:10 ^ k<=n / 10:=by rw [Nat.le_div_iff_mul_le (by decide)];omega
  rw [Afb h1,Afc k (n / 10) h2,digK,e,<- Nat.div_div_eq_div_mul,List.append_assoc]
  congr 2
  ·congr 1
   rw [Nat.mod_mul,Nat.add_mul_div_left _ _ (by decide),Nat.div_eq_of_lt (Nat.mod_lt _ (by decide)),Nat.zero_add]
  ·rw [Nat.mod_mul]
   congr 3
   omega
theorem txt_dec (n:Nat) (h0:n≠0):J8 (Al n)=Lib.decDigits n:=by
 induction n using Nat.strongRecOn with
 |ind n ih =>
  have hx:Af ((n % 1000000000:Nat):Int):=⟨by omega,by omega⟩
  rw [Ca h0]
  by_cases h:n<1000000000
  ·rw [show n / 1000000000=0 by omega,At,show n % 1000000000=n by omega]
   rw [J8,Nw]
  ·have hne:Al (n / 1000000000)≠[]:=by rw [Ne,Db];omega
   rw [Pz hne,ih _ (by omega) (by omega),Afc 9 n (by omega),Nw]
   congr 1
   exact (Z3 8 _ (by omega)).symm
theorem text_dec (n:Int):Py (decide (n<0)) (Al n.natAbs)=Lib.itoa n:=by
 unfold Py
 by_cases h:n=0
 ·subst h;rw [if_pos (by rw [Int.natAbs_zero,At]),show (0:Int)=((0:Nat):Int) from rfl,Nw,Oq (by decide)];rfl
 ·rw [if_neg (by rw [Db];omega),txt_dec _ (by omega)]
  unfold Lib.itoa
  by_cases hn:n<0
  ·rw [decide_eq_true hn,if_pos rfl,if_pos hn];rfl
  ·rw [decide_eq_false hn,if_neg (by simp),if_neg hn,show n.natAbs=n.toNat by omega];rfl
def slashB:ByteArray:=⟨#[47]⟩
def fcT (p:Fr):ByteArray:=if p.2=1 then Z1 p.1 else Z1 p.1++slashB++Z1 p.2
theorem Xx (n:Int) (hl:(Al n.natAbs).length<=1000000):Aq 64 [whI n] ⟨[],[]⟩ (.ret (Ez (Z1 n))) ⟨[],[]⟩:=by
 have h:=Acd (decide (n<0)) (Al n.natAbs) hl (Bt _)
 rw [text_dec] at h
 exact h
theorem Afa {n:Int} {k:Nat} (h:Lim k n.natAbs):(Z1 n).size<=9*k+2:=by
 have h1:n.natAbs<10 ^ (9*k+1):=by
  unfold Lim at h
  rw [show (1000000000:Nat)=10 ^ 9 by rfl,<- Nat.pow_mul] at h
  exact Nat.lt_of_lt_of_le h (Nat.pow_le_pow_right (by decide) (by omega))
 have h2:=Hv (9*k) n.natAbs h1
 unfold Z1 Lib.itoa
 split
 ·show (45::Lib.decDigits n.natAbs).length<=_
  simp;omega
 ·rename_i h3
  show (Lib.decDigits n.toNat).length<=_
  rw [show n.toNat=n.natAbs by omega];omega
theorem ntext_do {p:Fr} {k:Nat} (hp:Fit k p) (hk:k<=1000):Aq 30 [fcP p] ⟨[],[]⟩ (.ret (Ez (fcT p))) ⟨[],[]⟩:=by
 obtain ⟨n,d⟩:=p
 obtain ⟨e,rfl⟩:∃ e:Nat,d=e:=⟨d.toNat,by have:=hp.red.1;simp only at this;omega⟩
 have hd:0<e:=by have:=hp.red.1;simp only at this;omega
 have h1:=Ag5 n e hd
 have hl1:(Al n.natAbs).length<=k:=hp.num.len
 have hl2:(Al (e:Int).natAbs).length<=k:=hp.den.len
 have h2:=Xx n (by omega)
 have h3:=Xx (e:Int) (by omega)
 have z1:=Afa hp.num
 have z2:=Afa hp.den
 simp only at z1 z2
 unfold fcT
 dsimp only [fcP]
 unfold Pg at h1 |-
 by_cases he:e=1
 ·rw [decide_eq_true he] at h1
  rw [if_pos (by rw [he];rfl)]
  refine Ag Tryz.func30 rfl rfl (Nat.le_of_ble_eq_true rfl) rfl (Nat.le_refl _) ?_
  repeat' (first|refine rl0 ?_|refine rs0 ?_ ?_<;>intro h|fail)
  refine wp1 h1 ?_
  repeat' (first|refine rl0 ?_|refine rs0 ?_ ?_<;>intro h|fail)
  refine wp1 h2 ?_
  repeat' (first|refine rl0 ?_|refine rs0 ?_ ?_<;>intro h|fail)
  rfl
 ·rw [decide_eq_false he] at h1
  rw [if_neg (by omega)]
  refine Ag Tryz.func30 rfl rfl (Nat.le_of_ble_eq_true rfl) rfl (Nat.le_refl _) ?_
  repeat' (first|refine rl0 ?_|refine rs0 ?_ ?_<;>intro h|fail)
  refine wp1 h1 ?_
  repeat' (first|refine rl0 ?_|refine rs0 ?_ ?_<;>intro h|fail)
  refine wp1n h2 ?_
  repeat' (first|refine rl0 ?_|refine rs0 ?_ ?_<;>intro h|fail)
  refine waf rfl rfl (fun _ _=>rfl) (by show (Z1 n).size+1<=_;omega) ?_
  repeat' (first|refine rl0 ?_|refine rs0 ?_ ?_<;>intro h|fail)
  refine wp1n h3 ?_
  repeat' (first|refine rl0 ?_|refine rs0 ?_ ?_<;>intro h|fail)
  refine waf rfl rfl (fun _ _=>rfl) (by show (Z1 n++slashB:ByteArray).size+(Z1 (e:Int)).size<=_;rw [ByteArray.size_append];show (Z1 n).size+1+_<=_;omega) ?_
  repeat' (first|refine rl0 ?_|refine rs0 ?_ ?_<;>intro h|fail)
  rfl
def evR (vars:List ByteArray) (vals:List Int) (x:Ex):(Int×ByteArray×Bool)×Int :=
 if Bi x≠0 then ((0,⟨#[]⟩,false),Bi x)
 else if vars.length≠vals.length\/Ep vars vals=false then ((0,⟨#[]⟩,false),2)
 else if Ax vars x=0 then ((0,⟨#[]⟩,false),351)
 else match evX vars vals x with
  |none=>((0,⟨#[]⟩,false),2)
  |some r=>if Ax vars x=2 then ((2,⟨#[]⟩,r.2),0) else ((1,fcT r.1,false),0)
@[reducible] def vrP (r:Int×ByteArray×Bool):PV:=vlP r.1 r.2.1 r.2.2
theorem kind_12 (vars:List ByteArray):∀ x:Ex,Good x->Ax vars x=0\/Ax vars x=1\/Ax vars x=2:=by
 have hz:∀ o,isZ o=1\/isZ o=2:=fun o=>by unfold isZ;split<;>omega
 intro x hx
 induction hx with
 |num n _ _=>exact .inr (.inl rfl)
 |name s _ =>
  rw [Ax];split
  ·exact .inl rfl
  ·rw [if_neg (by omega)];split
   ·exact .inr (hz _)
   ·exact .inl rfl
 |yes=>exact .inr (.inr rfl)
 |no=>exact .inr (.inr rfl)
 |neg a _ ih =>
  rw [D7,if_neg (by omega),if_neg (by omega)];split
  ·exact .inr (hz _)
  ·exact .inl rfl
 |not a _ ih =>
  rw [D7,if_neg (by omega),if_neg (by omega)];split
  ·exact .inr (hz _)
  ·exact .inl rfl
 |bin o a b h1 h2 _ _ _ _ =>
  rw [D7,if_neg (by omega),if_neg (by omega)];split
  ·exact .inr (hz _)
  ·exact .inl rfl
 |ite a b c _ _ _ _ ihb _ =>
  rw [D7,if_neg (by omega),if_pos rfl,Bj,Bj,Bj,Bj]
  dsimp only
  split
  ·exact .inl rfl
  ·exact ihb
theorem Adj {vars:List ByteArray} {vals:List Int} (hl:vars.length=vals.length) (h:Ep vars vals=true):∀ v∈vals,-9999<=v/\v<=9999:=by
 intro v hv
 obtain ⟨i,hi,rfl⟩:=List.getElem_of_mem hv
 have h1:=List.all_eq_true.1 h i (List.mem_range.2 (by omega))
 unfold Ic at h1
 simp only [Bool.and_eq_true,decide_eq_true_eq] at h1
 have e:vals.getD i 0=vals[i]:=by rw [List.getD_eq_getElem?_getD,List.getElem?_eq_getElem hi];rfl
 rw [e] at h1
 exact ⟨h1.1.2,h1.2⟩
theorem Aag (x:Ex) (vars:List ByteArray) (vals:List Int) (hs:x.small):Aq 10 [exP x,Cc vars,Dx vals] ⟨[],[]⟩ (.ret (.tup [vrP (evR vars vals x).1,Ak (evR vars vals x).2])) ⟨[],[]⟩:=by
 unfold evR
 by_cases hc:Bi x=0
 rotate_left
 ·rw [if_pos hc];exact eval_bad x vars vals hs hc
 rw [if_neg (fun h=>h hc)]
 by_cases ha:vars.length≠vals.length\/Ep vars vals=false
 ·rw [if_pos ha];exact U9 x vars vals hs hc ha
 rw [if_neg ha]
 simp only [not_or,Decidable.not_not,Bool.not_eq_false] at ha
 obtain ⟨hl,hr⟩:=ha
 by_cases hk:Ax vars x=0
 ·rw [if_pos hk];exact Afn x vars vals hs hc hl hr hk
 rw [if_neg hk]
 have hgx:=Acm hc
 have hvr:=Adj hl hr
 have hv:Zr vals:=fun v hv=>by have:=hvr v hv;omega
 have hnod:=X7 hc
 have he:=eval_do vars vals hl hv _ x (Nat.le_refl _) hgx hk hnod
 have hki:=R2 hv hgx hk
 cases e:evX vars vals x with
 |none =>
  rw [e] at he
  exact Aah x vars vals hs hc hl hr hk he
 |some r =>
  rw [e] at he
  obtain ⟨k1,k2⟩:=hki r e
  dsimp only
  rcases kind_12 vars x hgx with h|h|h
  ·exact absurd h hk
  ·rw [if_neg (by omega)]
   exact Aai x vars vals hs hc hl hr h _ _ _ _ _ _ he (ntext_do (k1 h).1 (by omega))
  ·rw [if_pos h]
   exact Qr x vars vals hs hc hl hr h _ _ _ _ _ he
theorem letter {j:Int} (h0:0<=j) (h3:j<3):Fj A2 (sXyz.extract j.toNat (j+1).toNat)=true:=by
 have:j=0\/j=1\/j=2:=by omega
 rcases this with rfl|rfl|rfl<;>decide +kernel
theorem Vw {vars:List ByteArray} (hv:∀ j:Int,0<=j->j<3->Fj vars (sXyz.extract j.toNat (j+1).toNat)=true) (num:Bool) {n:Int} (h0:0<=n) (h1:n<256):Ax vars (G3 num n)=if num=true then 1 else 2:=by
 unfold G3
 cases num with
 |false =>
  rw [if_pos rfl,if_neg (by simp)]
  have:n / 16 % 2=0\/n / 16 % 2=1:=by omega
  rcases this with h|h<;>rw [h]<;>rfl
 |true =>
  rw [if_neg (by simp),if_pos rfl]
  split
  ·have hm:=hv (n / 16 % 3) (by omega) (by omega)
   rw [Ax,if_neg (by rintro ⟨_,h⟩;rw [hm] at h;cases h)];rfl
  ·rfl
theorem Aat {vars:List ByteArray} {g:Int->Nat->Ex×Nat}:∀ (ts:List Int) (a:Nat),(∀ t∈ts,∀ a,Ax vars (g t a).1=t)->Bj vars (C5 g ts a).1=ts
 |[],a,_=>rfl
 |t::ts,a,h=>by
  rw [C5,Bj,h t List.mem_cons_self,Aat ts _ fun u hu=>h u (List.mem_cons_of_mem _ hu)]
theorem V2 {vars:List ByteArray} (hv:∀ j:Int,0<=j->j<3->Fj vars (sXyz.extract j.toNat (j+1).toNat)=true) (l:List UInt8):∀ (f:Nat) (want:Int) (a:Nat),want=1\/want=2->Ax vars (Mi l f want a).1=want
 |0,want,a,hw=>by
  have hn:=H9 l a
  rw [Mi];simp only
  rw [Vw hv _ hn.1 hn.2]
  rcases hw with rfl|rfl<;>simp [Ii]
 |f+1,want,a,hw=>by
  have hn:=H9 l a
  rw [Mi]
  split
  ·simp only
   rw [Vw hv _ hn.1 hn.2]
   rcases hw with rfl|rfl<;>simp [Ii]
  ·simp only
   have hf:∀ ts,Mb want ts=ts:=fun ts=>by unfold Mb;rw [if_neg (by omega)]
   rw [hf]
   have hk:=fun ts (h:∀ t∈ts,t=1\/t=2) b=>Aat (vars:=vars) (g:=Mi l f) ts b fun t ht c=>V2 hv l f t c (h t ht)
   generalize Cg l a=n at *
   rcases hw with rfl|rfl
   ·rw [show Ii 1 n=true by simp [Ii]]
    unfold Co
    rw [if_neg (by simp)]
    split
    ·rw [Ax,hk _ (by simp),if_neg (by omega),if_neg (by omega)];rfl
    ·split
     ·have h4:n / 16 % 4=0\/n / 16 % 4=1\/n / 16 % 4=2\/n / 16 % 4=3:=by omega
      rw [Ax,hk _ (by simp),if_neg (by simp only;omega),if_neg (by simp only;omega)]
      rcases h4 with h|h|h|h<;>rw [h]<;>rfl
     ·rw [Ax,hk _ (by simp),if_neg (by omega),if_pos rfl];rfl
   ·rw [show Ii 2 n=false by simp [Ii]]
    unfold Co
    rw [if_pos rfl]
    split
    ·have h4:n / 16 % 6=0\/n / 16 % 6=1\/n / 16 % 6=2\/n / 16 % 6=3\/n / 16 % 6=4\/n / 16 % 6=5:=by omega
     rw [Ax,hk _ (by simp),if_neg (by simp only;omega),if_neg (by simp only;omega)]
     rcases h4 with h|h|h|h|h|h<;>rw [h]<;>rfl
    ·split
     ·rw [Ax,hk _ (by simp),if_neg (by omega),if_neg (by omega)];rfl
     ·split
      ·have h4:n / 16 % 2=0\/n / 16 % 2=1:=by omega
       rw [Ax,hk _ (by simp),if_neg (by simp only;omega),if_neg (by simp only;omega)]
       rcases h4 with h|h<;>rw [h]<;>rfl
      ·rw [Ax,hk _ (by simp),if_neg (by omega),if_pos rfl];rfl
theorem Agi (l:List UInt8) {want:Int} (h:want=1\/want=2):Ax A2 (Ys l want)=want:=V2 (fun _=>letter) l 9 want 0 h
theorem Dw (o:Int) (l:List Ex):Ik (nd o l)=⟨#[]⟩::Ce l:=by rw [nd,Ik]
theorem Sq {o:Int} {a:Ex} {s:ByteArray} (h:s∈Ik a):s∈Ik (nd o [a]):=by rw [Dw,Ce,Ce];simp [h]
theorem Aaz {o:Int} {a b:Ex} {s:ByteArray} (h:s∈Ik a):s∈Ik (nd o [a,b]):=by rw [Dw,Ce,Ce,Ce];simp [h]
theorem Aa0 {o:Int} {a b:Ex} {s:ByteArray} (h:s∈Ik b):s∈Ik (nd o [a,b]):=by rw [Dw,Ce,Ce,Ce];simp [h]
theorem Mf {o:Int} {a b c:Ex} {s:ByteArray} (h:s∈Ik a\/s∈Ik b\/s∈Ik c):s∈Ik (nd o [a,b,c]):=by rw [Dw,Ce,Ce,Ce,Ce];rcases h with h|h|h<;>simp [h]
theorem Afl {vars vars':List ByteArray} {vals vals':List Int}:∀ {x:Ex},Good x->(∀ s∈Ik x,s≠⟨#[]⟩->Aec vars vals s=Aec vars' vals' s)->evX vars vals x=evX vars' vals' x:=by
 intro x hx
 induction hx with
 |num n _ _=>intro _;rfl
 |name s hs =>
  intro h
  rw [R3,R3,h s (by rw [Ik];simp) (by rintro rfl;exact absurd hs (by decide +kernel))]
 |yes=>intro _;rfl
 |no=>intro _;rfl
 |neg a _ ih=>intro h;rw [Aad,Aad,ih fun s hs=>h s (Sq hs)]
 |not a _ ih=>intro h;rw [Aae,Aae,ih fun s hs=>h s (Sq hs)]
 |bin o a b h7 h18 _ _ iha ihb =>
  intro h
  have h1:=iha fun s hs=>h s (Aaz hs)
  have h2:=ihb fun s hs=>h s (Aa0 hs)
  by_cases hlog:o=17\/o=18
  ·rw [Aac _ _ o hlog,Aac _ _ o hlog,h1,h2]
  ·rw [Aaf _ _ o h7 (by omega),Aaf _ _ o h7 (by omega),h1,h2]
 |ite a b c _ _ _ iha ihb ihc =>
  intro h
  rw [Aab,Aab,iha fun s hs=>h s (Mf (.inl hs)),ihb fun s hs=>h s (Mf (.inr (.inl hs))),ihc fun s hs=>h s (Mf (.inr (.inr hs)))]
theorem O3 {vars:List ByteArray} (a:Ex):Bj vars [a]=[Ax vars a]:=by rw [Bj,Bj]
theorem Yo {vars:List ByteArray} (a b:Ex):Bj vars [a,b]=[Ax vars a,Ax vars b]:=by rw [Bj,O3]
theorem Af6 {vars:List ByteArray} (a b c:Ex):Bj vars [a,b,c]=[Ax vars a,Ax vars b,Ax vars c]:=by rw [Bj,Yo]
theorem Vt {vars vars':List ByteArray}:∀ {x:Ex},Good x->(∀ s∈Ik x,s≠⟨#[]⟩->Fj vars s=Fj vars' s)->Ax vars x=Ax vars' x:=by
 intro x hx
 induction hx with
 |num n _ _=>intro _;rfl
 |name s hs =>
  intro h
  have h1:=h s (by rw [Ik];simp) (by rintro rfl;exact absurd hs (by decide +kernel))
  rw [Ax,Ax,h1,Bj,Bj]
 |yes=>intro _;rfl
 |no=>intro _;rfl
 |neg a _ ih=>intro h;rw [D7,D7,O3,O3,ih fun s hs=>h s (Sq hs)];rw [if_neg (by omega),if_neg (c:=(5:Int)=2/\_) (by omega)]
 |not a _ ih=>intro h;rw [D7,D7,O3,O3,ih fun s hs=>h s (Sq hs)];rw [if_neg (by omega),if_neg (c:=(6:Int)=2/\_) (by omega)]
 |bin o a b h7 h18 _ _ iha ihb =>
  intro h
  rw [D7,D7,Yo,Yo,iha fun s hs=>h s (Aaz hs),ihb fun s hs=>h s (Aa0 hs),if_neg (by omega),if_neg (c:=o=2/\_) (by omega)]
 |ite a b c _ _ _ iha ihb ihc =>
  intro h
  rw [D7,D7,Af6,Af6,iha fun s hs=>h s (Mf (.inl hs)),ihb fun s hs=>h s (Mf (.inr (.inl hs))),ihc fun s hs=>h s (Mf (.inr (.inr hs))),if_neg (by omega),if_neg (c:=(19:Int)=2/\_) (by omega)]
theorem Nx {vars:List ByteArray}:∀ {x:Ex},Good x->Ax vars x≠0->∀ s∈Ik x,s≠⟨#[]⟩->Fj vars s=true:=by
 intro x hx
 induction hx with
 |num n _ _=>intro _ s hs hne;rw [Ik] at hs;simp [Ce] at hs;exact absurd hs hne
 |name t ht =>
  intro hk s hs _
  rw [Ik] at hs;simp [Ce] at hs;subst hs
  exact O2 hk
 |yes=>intro _ s hs hne;rw [Dw] at hs;simp [Ce] at hs;exact absurd hs hne
 |no=>intro _ s hs hne;rw [Dw] at hs;simp [Ce] at hs;exact absurd hs hne
 |neg a _ ih =>
  intro hk s hs hne
  have h1:=(Jh hk (by omega) (by omega)).1
  rw [show Gn 5=1 from rfl] at h1
  rw [Dw] at hs;simp [Ce] at hs
  exact ih (by omega) s (hs.resolve_left hne) hne
 |not a _ ih =>
  intro hk s hs hne
  have h1:=(Jh hk (by omega) (by omega)).1
  rw [show Gn 6=2 from rfl] at h1
  rw [Dw] at hs;simp [Ce] at hs
  exact ih (by omega) s (hs.resolve_left hne) hne
 |bin o a b h7 h18 _ _ iha ihb =>
  intro hk s hs hne
  obtain ⟨h1,h2,_⟩:=Sm hk (by omega) (by omega)
  have hw:Gn o≠0:=by unfold Gn;split<;>omega
  rw [Dw] at hs;simp [Ce] at hs
  rcases hs.resolve_left hne with hs|hs
  ·exact iha (by omega) s hs hne
  ·exact ihb (by omega) s hs hne
 |ite a b c _ _ _ iha ihb ihc =>
  intro hk s hs hne
  obtain ⟨h1,h2,h3⟩:=Sl hk
  rw [Dw] at hs;simp [Ce] at hs
  rcases hs.resolve_left hne with hs|hs|hs
  ·exact iha (by omega) s hs hne
  ·exact ihb (by omega) s hs hne
  ·exact ihc (by omega) s hs hne
mutual
theorem In:∀ (x:Ex) (l:List ByteArray) (s:ByteArray),s∈l->s∈Kq l x
 |.mk o _ t a,l,s,h=>by
  rw [Kq]
  refine Qn a _ s ?_
  split
  ·exact List.mem_append_left _ h
  ·exact h
theorem Qn:∀ (a:List Ex) (l:List ByteArray) (s:ByteArray),s∈l->s∈Gr l a
 |[],_,_,h=>h
 |x::r,l,s,h=>by rw [Gr];exact Qn r _ s (In x l s h)
end
theorem Zs {s:ByteArray} (hne:s≠⟨#[]⟩):∀ {x:Ex},Good x->∀ l,s∈Ik x->s∈Kq l x:=by
 intro x hx
 induction hx with
 |num n _ _=>intro l hs;rw [Ik] at hs;simp [Ce] at hs;exact absurd hs hne
 |name t ht =>
  intro l hs
  rw [Ik] at hs;simp [Ce] at hs;subst hs
  rw [Kq,Gr]
  split
  ·simp
  ·rename_i h
   have:Fj l s=true:=by cases hm:Fj l s with
    |true=>rfl
    |false=>exact absurd ⟨rfl,hm⟩ h
   exact H8.1 this
 |yes=>intro l hs;rw [Dw] at hs;simp [Ce] at hs;exact absurd hs hne
 |no=>intro l hs;rw [Dw] at hs;simp [Ce] at hs;exact absurd hs hne
 |neg a _ ih =>
  intro l hs
  rw [Dw] at hs;simp [Ce] at hs
  rw [nd,Kq,if_neg (by omega),Gr,Gr]
  exact ih _ (hs.resolve_left hne)
 |not a _ ih =>
  intro l hs
  rw [Dw] at hs;simp [Ce] at hs
  rw [nd,Kq,if_neg (by omega),Gr,Gr]
  exact ih _ (hs.resolve_left hne)
 |bin o a b h7 h18 _ _ iha ihb =>
  intro l hs
  rw [Dw] at hs;simp [Ce] at hs
  rw [nd,Kq,if_neg (by omega),Gr,Gr,Gr]
  rcases hs.resolve_left hne with hs|hs
  ·exact In _ _ _ (iha _ hs)
  ·exact ihb _ hs
 |ite a b c _ _ _ iha ihb ihc =>
  intro l hs
  rw [Dw] at hs;simp [Ce] at hs
  rw [nd,Kq,if_neg (by omega),Gr,Gr,Gr,Gr]
  rcases hs.resolve_left hne with hs|hs|hs
  ·exact In _ _ _ (In _ _ _ (iha _ hs))
  ·exact In _ _ _ (ihb _ hs)
  ·exact ihc _ hs
def wB:ByteArray:=⟨#[119]⟩
def Qj (vals:List Int):Prop:=∃ x y z,vals=[x,y,z]/\(-9999<=x/\x<=9999)/\(-9999<=y/\y<=9999)/\(-9999<=z/\z<=9999)
theorem Jy {vals:List Int} (h:Qj vals):vals.length=3/\Ep A2 vals=true:=by
 obtain ⟨x,y,z,rfl,hx,hy,hz⟩:=h
 refine ⟨rfl,?_⟩
 unfold Ep
 rw [show A2.length=3 from rfl,show List.range 3=[0,1,2] from rfl]
 simp only [List.all_cons,List.all_nil,Bool.and_true,Bool.and_eq_true]
 unfold Ic
 refine ⟨?_,?_,?_⟩
 ·rw [show Fj (A2.take 0) (A2.getD 0 ⟨#[]⟩)=false by decide +kernel];simp;omega
 ·rw [show Fj (A2.take 1) (A2.getD 1 ⟨#[]⟩)=false by decide +kernel];simp;omega
 ·rw [show Fj (A2.take 2) (A2.getD 2 ⟨#[]⟩)=false by decide +kernel];simp;omega
theorem Ai4 {vals:List Int} (h:Qj vals) {o:Int} (ho : -9999<=o/\o<=9999):(A2++[wB]).length=(vals++[o]).length/\Ep (A2++[wB]) (vals++[o])=true:=by
 obtain ⟨x,y,z,rfl,hx,hy,hz⟩:=h
 refine ⟨rfl,?_⟩
 unfold Ep
 rw [show (A2++[wB]).length=4 from rfl,show List.range 4=[0,1,2,3] from rfl]
 simp only [List.all_cons,List.all_nil,Bool.and_true,Bool.and_eq_true]
 unfold Ic
 refine ⟨?_,?_,?_,?_⟩
 ·rw [show Fj ((A2++[wB]).take 0) ((A2++[wB]).getD 0 ⟨#[]⟩)=false by decide +kernel];simp;omega
 ·rw [show Fj ((A2++[wB]).take 1) ((A2++[wB]).getD 1 ⟨#[]⟩)=false by decide +kernel];simp;omega
 ·rw [show Fj ((A2++[wB]).take 2) ((A2++[wB]).getD 2 ⟨#[]⟩)=false by decide +kernel];simp;omega
 ·rw [show Fj ((A2++[wB]).take 3) ((A2++[wB]).getD 3 ⟨#[]⟩)=false by decide +kernel];simp;omega
theorem Af3 {s:ByteArray} (h:Fj A2 s=true):s=⟨#[120]⟩\/s=⟨#[121]⟩\/s=⟨#[122]⟩:=by
 have:=H8.1 h
 simpa [A2] using this
section
variable {x:Ex} {vals vals':List Int}
theorem Aaa {vars vars':List ByteArray} (h1:vars.length=vals.length/\Ep vars vals=true) (h2:vars'.length=vals'.length/\Ep vars' vals'=true) (hk:Ax vars x=Ax vars' x) (he:evX vars vals x=evX vars' vals' x):evR vars vals x=evR vars' vals' x:=by
 unfold evR
 rw [if_neg (c:=vars.length≠vals.length\/_) (by simp [h1.1,h1.2]),if_neg (c:=vars'.length≠vals'.length\/_) (by simp [h2.1,h2.2]),hk,he]
theorem evR_val (hc:Bi x=0) (h1:Qj vals) {k:Int} (hk:Ax A2 x=k) (h0:k≠0):(evR A2 vals x=((0,⟨#[]⟩,false),2))\/∃ r:Res,evR A2 vals x=((if k=2 then (2,⟨#[]⟩,r.2) else (1,fcT r.1,false)),0):=by
 obtain ⟨h2,h3⟩:=Jy h1
 unfold evR
 rw [if_neg (by simp [hc]),if_neg (by simp [h3,h2,show A2.length=3 from rfl]),hk,if_neg h0]
 cases evX A2 vals x with
 |none=>exact .inl rfl
 |some r=>right;refine ⟨r,?_⟩;dsimp only;split<;>rfl
theorem var_set {i:Nat} {o:Int} (hv:Qj vals) (hi:i<3) {s:ByteArray} (hs:Fj A2 s=true) (hne:s≠A2.getD i ⟨#[]⟩):Aec A2 vals s=Aec A2 (vals.set i o) s:=by
 obtain ⟨a,b,c,rfl,_⟩:=hv
 have h3:i=0\/i=1\/i=2:=by omega
 have e0:M7 A2 ⟨#[120]⟩=0:=by decide +kernel
 have e1:M7 A2 ⟨#[121]⟩=1:=by decide +kernel
 have e2:M7 A2 ⟨#[122]⟩=2:=by decide +kernel
 unfold Aec
 rcases Af3 hs with rfl|rfl|rfl<;>rcases h3 with rfl|rfl|rfl<;>first|(exact absurd rfl hne)|(rw [e0];rfl)|(rw [e1];rfl)|(rw [e2];rfl)
theorem var_more {o:Int} (hv:Qj vals) {s:ByteArray} (hs:Fj A2 s=true):Aec A2 vals s=Aec (A2++[wB]) (vals++[o]) s:=by
 obtain ⟨a,b,c,rfl,_⟩:=hv
 unfold Aec
 rcases Af3 hs with rfl|rfl|rfl
 ·rw [show M7 A2 ⟨#[120]⟩=0 by decide +kernel,show M7 (A2++[wB]) ⟨#[120]⟩=0 by decide +kernel];rfl
 ·rw [show M7 A2 ⟨#[121]⟩=1 by decide +kernel,show M7 (A2++[wB]) ⟨#[121]⟩=1 by decide +kernel];rfl
 ·rw [show M7 A2 ⟨#[122]⟩=2 by decide +kernel,show M7 (A2++[wB]) ⟨#[122]⟩=2 by decide +kernel];rfl
theorem well_set (h:Qj vals) {i:Nat} {o:Int} (hi:i<3) (ho : -9999<=o/\o<=9999):Qj (vals.set i o):=by
 obtain ⟨a,b,c,rfl,ha,hb,hc⟩:=h
 have h3:i=0\/i=1\/i=2:=by omega
 rcases h3 with rfl|rfl|rfl
 ·exact ⟨o,b,c,rfl,ho,hb,hc⟩
 ·exact ⟨a,o,c,rfl,ha,ho,hc⟩
 ·exact ⟨a,b,o,rfl,ha,hb,ho⟩
theorem evR_set (hx:Good x) (hk:Ax A2 x≠0) (hv:Qj vals) {i:Nat} (hi:i<3) {o:Int} (ho : -9999<=o/\o<=9999) (hn:Fj (Kq [] x) (A2.getD i ⟨#[]⟩)=false):evR A2 (vals.set i o) x=evR A2 vals x:=by
 obtain ⟨h2,h3⟩:=Jy hv
 obtain ⟨h4,h5⟩:=Jy (well_set hv hi ho)
 refine (Aaa ⟨by rw [h2];rfl,h3⟩ ⟨by rw [h4];rfl,h5⟩ rfl (Afl hx fun s hs hne=>var_set hv hi (Nx hx hk s hs hne) ?_)).symm
 rintro rfl
 have:=H8.2 (Zs hne hx [] hs)
 rw [hn] at this;cases this
theorem evR_more (hx:Good x) (hk:Ax A2 x≠0) (hv:Qj vals) {o:Int} (ho : -9999<=o/\o<=9999):evR (A2++[wB]) (vals++[o]) x=evR A2 vals x:=by
 obtain ⟨h2,h3⟩:=Jy hv
 refine (Aaa ⟨by rw [h2];rfl,h3⟩ (Ai4 hv ho) (Vt hx fun s hs hne=>?_) (Afl hx fun s hs hne=>var_more hv (Nx hx hk s hs hne))).symm
 have h6:=Nx hx hk s hs hne
 rw [h6]
 exact (H8.2 (List.mem_append_left _ (H8.1 h6))).symm
theorem Acy (hx:Good x) (hk:Ax A2 x≠0):Ax (Kq [] x) x=Ax A2 x :=
 Vt hx fun s hs hne=>by rw [Nx hx hk s hs hne];exact H8.2 (Zs hne hx [] hs)
end
def P7:Kx:=⟨[],[],fun _=>False,fun _ _=>False⟩
theorem O1 {w:World} {b hi:Nat} (h:b<w.heap.size):P7.good w b hi:=⟨h,by simp [P7],id,fun _ h=>h.elim,fun t c lo h=>by simp [P7] at h⟩
theorem kAll_inv {K:Kx} {S:PS} {w:World} (h:Inv K S w):Inv P7 ⟨[],[]⟩ w :=
 ⟨rfl,rfl,fun i b c h=>by simp [P7] at h,by simp [P7],fun b h=>by simp [P7] at h,fun t T c h=>by simp at h,fun t c g lo h=>by simp [P7] at h,fun t t' c c' g lo lo' h=>by simp [P7] at h,fun t c u h=>by simp [P7] at h,fun _ h=>h.elim,fun _ _ h=>h.elim,h.fz.sub (fun b h=>by simp [P7] at h) (fun t c h=>by simp [P7] at h)⟩
def Lend (S:PS) (p p':PV):Prop:=∀ (K:Kx) (w:World) (u:Value),Inv K S w->Rep K w p u->Rep P7 w p' u
def Rv (S:PS):List PV->List PV->Prop
 |[],l=>l=[]
 |p::ps,l=>∃ q qs,l=q::qs/\Lend S p q/\Rv S ps qs
theorem Gi {S:PS}:Rv S [] []:=rfl
theorem B3 {S:PS} {p p':PV} {l l':List PV} (h:Lend S p p') (h':Rv S l l'):Rv S (p::l) (p'::l'):=⟨_,_,rfl,h,h'⟩
theorem Vx {S:PS} {K:Kx} {w:World} (hI:Inv K S w):∀ {l l':List PV} {us:List Value},Rv S l l'->Am K w l us->Am P7 w l' us
 |[],l',us,h,hr=>by simp only [Rv] at h;subst h;exact hr
 |p::ps,l',us,h,hr=>by
  simp only [Rv] at h
  obtain ⟨q,qs,rfl,h1,h2⟩:=h
  simp only [Am] at hr |-
  obtain ⟨u,us',rfl,h3,h4⟩:=hr
  exact ⟨u,us',rfl,h1 K w u hI h3,Vx hI h2 h4⟩
theorem lend_coe {S:PS} {p p':PV} (h:Coe S p p') (hl:p'.lt 0 0=true):Lend S p p':=fun K w u hI hr=>by
 have h1:=h K w u hI hr
 have h2:Am (F7 K [] []) w [p'] [u]:=Gd (ids:=[]) (tids:=[]) hI E1 (by simp [PV.ltL,hl]) (by
  rw [Eo [p'] (by simp [PV.ltL,hl])]
  exact ⟨u,[],rfl,h1,rfl⟩)
 have h3:=Am.ren (K:=P7) (K0:=F7 K [] []) (fb:=fbN []) (ft:=ftN [] S.toks.length) (fun i b h=>by simp [F7] at h) (fun t c h=>by simp [F7] at h) (fun b hi hg=>O1 hg.1) _ _ h2
 rw [Eo [p'] (by simp [PV.ltL,hl])] at h3
 obtain ⟨u',us',e,h4,_⟩:=h3
 cases e
 exact h4
theorem Gj {S:PS} {p:PV} (hl:p.lt 0 0=true):Lend S p p:=lend_coe (Ac _) hl
theorem Ae1 {w:World} {b off:Nat} {C:Array Value} {ty:TypeId} (hg:w.heap[b]? = some (.cells C ty (0,0))):∀ (ds:List DV) (us:List Value),(∀ j u,us[j]? = some u->C[off+j]? = some u)->Am P7 w (ds.map .d) us->Ap (P7.good w) w ds b off:=fun ds us h hr =>
 Fd (fun j v hj=>by rw [cell_of_row w b _ C ty (0,0) hg];exact h j v hj) hr
theorem H0 {S:PS} {k id n cap:Nat} {l:List (List DV)} {c:List PV} (hc:S.boxes[id]? = some c) (hn:l.length=n) (hcl:c.take (n*k)=l.flatten.map .d) (hk:∀ e∈l,e.length=k) (hcap:n<=cap) (h63:cap<=9223372036854775807) (hlt:PV.ltL 0 0 (c.take (n*k))=true):Lend S (.bsl k id 0 n cap) (.d (.sl k l)):=fun K w u hI hr=>by
 simp only [Rep] at hr
 obtain ⟨b,hb,rfl⟩:=hr
 obtain ⟨C,ty,h1,h2,h3⟩:=hI.box id b c hb hc
 have h4:Am K w (c.take (n*k)) (C.toList.take (n*k)):=h2.take _
 have h5:Am (F7 K [] []) w (c.take (n*k)) (C.toList.take (n*k)):=Gd (ids:=[]) (tids:=[]) hI E1 hlt (by rw [Eo _ hlt];exact h4)
 have h6:=Am.ren (K:=P7) (K0:=F7 K [] []) (fb:=fbN []) (ft:=ftN [] S.toks.length) (fun i b h=>by simp [F7] at h) (fun t c h=>by simp [F7] at h) (fun b hi hg=>O1 hg.1) _ _ h5
 rw [Eo _ hlt,hcl] at h6
 simp only [Rep,Cj]
 refine ⟨_,cap,by rw [hn],by omega,h63,fun _=>⟨b,0,rfl,O1 (Array.getElem?_eq_some_iff.1 h1).1,Cx.2 ⟨hk,?_⟩⟩⟩
 refine Ae1 h1 _ _ (fun j u hj=>?_) h6
 rw [List.getElem?_take] at hj
 split at hj
 ·rw [Nat.zero_add];simpa using hj
 ·cases hj
mutual
def PV.flat:PV->Bool
 |.d (.v _)=>true
 |.agg l=>PV.flatL l
 |.tup l=>PV.flatL l
 |_=>false
def PV.flatL:List PV->Bool
 |[]=>true
 |p::ps=>p.flat&&PV.flatL ps
end
mutual
theorem Ah1 {K K':Kx} {w w':World}:∀ (p:PV) (u:Value),p.flat=true->Rep K w p u->Rep K' w' p u
 |.d (.v x),u,_,h=>by simpa only [Rep,Cj] using h
 |.agg l,u,h,hr=>by
  simp only [Rep] at hr |-
  obtain ⟨cs,h1,h2⟩:=hr
  exact ⟨cs,h1,Th l cs h h2⟩
 |.tup l,u,h,hr=>by
  simp only [Rep] at hr |-
  obtain ⟨cs,h1,h2⟩:=hr
  exact ⟨cs,h1,Th l cs h h2⟩
 |.d (.sl _ _),_,h,_=>by cases h
 |.any,_,h,_=>by cases h
 |.un,_,h,_=>by cases h
 |.ptr _ _,_,h,_=>by cases h
 |.ep _,_,h,_=>by cases h
 |.hd _ _,_,h,_=>by cases h
 |.bsl ..,_,h,_=>by cases h
 |.fn _ _,_,h,_=>by cases h
theorem Th {K K':Kx} {w w':World}:∀ (l:List PV) (us:List Value),PV.flatL l=true->Am K w l us->Am K' w' l us
 |[],_,_,h=>by simpa only [Am] using h
 |p::ps,us,h,hr=>by
  simp only [PV.flatL,Bool.and_eq_true] at h
  simp only [Am] at hr |-
  obtain ⟨u,us',rfl,h1,h2⟩:=hr
  exact ⟨u,us',rfl,Ah1 p u h.1 h1,Th ps us' h.2 h2⟩
end
section
variable {P:Program} {S:PS} {K K0':Kx} {w w':World}
theorem Aga (hI:Inv K S w) (hs:Step P7 K0' w w'):Inv K S w'/\Step K K w w':=by
 have hold:∀ b,b<w.heap.size->w'.heap[b]? = w.heap[b]? := fun b hb=>hs.blocks b hb (by simp [P7]) (fun t c lo ht=>by simp [P7] at ht)
 have h1:Step K K w w':=⟨hs.os,hs.tape,hs.output,hs.size,fun _ _ h=>h,fun _ h => .inl h,rfl,rfl,fun _ c h=>⟨c,h,List.prefix_rfl⟩,fun t c _ lo h h' => .inr ⟨t,c,lo,h,h',Nat.le_refl _⟩,
  fun b hlt _ _=>hold b hlt,fun t c g lo i ht hc _ _=>A0 (hold g (hI.tokLt ht hc))⟩
 refine ⟨⟨hI.lenβ,hI.lenτ,fun i b c h2 h3=>?_,hI.nodup,hI.βM,fun t T c h2 h3=>?_,hI.tokF,hI.tokI,hI.tokH,fun b hm=>Nat.lt_of_lt_of_le (hI.Mlt b hm) hs.size,fun b lo hm=>Nat.lt_of_lt_of_le (hI.Tlt b lo hm) hs.size,hI.fz.step h1⟩,h1⟩
 ·obtain ⟨_,_,hlt,_⟩:=hI.boxLt h2
  exact (hI.box i b c h2 h3).step h1 (hold b hlt)
 ·obtain ⟨h3',u,h4,h5⟩:=hI.tok t T c h2 h3
  exact ⟨h3',u,h4,h5.step h1 fun g lo hc=>hold g (hI.tokLt h3 hc)⟩
theorem ops_lend {o:Oper} {F:Nat->PV} {c:Operand} {al0:Array Operand} {ats:Array TypeId} {f:Nat} {caps args:List PV} {r:PV} (ho:o.op = .call { callee := .value c,args:=al0,argTypes:=ats }) (he:Ent P f) (hc:evP F c = .fn f caps)
  (ha:Rv S (al0.toList.map (evP F)++caps) args) (hfl:r.flat=true) (hev:EvC P f args ⟨[],[]⟩ (.ret r) ⟨[],[]⟩):OpS P o F S r S:=by
 intro ro mm K w a next Q hI hx hn
 obtain ⟨vs,h1,h2⟩:=Jt ho he hc hx
 refine Jz h1 ((hev P7 w vs (kAll_inv hI) (Vx hI ha h2)).mono ?_)
 rintro e w' ⟨K0',hs,hI',v,rfl,hr⟩
 obtain ⟨g1,g2⟩:=Aga hI hs
 exact hn v w' K g2 g1 (Ah1 r v hfl hr)
end
theorem zero_one {l : List Value} (h : ∀ v ∈ l, v.oneCell' = true) (n : Nat) : ∀ v ∈ (Builtin.zeroCells ⟨l⟩ n).toList, v.oneCell' = true := by
  intro v hv
  simp only [Builtin.zeroCells, Array.toList_map, List.mem_map] at hv
  obtain ⟨i, hi, rfl⟩ := hv
  have h1 : i < n * l.length := by simpa using hi
  have h2 : 0 < l.length := by rcases Nat.eq_zero_or_pos l.length with h | h; · (rw [h] at h1; omega)
                               . exact h
  have h3 := Nat.mod_lt i h2
  have h4 : (⟨l⟩ : Array Value)[i % (⟨l⟩ : Array Value).size]! = l[i % l.length] := by
    rw [getElem!_pos (⟨l⟩ : Array Value) (i % (⟨l⟩ : Array Value).size) (by simpa using h3)]; rfl
  rw [h4]
  exact h _ (List.getElem_mem h3)
def Aei (S:PS) (p:PV) (k:Nat) (news:List (List DV)):Prop:=∀ (K:Kx) (w:World) (u:Value),Inv K S w->Rep K w p u ->
 ∃ b o cap vs,u = .slice (some ⟨b,o,none⟩) news.length cap/\vs.length=news.length*k/\w.rangeAt b o vs/\Am K w (news.flatten.map .d) vs/\∀ e∈news,e.length=k
theorem Ahz {S:PS} {p:PV} {k:Nat} {news:List (List DV)} (h:Coe S p (.d (.sl k news))) (hne:news≠[]):Aei S p k news:=fun K w u hI hr=>by
 have h2:=h K w u hI hr
 simp only [Rep,Cj] at h2
 obtain ⟨p,cap2,hu2,_,_,h3⟩:=h2
 obtain ⟨b',o',rfl,hg,hrows⟩:=h3 hne
 obtain ⟨vs,hvl,hvr,hvR⟩:=N9 hrows
 exact ⟨b',o',cap2,vs,hu2,hvl,hvr,hvR,(Cx.1 hrows).1⟩
theorem W8 {S:PS} {k id cap:Nat} {news:List (List DV)} {c:List PV} (hc:S.boxes[id]? = some c) (hcl:c.take (news.length*k)=news.flatten.map .d) (hk:∀ e∈news,e.length=k):Aei S (.bsl k id 0 news.length cap) k news:=fun K w u hI hr=>by
 simp only [Rep] at hr
 obtain ⟨b,hb,rfl⟩:=hr
 obtain ⟨C,ty,h1,h2,h3⟩:=hI.box id b c hb hc
 have h4:=h2.take (news.length*k)
 rw [hcl] at h4
 refine ⟨b,0,cap,_,rfl,?_,fun j v hj=>?_,h4,hk⟩
 ·rw [h4.length,List.length_map,Fb hk]
 ·rw [Nat.zero_add,cell_of_row w b j C ty (0,0) h1]
  rw [List.getElem?_take] at hj
  split at hj
  ·simpa using hj
  ·cases hj
section
variable {P:Program} {S:PS} {o:Oper} {F:Nat->PV}
theorem Ok {K:Kx} {w:World} {ρ : Operand->Value} {x y:Operand} {ty:TypeId} {I:TyI} {id n:Nat} {c:List PV} {news:List (List DV)} (ho:o.op = .call { callee := .builtin .append,args := #[x,y],argTypes := #[ty,ty] }) (hT:TyI.of P ty=some I) (hk:I.kind=2)
  (hI:Inv K S w) (h1:Rep K w (.bsl I.ek id 0 n n) (ρ x)) (hc:S.boxes[id]? = some c) (hcl:n*I.ek<=c.length) (h2:∃ b o cap vs,ρ y = .slice (some ⟨b,o,none⟩) news.length cap/\vs.length=news.length*I.ek/\w.rangeAt b o vs/\Am K w (news.flatten.map .d) vs/\∀ e∈news,e.length=I.ek) (hne:news≠[]) (hbytes:(n+news.length)*I.eb<=140737488355328) (h63:n+news.length<=9223372036854775807) :
  ∃ (cap:Nat) (olds vs:List Value),n+news.length<=cap/\cap<=9223372036854775807/\Am K w (c.take (n*I.ek)) olds/\(∀ v∈olds,v.oneCell'=true)/\Am K w (news.flatten.map .d) vs/\(∀ e∈news,e.length=I.ek) /\
   (execOp ρ o).run P w = .ok (.value (.slice (some ⟨w.heap.size,0,none⟩) (n+news.length) cap)) (w.drew.alloc (.cells (olds.toArray++vs.toArray++Builtin.zeroCells ⟨I.ez⟩ (cap-(n+news.length))) I.elem)):=by
 simp only [Rep] at h1
 obtain ⟨b,hb,hu1⟩:=h1
 obtain ⟨b',o',cap2,vs,hu2,hvl,hvr,hvR,hk2⟩:=h2
 obtain ⟨i,d,zz,hi,hu,hz,_,hzz,hd⟩:=TyI.inv hT
 rw [hk] at hd;simp at hd
 obtain ⟨rfl,ie,hie,ze,hze,hzs,hek2,heb,hez2⟩:=hd
 have hsz:ie.size=I.ek:=by first|exact hek2|exact hek2.symm
 have hbe:ie.bytes=I.eb:=by first|exact heb|exact heb.symm
 have hcz:ze.cells.toList=I.ez:=by first|exact hez2.1|exact hez2.1.symm
 obtain ⟨C,tyb,h4,h5,h6⟩:=hI.box id b c hb hc
 have hCl:C.toList.length=c.length:=h5.length.symm▸rfl
 have hm:0<news.length:=List.length_pos_iff.2 hne
 have hrun:=run_append_grow (P:=P) (w:=w) ty o.type I.elem ie ze hu hie hze ⟨b,0,none⟩ n n (C.toList.take (n*I.ek)) (by rw [hsz,List.length_take];omega)
  (fun j v hj=>by
   rw [List.getElem?_take] at hj
   split at hj
   ·have e:(⟨b,0,none⟩:Addr).add j=⟨b,j,none⟩:=by rw [Addr.add_mid,Nat.zero_add]
    rw [e,cell_of_row w b j C tyb (0,0) h4];simpa using hj
   ·cases hj) ⟨b',o',none⟩ news.length cap2 vs (by rw [hsz];exact hvl) (fun j v hj=>by rw [Addr.add_mid];exact hvr j v hj) (by omega) (by omega) (by rw [hbe];exact growslice_fits (by omega) hbytes)
 refine ⟨grownCap w (n+news.length) n I.elem,C.toList.take (n*I.ek),vs,grownCap_ge w _ n _,by simpa [maxLen] using grownCap_le_maxLen w (n+news.length) n I.elem (by simpa [maxLen] using h63),h5.take _,fun v hv=>h6 v (List.mem_of_mem_take hv),hvR,hk2,?_⟩
 refine Ek ho ?_
 rw [hu1,hu2,hrun]
 congr 5
 rw [<- hcz]
theorem ops_appG {x y:Operand} {ty:TypeId} {I:TyI} {id n:Nat} {c:List PV} {olds news:List (List DV)} (ho:o.op = .call { callee := .builtin .append,args := #[x,y],argTypes := #[ty,ty] }) (hT:TyI.of P ty=some I) (hk:I.kind=2)
  (hx:evP F x = .bsl I.ek id 0 n n) (hc:S.boxes[id]? = some c) (hol:olds.length=n) (hcl:c.take (n*I.ek)=olds.flatten.map .d) (hko:∀ e∈olds,e.length=I.ek) (hy:Aei S (evP F y) I.ek news) (hne:news≠[]) (hbytes:(n+news.length)*I.eb<=140737488355328) (h63:n+news.length<=9223372036854775807):OpS P o F S (.d (.sl I.ek (olds++news))) S :=
 OpS.val fun K w ρ hInv h=>by
  have h1:=h x (by simp [ho,Op.operands,Call.operands])
  have h2:=h y (by simp [ho,Op.operands,Call.operands])
  rw [hx] at h1
  have h2:=hy K w _ hInv h2
  have hle:n*I.ek<=c.length:=by
   have h3:=congrArg List.length hcl
   rw [List.length_take,List.length_map,Fb hko,hol] at h3
   omega
  obtain ⟨cap,us,vs,g1,g2,g3,g4,g5,g6,hrun⟩:=Ok ho hT hk hInv h1 hc hle h2 hne hbytes h63
  have hb:Below w.heap.size w w.drew:=(Below.refl _ _).drew
  obtain ⟨e1,e2⟩:=hInv.below (w':=w.drew.alloc (.cells (us.toArray++vs.toArray++Builtin.zeroCells ⟨I.ez⟩ (cap-(n+news.length))) I.elem)) (hb.alloc (Nat.le_refl _) _)
  refine ⟨_,_,K,hrun,e2,e1,?_⟩
  simp only [Rep,Cj]
  refine ⟨_,cap,by simp [hol],by simp [hol];omega,g2,fun _=>⟨w.heap.size,0,rfl,Oz hInv (by simp) _,Cx.2 ⟨fun e he=>?_,?_⟩⟩⟩
  ·rcases List.mem_append.1 he with he|he
   ·exact hko e he
   ·exact g6 e he
  ·rw [List.flatten_append]
   refine Fd (us:=us++vs) (fun j v hj=>?_) ?_
   ·have h9:j<(us++vs).length:=(List.getElem?_eq_some_iff.1 hj).1
    have h8:=N5 (w:=w.drew) (cs:=us.toArray++vs.toArray++Builtin.zeroCells ⟨I.ez⟩ (cap-(n+news.length))) (e:=I.elem) j v (by
     simp only [Array.toList_append,List.toList_toArray]
     rw [List.getElem?_append_left h9];exact hj)
    exact h8
   ·rw [List.map_append,<- hcl]
    exact Am.step e2 _ _ (g3.append g5)
end
structure WS (P:Program) (N:Nat) (ops:Array Oper) (rest:List Oper) (F:Nat->PV) (S:PS) (Q:Exit->(Nat->PV)->PS->Prop):Prop where
 run:∀ (ro:Option Nat) (mm:Nat) (K0 K:Kx) (S0:PS) (w0 w:World) (a:Act),Inv K0 S0 w0->Step K0 K w0 w->Inv K S w->FrameRep K w N F a->wpListIn (fen ro) mm P ops (QC K0 w0 a.defers N Q) rest a w
def OpA {ι : Type} (P:Program) (o:Oper) (F:Nat->PV) (S:PS) (ok : ι -> Prop) (r : ι -> PV) (Sx : ι -> PS):Prop :=
 ∀ (ro:Option Nat) (mm:Nat) (K:Kx) (w:World) (a:Act) (next:Act->World->Prop) (Q:Exit->Act->World->Prop),Inv K S w->(∀ x∈o.op.operands,Rep K w (evP F x) (a.eval x)) ->
  (∀ i,ok i->∀ v w' K',Step K K' w w'->Inv K' (Sx i) w'->Rep K' w' (r i) v->next (a.put o.dst v) w')->o.wpIn (fen ro) mm P a w next Q
section
variable {P:Program} {N:Nat} {ops:Array Oper} {rest:List Oper} {o:Oper} {F:Nat->PV} {S:PS} {Q:Exit->(Nat->PV)->PS->Prop}
theorem Rc {id:Nat} {ops:List Oper} (h:WS P N ops.toArray ops F S Q):PW P N (.region id ops.toArray false) Q F S:=⟨fun ro mm K w a hI hF=>wpIn_region_lit (h.run ro mm K K S w w a hI (Step.refl K w) hI hF)⟩
theorem ws_wk (h:WK P N ops rest F S (Y7 Q)):WS P N ops rest F S Q:=⟨fun ro mm K0 K S0 w0 w a hI0 hs hI hF=>by
 obtain ⟨res,h1,h2⟩:=h.ex
 exact h1.sound ro mm K0 K S0 w0 w a hI0 hs hI hF (Ip h2)⟩
theorem ws_all {ι : Type} {ok : ι -> Prop} {r : ι -> PV} {Sx : ι -> PS} (hg:Ah ops F o=some true) (ho:OpA P o F S ok r Sx) (h:∀ i,ok i->WS P N ops rest (By N o.dst (r i) F) (Sx i) Q):WS P N ops (o::rest) F S Q:=⟨fun ro mm K0 K S0 w0 w a hI0 hs hI hF=>by
 have hw:=Dj hg (K:=K) (w:=w) (a:=a) (fun _ _ d _ _=>hF.rep d)
 unfold wpListIn
 rw [if_pos hw]
 refine ho ro mm K w a _ _ hI (fun x _=>hF.ev x) fun i hi v w' K' h1 h2 h3=>?_
 have:=(h i hi).run ro mm K0 K' S0 w0 w' _ hI0 (hs.trans hI0 h1) h2 (hF.put h1 h3)
 rwa [C9] at this⟩
theorem ws_op {r:PV} {S':PS} (hg:Ah ops F o=some true) (ho:OpS P o F S r S') (h:WS P N ops rest (By N o.dst r F) S' Q):WS P N ops (o::rest) F S Q :=
 ws_all (ι := Unit) (ok:=fun _=>True) (r:=fun _=>r) (Sx:=fun _=>S') hg (fun ro mm K w a next Q hI hx hn=>ho ro mm K w a next Q hI hx (hn () trivial)) fun _ _=>h
def preQ (P:Program) (N:Nat) (ops:Array Oper) (post:List Oper) (Q:Exit->(Nat->PV)->PS->Prop):WRes->Prop
 |.done F S=>WS P N ops post F S Q
 |.panic c S=>Y7 Q (.panic c S)
theorem ws_pre' {post pre:List Oper} {res:WRes} (h:Walk P N ops pre F S res):preQ P N ops post Q res->WS P N ops (pre++post) F S Q:=by
 induction h with
 |nil F S=>exact id
 | @skip o rest F S res hg _ ih =>
  intro hq
  have h:=ih hq
  refine ⟨fun ro mm K0 K S0 w0 w a hI0 hs hI hF=>?_⟩
  have hw:=Dj hg (K:=K) (w:=w) (a:=a) (fun _ _ d _ _=>hF.rep d)
  rw [List.cons_append]
  unfold wpListIn
  rw [if_neg (by rw [hw];simp)]
  refine ⟨fun _ _=>trivial,?_⟩
  have:=h.run ro mm K0 K S0 w0 w _ hI0 hs hI (hF.put (Step.refl K w) (r := .un) (v:=undef) (dst:=o.dst) (by simp [Rep]))
  rwa [C9] at this
 | @op o rest F S r S' res hg ho _ ih =>
  intro hq
  exact ws_op hg ho (ih hq)
 | @panic o rest F S c S' hg ho =>
  intro hq
  refine ⟨fun ro mm K0 K S0 w0 w a hI0 hs hI hF=>?_⟩
  have hw:=Dj hg (K:=K) (w:=w) (a:=a) (fun _ _ d _ _=>hF.rep d)
  rw [List.cons_append]
  unfold wpListIn
  rw [if_pos hw]
  exact ho ro mm K w a _ _ hI (fun x _=>hF.ev x) fun w' K' h1 h2=>Ip (N:=N) (Q:=Q) (res := .panic c S') hq K' a w' (hs.trans hI0 h1) h2 hF.size rfl
theorem ws_pre (pre post:List Oper) (h:WK P N ops pre F S (preQ P N ops post Q)):WS P N ops (pre++post) F S Q:=let ⟨_,h1,h2⟩:=h.ex;ws_pre' h1 h2
theorem opa_appG {x y:Operand} {ty:TypeId} {I:TyI} {id n:Nat} {c:List PV} {news:List (List DV)} (ho:o.op = .call { callee := .builtin .append,args := #[x,y],argTypes := #[ty,ty] }) (hT:TyI.of P ty=some I) (hk:I.kind=2)
  (hx:evP F x = .bsl I.ek id 0 n n) (hc:S.boxes[id]? = some c) (hcl:n*I.ek<=c.length) (hy:Aei S (evP F y) I.ek news) (hne:news≠[]) (hbytes:(n+news.length)*I.eb<=140737488355328) (h63:n+news.length<=9223372036854775807) :
  OpA P o F S (fun i:Nat×List PV=>n+news.length<=i.1/\i.1<=9223372036854775807/\i.2.length=(i.1-(n+news.length))*I.ez.length/\PV.ltL 0 0 i.2=true) (fun i => .bsl I.ek S.boxes.length 0 (n+news.length) i.1) (fun i=>S.addBox (c.take (n*I.ek)++news.flatten.map .d++i.2)):=by
 intro ro mm K w a next Q hInv h hn
 have h1:=h x (by simp [ho,Op.operands,Call.operands])
 have h2:=h y (by simp [ho,Op.operands,Call.operands])
 rw [hx] at h1
 have h2:=hy K w _ hInv h2
 obtain ⟨cap,us,vs,g1,g2,g3,g4,g5,g6,hrun⟩:=Ok ho hT hk hInv h1 hc hcl h2 hne hbytes h63
 obtain ⟨i,d,zz,hi,hu,hz,_,hzz,hd⟩:=TyI.inv hT
 rw [hk] at hd;simp at hd
 obtain ⟨rfl,ie,hie,ze,hze,hzs,hek2,heb,hez2,hone⟩:=hd
 have hb:Below w.heap.size w w.drew:=(Below.refl _ _).drew
 obtain ⟨d1,d2⟩:=hInv.below (w':=w.drew) hb
 have hz1:=zero_one hone (cap-(n+news.length))
 obtain ⟨e1,e2⟩:=d1.newBox (c:=c.take (n*I.ek)++news.flatten.map .d++(Builtin.zeroCells ⟨I.ez⟩ (cap-(n+news.length))).toList.map fun v => .d (.v v)) (C:=us.toArray++vs.toArray++Builtin.zeroCells ⟨I.ez⟩ (cap-(n+news.length))) (ty:=I.elem)
  (by
   simp only [Array.toList_append,List.toList_toArray]
   exact (((Am.step d2 _ _ g3).append (Am.step d2 _ _ g5)).append (Hj _ hz1)))
  (by
   intro v hv
   simp only [Array.toList_append,List.toList_toArray,List.mem_append] at hv
   rcases hv with (hv|hv)|hv
   ·exact g4 v hv
   ·exact N7 g5 v hv
   ·exact hz1 v hv)
 refine Acc hrun (hn (cap,_) ⟨g1,g2,?_,?_⟩ _ _ _ (d2.trans hInv e2) e1 ?_)
 ·simp [size_zeroCells]
 ·generalize (Builtin.zeroCells ⟨I.ez⟩ (cap-(n+news.length))).toList=l
  induction l with
  |nil=>rfl
  |cons v l ih=>simp only [List.map_cons,PV.ltL,PV.lt,Bool.true_and];exact ih
 ·simp only [Rep]
  exact ⟨w.heap.size,by show (K.β ++ [_])[_]? = _;rw [<- hInv.lenβ];simp,rfl⟩
theorem Ac5 {t:TypeId} {I:TyI} (ho:o.op = .buildSlice t 0 #[]) (hI:TyI.of P t=some I) (hk:I.kind=2):OpS P o F S (.bsl I.ek S.boxes.length 0 0 0) (S.addBox []) :=
 OpS.val fun K w ρ hInv h=>by
  obtain ⟨cs,hrun,hr,hcs,hds⟩:=Ge (P:=P) (F:=F) (ρ := ρ) (S:=S) (len:=0) (ps := #[]) (out:=[]) (ds:=[]) hInv hI hk (by omega) (by simp [Op.operands]) rfl (by simp [L2,Kc,Cv]) rfl
  obtain ⟨g1,g2⟩:=hInv.newBox (c:=[]) (C:=cs) (ty:=I.elem) hr (by
   intro v hv
   have hr2:cs.toList=[]:=hr
   rw [hr2] at hv;cases hv)
  refine ⟨_,_,_,by simp only [execOp,ho,Sem.run_bind,hrun];rfl,g2,g1,?_⟩
  simp only [Rep]
  exact ⟨w.heap.size,by show (K.β ++ [_])[_]? = _;rw [<- hInv.lenβ];simp,rfl⟩
end
section
variable {N:Nat} {ops:Array Oper} {rest:List Oper} {o:Oper} {F:Nat->PV} {S S':PS} {q:WRes->Prop} {c:Operand} {al:Array Operand} {ats:Array TypeId} {f:Nat} {caps args:List PV} {r:PV}
theorem Zo (hD:Aq f args ⟨[],[]⟩ (.ret r) ⟨[],[]⟩) (ha:Rv S (al.toList.map (evP F)++caps) args) (kk:WK Tryz.prog N ops rest (By N o.dst r F) S q)
  (hg:Ah ops F o=some true:=by exact rfl) (ho:o.op = .call { callee := .value c,args:=al,argTypes:=ats }:=by exact rfl) (hv:evP F c = .fn f caps:=by exact rfl) (hfl:r.flat=true:=by exact rfl):WK Tryz.prog N ops (o::rest) F S q:=D3 hg (ops_lend ho hD.1 hv ha hfl hD.2) kk
theorem Ai3 {t:TypeId} (kk:WK Tryz.prog N ops rest (By N o.dst (.bsl (tyi t).ek S.boxes.length 0 0 0) F) (S.addBox []) q) (hg:Ah ops F o=some true:=by exact rfl) (ho:o.op = .buildSlice t 0 #[]:=by exact rfl) (hk:(A5 t&&Nat.beq (tyi t).kind 2)=true:=by exact rfl):WK Tryz.prog N ops (o::rest) F S q:=by
 simp only [Bool.and_eq_true] at hk
 exact D3 hg (Ac5 ho (E8 t hk.1) (Nat.eq_of_beq_eq_true hk.2)) kk
variable {ch:Nat->Bool} {us:List (Nat×List Nat)} {k:Nat} {D:List Nat}
theorem M2 (hD:Aq f args S (.ret r) S') (kk:Bw.WB Tryz.prog N ops ch (Br us) (fun _=>[]) (k+1) rest (By N o.dst r F) S' false D q) (hg:Ah ops F o=some true:=by exact rfl) (ho:o.op = .call { callee := .value c,args:=al,argTypes:=ats }:=by exact rfl) (hv:evP F c = .fn f caps:=by exact rfl) (ha:Fu S (al.toList.map (evP F)++caps) args:=by repeat (first|exact Ad|refine Ab (Ac _) ?_)) (hc:ch k=true:=by first|exact rfl|kernel_rfl) (hA:AgK ops k us S S':=by repeat (first|exact Oi|refine E9 (A3 rfl Dz) ?_)):Bw.WB Tryz.prog N ops ch (Br us) (fun _=>[]) k (o::rest) F S false D q :=
 Zy (Pa ho hD.1 hv ha hD.2) kk hg hc hA
variable {x y:Operand} {ty:TypeId} {id n cap:Nat} {cb:List PV}
theorem Ai6 {Q:Exit->(Nat->PV)->PS->Prop} (news:List (List DV)) (hne:news≠[]) (hcl:n*(tyi ty).ek<=cb.length) (hbytes:(n+news.length)*(tyi ty).eb<=140737488355328) (h63:n+news.length<=9223372036854775807) (hy:Aei S (evP F y) (tyi ty).ek news)
  (kk:∀ (cap:Nat) (zs:List PV),n+news.length<=cap->cap<=9223372036854775807->zs.length=(cap-(n+news.length))*(tyi ty).ez.length->PV.ltL 0 0 zs=true->WS Tryz.prog N ops rest (By N o.dst (.bsl (tyi ty).ek S.boxes.length 0 (n+news.length) cap) F) (S.addBox (cb.take (n*(tyi ty).ek)++news.flatten.map .d++zs)) Q)
  (hg:Ah ops F o=some true:=by exact rfl) (ho:o.op = .call { callee := .builtin .append,args := #[x,y],argTypes := #[ty,ty] }:=by exact rfl) (hk:(A5 ty&&Nat.beq (tyi ty).kind 2)=true:=by exact rfl) (hx:evP F x = .bsl (tyi ty).ek id 0 n n:=by exact rfl) (hcb:S.boxes[id]? = some cb:=by exact rfl):WS Tryz.prog N ops (o::rest) F S Q:=by
 simp only [Bool.and_eq_true] at hk
 exact ws_all hg (opa_appG ho (E8 ty hk.1) (Nat.eq_of_beq_eq_true hk.2) hx hcb hcl hy hne hbytes h63) fun i hi=>kk i.1 i.2 hi.1 hi.2.1 hi.2.2.1 hi.2.2.2
end
@[reducible] def rvC (a b c:Int):List PV:=[Ak (a.tmod 10000),Ak (b.tmod 10000),Ak (c.tmod 10000)]
set_option maxHeartbeats 1000000 in
theorem Ah8 (a b c:Int) (ha : -32768<=a/\a<=32767) (hb : -32768<=b/\b<=32767) (hc : -32768<=c/\c<=32767):Aq 8 [.agg [Hz a,Hz b,Hz c]] ⟨[],[]⟩ (.ret (.bsl 1 1 0 3 3)) ⟨[[Hz a,Hz b,Hz c],rvC a b c],[]⟩:=by
 refine ⟨enters_of Tryz.func8 rfl rfl,Jc Tryz.func8 rfl (Nat.le_of_ble_eq_true rfl) ?_⟩
 repeat' (first|refine rl1 ?_|refine rs1 ?_ ?_<;>intro h|fail)
 refine Aca (n:=3) (.int .i64 0) rfl rfl rfl rfl rfl rfl rfl (by show 8*3<=_;omega) (by omega) ?_
 repeat' (first|refine rl1 ?_|refine rs1 ?_ ?_<;>intro h|fail)
 refine B2 (ι := Nat) (ok:=fun i=>i<=3) (L:=fun i=>[(1,.ptr 0 0),(3,.bsl 1 1 0 3 3),(4,Ak i)]) (Sx:=fun i=>⟨[[Hz a,Hz b,Hz c],rvB a b c i],[]⟩) (μ := fun i=>3-i) 0 (Nat.zero_le _) (by repeat (first|exact Ae|refine Aa rfl ?_)) rfl ?_
 rintro i hi
 repeat' (first|refine rl1 ?_|refine rs1 ?_ ?_<;>intro h|fail)
 ·have hlt:i<3:=by have:=of_decide_eq_true h;omega
  have h3:i=0\/i=1\/i=2:=by omega
  have ga:=E7 a
  have gb:=E7 b
  have gc:=E7 c
  rcases h3 with rfl|rfl|rfl
  ·refine wst rfl rfl ⟨by omega,by show _<(3:Int);omega⟩ ?_
   repeat' (first|refine rl1 ?_|refine rs1 ?_ ?_<;>intro h|fail)
   refine wst rfl rfl ⟨by show (-9223372036854775808:Int)<=_;omega,by show _<=(9223372036854775807:Int);omega⟩ ?_
   repeat' (first|refine rl1 ?_|refine rs1 ?_ ?_<;>intro h|fail)
   refine Ub (b:=10000) (by decide) ?_
   repeat' (first|refine rl1 ?_|refine rs1 ?_ ?_<;>intro h|fail)
   exact ⟨1,by omega,by omega,(by repeat (first|exact Ae|refine Aa rfl ?_)),rfl⟩
  ·refine wst rfl rfl ⟨by omega,by show _<(3:Int);omega⟩ ?_
   repeat' (first|refine rl1 ?_|refine rs1 ?_ ?_<;>intro h|fail)
   refine wst rfl rfl ⟨by show (-9223372036854775808:Int)<=_;omega,by show _<=(9223372036854775807:Int);omega⟩ ?_
   repeat' (first|refine rl1 ?_|refine rs1 ?_ ?_<;>intro h|fail)
   refine Ub (b:=10000) (by decide) ?_
   repeat' (first|refine rl1 ?_|refine rs1 ?_ ?_<;>intro h|fail)
   exact ⟨2,by omega,by omega,(by repeat (first|exact Ae|refine Aa rfl ?_)),rfl⟩
  ·refine wst rfl rfl ⟨by omega,by show _<(3:Int);omega⟩ ?_
   repeat' (first|refine rl1 ?_|refine rs1 ?_ ?_<;>intro h|fail)
   refine wst rfl rfl ⟨by show (-9223372036854775808:Int)<=_;omega,by show _<=(9223372036854775807:Int);omega⟩ ?_
   repeat' (first|refine rl1 ?_|refine rs1 ?_ ?_<;>intro h|fail)
   refine Ub (b:=10000) (by decide) ?_
   repeat' (first|refine rl1 ?_|refine rs1 ?_ ?_<;>intro h|fail)
   exact ⟨3,by omega,by omega,(by repeat (first|exact Ae|refine Aa rfl ?_)),rfl⟩
 ·obtain rfl:i=3:=by have:=of_decide_eq_false h;omega
  exact ⟨.inr rfl,rfl,_,Bm rfl,rfl⟩
section
variable {F:Fence} {n:Nat} {P:Program} {Q:Exit->Act->World->Prop} {l l1 l2 l':List Oper} {a:Act} {w:World}
def AL (F:Fence) (n:Nat) (P:Program) (Q:Exit->Act->World->Prop) (l:List Oper) (a:Act) (w:World):Prop :=
 ∀ li,Lin l.toArray l.toArray.size (Array.replicate l.toArray.size false) li->wpOpsIn F n P l.toArray Q li a w
theorem al_any (h:wpAnyIn F n P .any l.toArray Q l.toArray.size (Array.replicate l.toArray.size false) a w):AL F n P Q l a w:=fun li hl=>P6 hl _ _ h
theorem Ah2 (m i:Nat):(Array.replicate m false).getD i false=false:=by
 simp only [Array.getD_eq_getD_getElem?,Array.getElem?_replicate]
 split<;>rfl
theorem al_ren {σ : Nat->Nat} {x y:Nat} (r:Ren l.toArray l'.toArray σ x y) (hxy:x≠y) (h:AL F n P Q l' a w) {li:List Nat} (hl:Lin l.toArray l.toArray.size (Array.replicate l.toArray.size false) li) (hb:bef y x li):wpOpsIn F n P l.toArray Q li a w:=by
 have h3:=Yq r hxy hl (Array.replicate l'.toArray.size false) (by simp) (by have:=r.size;simpa using this) (fun i=>by rw [Ah2,Ah2]) (.inr hb)
 refine Hr r li _ _ (h _ ?_)
 rw [r.size] at h3 |-
 exact h3
theorem al_two {σ1 σ2:Nat->Nat} {x y:Nat} (hxy:x≠y) (r1:Ren l.toArray l1.toArray σ1 y x) (r2:Ren l.toArray l2.toArray σ2 x y) (h1:AL F n P Q l1 a w) (h2:AL F n P Q l2 a w):AL F n P Q l a w:=fun li hl=>by
 rcases Ol hxy li with h|h
 ·exact al_ren r1 (Ne.symm hxy) h1 hl h
 ·exact al_ren r2 hxy h2 hl h
theorem Abl (l:List Oper) (k x y:Nat) (hk:k+1<l.length):Ren l.toArray ((B6 k l).map (Adi (swp k))).toArray (swp k) x y:=by
 refine ⟨by simp [I6],fun i h=>?_,Aiq k,fun i o ho=>?_⟩
 ·simp only [List.size_toArray] at h |-
  exact swp_lt hk h
 ·simp only [List.getElem?_toArray] at ho |-
  rw [List.getElem?_map,Px k l i hk,ho]
  refine ⟨_,rfl,rfl,rfl,rfl,rfl,rfl,fun e' he' hb => .inl ?_,fun e he hb=>?_⟩
  ·simp only [Adi,Array.mem_map] at he'
   obtain ⟨e,he,rfl⟩:=he'
   exact ⟨e,he,by cases e;exact hb,rfl⟩
  ·exact ⟨⟨swp k e.on,e.ground⟩,by simp only [Adi,Array.mem_map];exact ⟨e,he,rfl⟩,by cases e;exact hb,rfl⟩
theorem al_swap (k:Nat) (hk:k+1<l.length) (h:AL F n P Q ((B6 k l).map (Adi (swp k))) a w):AL F n P Q l a w:=al_two (x:=0) (y:=1) (by decide) (Abl l k 1 0 hk) (Abl l k 0 1 hk) h h
theorem Ah0 {id:Nat} (hm:P.follows .mixedOrders=true) (h:AL F n P Q l a { w with drawn:=w.drawn+1 }):(Code.region id l.toArray true).wpIn F n P Q a w:=by
 refine wpIn_region_draw fun t=>?_
 simp only [Region.schedule,hm,Bool.true_or,if_true,Region.linearise]
 exact h _ (lin_go l.toArray l.toArray.size t (Array.replicate l.toArray.size false))
end
structure PA (P:Program) (N:Nat) (l:List Oper) (Q:Exit->(Nat->PV)->PS->Prop) (F:Nat->PV) (S:PS):Prop where
 run:∀ (ro:Option Nat) (mm:Nat) (K:Kx) (w:World) (a:Act),Inv K S w->FrameRep K w N F a->AL (fen ro) mm P (QC K w a.defers N Q) l a { w with drawn:=w.drawn+1 }
section
variable {P:Program} {N:Nat} {F:Nat->PV} {S:PS} {Q:Exit->(Nat->PV)->PS->Prop} {id:Nat} {l l' l1 l2:List Oper}
theorem pw_pa (h:PA Tryz.prog N l Q F S) (hm:Tryz.prog.follows .mixedOrders=true:=by exact rfl):PW Tryz.prog N (.region id l.toArray true) Q F S:=⟨fun ro mm K w a hI hF=>Ah0 hm (h.run ro mm K w a hI hF)⟩
theorem Wq (ch:Nat->Bool) (us:List (Nat×List Nat)) (h:Bw.WB P N l.toArray ch (Br us) (fun _=>[]) 0 l F S false [] (Y7 Q)) (hB:L3 l.toArray ch=true:=by kernel_rfl):PA P N l Q F S:=⟨fun ro mm K w a hI hF=>by
 obtain ⟨res,h1,h2⟩:=h.ex
 exact al_any (Bw.wpAny_walkA hB h1 hI hF (Ip h2))⟩
theorem Cu (k:Nat) (e:(B6 k l).map (Adi (swp k))=l') (h:PA P N l' Q F S) (hk:Nat.blt (k+1) l.length=true:=by kernel_rfl):PA P N l Q F S:=by
 subst e
 exact ⟨fun ro mm K w a hI hF=>al_swap k (Nat.blt_eq▸hk) (h.run ro mm K w a hI hF)⟩
theorem Q9 (k:Nat) (e1:mkE k (k+1) l=l1) (e2:mkE k (k+1) ((B6 k l).map (Adi (swp k)))=l2) (h1:PA P N l1 Q F S) (h2:PA P N l2 Q F S) (hk:Nat.blt (k+1) l.length=true:=by kernel_rfl):PA P N l Q F S:=by
 subst e1 e2
 exact ⟨fun ro mm K w a hI hF=>al_two (by omega) (W9 l k) (Rd l k (Nat.blt_eq▸hk)) (h1.run ro mm K w a hI hF) (h2.run ro mm K w a hI hF)⟩
end
section
variable {N:Nat} {ops:Array Oper} {rest:List Oper} {o:Oper} {F:Nat->PV} {S:PS} {q:WRes->Prop} {ch:Nat->Bool} {us:List (Nat×List Nat)} {k:Nat} {bm:Bool} {D:List Nat} {x y:Operand} {ty yt:TypeId} {id n:Nat} {cb:List PV} {r:PV}
theorem Uo {kd:IntKind} {a b:Int} (hb:b≠0) (kk:Bw.WB Tryz.prog N ops ch (Br us) (fun _=>[]) (k+1) rest (By N o.dst (.d (.v (.int kd (a.tmod b)))) F) S bm D q) (hg:Ah ops F o=some true:=by exact rfl) (ho:o.op = .binOp .rem ty x y yt:=by exact rfl) (hx:evP F x = .d (.v (.int kd a)):=by exact rfl) (hy:evP F y = .d (.v (.int kd b)):=by exact rfl) (hc:ch k=false:=by first|exact rfl|kernel_rfl):Bw.WB Tryz.prog N ops ch (Br us) (fun _=>[]) k (o::rest) F S bm D q:=Ry (fun _ _=>Sz ho hx hy hb) kk hg hc
theorem Ul (olds news:List (List DV)) (hne:news≠[]) (hcl:cb.take (n*(tyi ty).ek)=olds.flatten.map .d) (hol:olds.length=n) (hko:∀ e∈olds,e.length=(tyi ty).ek) (hbytes:(n+news.length)*(tyi ty).eb<=140737488355328) (h63:n+news.length<=9223372036854775807) (hy:evP F y = .d (.sl (tyi ty).ek news))
  (kk:Bw.WB Tryz.prog N ops ch (Br us) (fun _=>[]) (k+1) rest (By N o.dst (.d (.sl (tyi ty).ek (olds++news))) F) S bm D q) (hg:Ah ops F o=some true:=by exact rfl) (ho:o.op = .call { callee := .builtin .append,args := #[x,y],argTypes := #[ty,ty] }:=by exact rfl) (hk:(A5 ty&&Nat.beq (tyi ty).kind 2)=true:=by exact rfl) (hx:evP F x = .bsl (tyi ty).ek id 0 n n:=by exact rfl) (hU:(Br us k).any (Nat.beq id)=true:=by first|exact rfl|kernel_rfl) (hcb:S.boxes[id]? = some cb:=by exact rfl) (hc:ch k=false:=by first|exact rfl|kernel_rfl):Bw.WB Tryz.prog N ops ch (Br us) (fun _=>[]) k (o::rest) F S bm D q:=by
 simp only [Bool.and_eq_true] at hk
 exact Ry (fun S' ha=>ops_appG ho (E8 ty hk.1) (Nat.eq_of_beq_eq_true hk.2) hx (by rw [ha.boxes id (Yt hU)];exact hcb) hol hcl hko (Ahz (by rw [hy];exact Ac _) hne) hne hbytes h63) kk hg hc
variable {c:Operand} {al:Array Operand} {ats:Array TypeId} {f:Nat} {caps args:List PV}
theorem M1 (hD:Aq f args ⟨[],[]⟩ (.ret r) ⟨[],[]⟩) (ha:Fu S (al.toList.map (evP F)++caps) args) (kk:Bw.WB Tryz.prog N ops ch (Br us) (fun _=>[]) (k+1) rest (By N o.dst r F) S false D q) (hg:Ah ops F o=some true:=by exact rfl) (ho:o.op = .call { callee := .value c,args:=al,argTypes:=ats }:=by exact rfl) (hv:evP F c = .fn f caps:=by exact rfl) (hlt:PV.ltL 0 0 args=true:=by exact rfl) (hlr:r.lt 0 0=true:=by exact rfl) (hc:ch k=true:=by first|exact rfl|kernel_rfl) (hA:AgK ops k us S S:=by repeat (first|exact Oi|refine E9 (A3 rfl Dz) ?_)):Bw.WB Tryz.prog N ops ch (Br us) (fun _=>[]) k (o::rest) F S false D q:=by
 have h:=Ib ho hD.1 hv hlt ha hD.2
 rw [Lm r hlr] at h
 exact Zy h kk hg hc hA
end
def rdL:List (List DV)->Option (List Int)
 |[]=>some []
 |[.v (.int .u32 x)]::r=>match rdL r with
  |some l=>some (x::l)
  |none=>none
 |_::_=>none
def rdP:PV->Option (List Int)
 |.d (.sl 1 l)=>rdL l
 |.d (.v (.slice none 0 0))=>some []
 |_=>none
theorem rdL_ok:∀ {r:List (List DV)} {l:List Int},rdL r=some l->r=l.map B9
 |[],l,h=>by cases h;rfl
 |e::r,l,h=>by
  unfold rdL at h
  split at h
  ·rename_i he;cases he
  ·rename_i x r' he
   cases he
   split at h
   ·rename_i l' hl
    cases h
    rw [rdL_ok hl];rfl
   ·cases h
  ·cases h
theorem W7 {p:PV} {l:List Int} (h:rdP p=some l) (S:PS):Coe S p (B4 l):=by
 unfold rdP at h
 split at h
 ·rw [rdL_ok h];exact Ac _
 ·cases h;exact Gf
 ·cases h
theorem K3 {f:Nat} {args args':List PV} {S S':PS} {out:POut} (h:Aq f args' S out S') (hc:Fu S args args'):Aq f args S out S' :=
 ⟨h.1,fun K w vs hI hA=>h.2 K w vs hI (Fu.rep hI hc hA)⟩
def okB (l:List Int):Bool:=Nat.ble l.length 1000000&&l.all fun x=>decide (0<=x)&&decide (x<1000000000)
theorem Q7 {l:List Int} (h:okB l=true):l.length<=1000000/\∀ x∈l,Af x:=by
 simp only [okB,Bool.and_eq_true] at h
 refine ⟨Nat.le_of_ble_eq_true h.1,fun x hx=>?_⟩
 have:=List.all_eq_true.1 h.2 x hx
 simp only [Bool.and_eq_true,decide_eq_true_eq] at this
 exact this
def orcE:Nat->List PV->PS->Option (POut×PS):=fun f args S=>match S with
 |⟨[],[]⟩=>match args with
  |[.agg [.d (.v (.bool na)),m],.agg [.d (.v (.bool nb)),o]]=>bif Nat.beq f 79 then
    match rdP m,rdP o with
    |some m,some o=>bif okB m&&okB o then some (.ret (whP (!decide (na=nb) && !decide (Bq (mulL m o)=[])) (Bq (mulL m o))),⟨[],[]⟩) else none
    |_,_=>none
   else none
  |[.agg [.d (.v (.bool na)),m]]=>bif Nat.beq f 64 then
    match rdP m with
    |some m=>bif okB m then some (.ret (Ez ⟨(Py na m).toArray⟩),⟨[],[]⟩) else none
    |none=>none
   else none
  |[m,.d (.v (.int .u32 b))]=>bif Nat.beq f 176 then
    match rdP m with
    |some m=>bif okB m&&okB [b]&&decide (0<b) then some (.ret (.tup [B4 (qL b m).1,.d (.v (.int .u32 (qL b m).2))]),⟨[],[]⟩) else none
    |none=>none
   else none
  |[m]=>bif Nat.beq f 146 then
    match rdP m with
    |some m=>bif okB m&&Nat.ble m.length 2 then some (.ret (.d (.v (.int .u64 (Aj m)))),⟨[],[]⟩) else none
    |none=>none
   else none
  |_=>none
 |_=>none
theorem Ahn:P8 orcE:=by
 intro f args S out S' h
 unfold orcE at h
 split at h
 ·split at h
  ·rename_i na m nb o
   cases hb:Nat.beq f 79<;>simp only [hb,cond_true,cond_false] at h
   ·cases h
   ·obtain rfl:=Nat.eq_of_beq_eq_true hb
    split at h
    ·rename_i m' o' h1 h2
     cases hk:(okB m'&&okB o')<;>simp only [hk,cond_true,cond_false] at h
     ·cases h
     ·cases h
      simp only [Bool.and_eq_true] at hk
      obtain ⟨k1,k2⟩:=Q7 hk.1
      obtain ⟨k3,k4⟩:=Q7 hk.2
      exact K3 (mul_do na nb m' o' k2 k4 k1 k3) (Ab (Fa (Ab (Ac _) (Ab (W7 h1 _) Ad))) (Ab (Fa (Ab (Ac _) (Ab (W7 h2 _) Ad))) Ad))
    ·cases h
  ·rename_i na m
   cases hb:Nat.beq f 64<;>simp only [hb,cond_true,cond_false] at h
   ·cases h
   ·obtain rfl:=Nat.eq_of_beq_eq_true hb
    split at h
    ·rename_i m' h1
     cases hk:okB m'<;>simp only [hk,cond_true,cond_false] at h
     ·cases h
     ·cases h
      obtain ⟨k1,k2⟩:=Q7 hk
      exact K3 (Acd na m' k1 k2) (Ab (Fa (Ab (Ac _) (Ab (W7 h1 _) Ad))) Ad)
    ·cases h
  ·rename_i m b
   cases hb:Nat.beq f 176<;>simp only [hb,cond_true,cond_false] at h
   ·cases h
   ·obtain rfl:=Nat.eq_of_beq_eq_true hb
    split at h
    ·rename_i m' h1
     cases hk:(okB m'&&okB [b]&&decide (0<b))<;>simp only [hk,cond_true,cond_false] at h
     ·cases h
     ·cases h
      simp only [Bool.and_eq_true,decide_eq_true_eq] at hk
      obtain ⟨k1,k2⟩:=Q7 hk.1.1
      obtain ⟨_,k4⟩:=Q7 hk.1.2
      exact K3 (Tn m' b k1 k2 (k4 b (by simp)) hk.2) (Ab (W7 h1 _) (Ab (Ac _) Ad))
    ·cases h
  ·rename_i m _
   cases hb:Nat.beq f 146<;>simp only [hb,cond_true,cond_false] at h
   ·cases h
   ·obtain rfl:=Nat.eq_of_beq_eq_true hb
    split at h
    ·rename_i m' h1
     cases hk:(okB m'&&Nat.ble m'.length 2)<;>simp only [hk,cond_true,cond_false] at h
     ·cases h
     ·cases h
      simp only [Bool.and_eq_true] at hk
      obtain ⟨k1,k2⟩:=Q7 hk.1
      exact K3 (T4 m' (Nat.le_of_ble_eq_true hk.2) k2) (Ab (W7 h1 _) Ad)
    ·cases h
  ·cases h
 ·cases h
noncomputable def runV (vars:List ByteArray) (vals:List Int) (x:Ex):Option (POut×PS):=Afm Tryz.prog orcE (fun _=>false) 1000 29 [.agg [Cc vars,Dx vals],exP x] ⟨[],[]⟩
theorem Y8 {vars:List ByteArray} {vals:List Int} {x:Ex} {out:POut} (h:runV vars vals x=some (out,⟨[],[]⟩)):Aq 29 [Ad8 vars vals,exP x] ⟨[],[]⟩ out ⟨[],[]⟩:=Jd Ahn h
theorem rv1:runV [⟨#[120]⟩] [3] (nd 10 [eX,e2])=some (.ret (.agg (resC false [3] false [2] false)),⟨[],[]⟩):=by kernel_rfl
theorem rv2:runV [⟨#[120]⟩] [0] (nd 10 [e1,eX])=some (.panic divV,⟨[],[]⟩):=by kernel_rfl
theorem rv3:runV [⟨#[120]⟩] [0] (nd 18 [nd 11 [eX,e0],nd 15 [nd 10 [e1,eX],e0]])=some (.ret (.agg [An false,.d (.v (.slice none 0 0)),An false,.d (.v (.slice none 0 0)),An true]),⟨[],[]⟩):=by kernel_rfl
theorem tx1:Afm Tryz.prog orcE (fun _=>false) 1000 30 [.agg [An false,B4 [3],An false,B4 [2]]] ⟨[],[]⟩=some (.ret (Ez ⟨#[51,47,50]⟩),⟨[],[]⟩):=by kernel_rfl
theorem ev1:Aq 10 [exP (nd 10 [eX,e2]),Cc [⟨#[120]⟩],Dx [3]] ⟨[],[]⟩ (.ret (.tup [vlP 1 ⟨#[51,47,50]⟩ false,Ak 0])) ⟨[],[]⟩ :=
 Aai _ _ _ (C7 (by decide +kernel)) (by decide +kernel) (by decide +kernel) (by decide +kernel) (by decide +kernel) _ _ _ _ _ _ (Y8 rv1) (Jd Ahn tx1)
theorem ev2:Aq 10 [exP (nd 10 [e1,eX]),Cc [⟨#[120]⟩],Dx [0]] ⟨[],[]⟩ (.ret (.tup [vlP 0 ⟨#[]⟩ false,Ak 2])) ⟨[],[]⟩ :=
 Aah _ _ _ (C7 (by decide +kernel)) (by decide +kernel) (by decide +kernel) (by decide +kernel) (by decide +kernel) (Y8 rv2)
theorem ev3:Aq 10 [exP (nd 18 [nd 11 [eX,e0],nd 15 [nd 10 [e1,eX],e0]]),Cc [⟨#[120]⟩],Dx [0]] ⟨[],[]⟩ (.ret (.tup [vlP 2 ⟨#[]⟩ true,Ak 0])) ⟨[],[]⟩ :=
 Qr _ _ _ (C7 (by decide +kernel)) (by decide +kernel) (by decide +kernel) (by decide +kernel) (by decide +kernel) false [] false [] true
  (Ei (Y8 rv3) (Fa (Ab (Ac _) (Ab Gf (Ab (Ac _) (Ab Gf (Ab (Ac _) Ad)))))))
theorem ev4:Aq 10 [exP e1,Cc [⟨#[120]⟩,⟨#[120]⟩],Dx [1,1]] ⟨[],[]⟩ (.ret (.tup [vlP 0 ⟨#[]⟩ false,Ak 2])) ⟨[],[]⟩ :=
 U9 _ _ _ (C7 (by decide +kernel)) (by decide +kernel) (.inr (by decide +kernel))
theorem Zq {x:Ex} {s:ByteArray} (hs:Rj x=true) (h:Ad5 x=(s,0)):Aq 72 [exP x] ⟨[],[]⟩ (.ret (.tup [Ez s,Ak 0])) ⟨[],[]⟩:=by
 have:=ptext_do x (C7 hs)
 rwa [h] at this
theorem ty_of {x:Ex} {vars:List ByteArray} {a b:Int} (hs:Rj x=true) (h:P0 vars x=(a,b)):Aq 18 [exP x,Cc vars] ⟨[],[]⟩ (.ret (.tup [Ak a,Ak b])) ⟨[],[]⟩:=by
 have:=Aiv vars x (C7 hs)
 rwa [h] at this
theorem nm_of {x:Ex} {l:List ByteArray} {b:Int} (hs:Rj x=true) (h:Lf x=(l,b)):Aq 17 [exP x] ⟨[],[]⟩ (.ret (.tup [Cc l,Ak b])) ⟨[],[]⟩:=by
 have:=Aa2 x (C7 hs)
 rwa [h] at this
def wx1:Ex:=nd 9 [nd 7 [e1,e2],eX]
def wx2:Ex:=nd 8 [e1,nd 8 [e2,e3]]
def wx3:Ex:=nd 6 [nd 6 [eT]]
def wx4:Ex:=nd 7 [nd 19 [eT,e1,e2],e3]
def wx5:Ex:=nd 7 [e1,nd 19 [eT,e2,e3]]
def wx6:Ex:=nd 17 [nd 13 [e1,e2],eT]
def wx7:Ex:=nd 5 [nd 7 [e1,e2]]
def ws1:ByteArray:=⟨#[40,32,49,32,43,32,50,32,41,32,42,32,120]⟩
def ws2:ByteArray:=⟨#[49,32,45,32,40,32,50,32,45,32,51,32,41]⟩
def ws3:ByteArray:=⟨#[110,111,116,32,110,111,116,32,116,114,117,101]⟩
def ws4:ByteArray:=⟨#[40,32,105,102,32,116,114,117,101,32,116,104,101,110,32,49,32,101,108,115,101,32,50,32,41,32,43,32,51]⟩
def ws5:ByteArray:=⟨#[49,32,43,32,40,32,105,102,32,116,114,117,101,32,116,104,101,110,32,50,32,101,108,115,101,32,51,32,41]⟩
def ws6:ByteArray:=⟨#[49,32,60,32,50,32,97,110,100,32,116,114,117,101]⟩
def ws7:ByteArray:=⟨#[45,32,40,32,49,32,43,32,50,32,41]⟩
def factsW:List Im:=[
 (36,[Ez txt1,exP (nd 8 [nd 7 [e1,nd 9 [e2,eX]],e3]),Ak 7],.ret (An true)),(36,[Ez txt2,exP (nd 13 [e1,eX]),Ak 3],.ret (An true)),(36,[Ez txt4,exP (nd 7 [e1,nd 5 [e2]]),Ak 4],.ret (An true)),
 (36,[Ez txt5,exP (nd 6 [e1]),Ak 2],.ret (An true)),(37,[Ez txt3,Ak 3,Ak 350],.ret (An true)),(37,[Ez txt6,Ak 0,Ak 350],.ret (An true)),
 (72,[exP wx1],.ret (.tup [Ez ws1,Ak 0])),(72,[exP wx2],.ret (.tup [Ez ws2,Ak 0])),(72,[exP wx3],.ret (.tup [Ez ws3,Ak 0])),(72,[exP wx4],.ret (.tup [Ez ws4,Ak 0])),
 (72,[exP wx5],.ret (.tup [Ez ws5,Ak 0])),(72,[exP wx6],.ret (.tup [Ez ws6,Ak 0])),(72,[exP wx7],.ret (.tup [Ez ws7,Ak 0])),
 (18,[exP (nd 7 [eX,e1]),Cc [⟨#[120]⟩]],.ret (.tup [Ak 1,Ak 0])),(18,[exP eX,Cc []],.ret (.tup [Ak 0,Ak 351])),(18,[exP (nd 6 [e1]),Cc []],.ret (.tup [Ak 0,Ak 351])),(18,[exP (nd 19 [eT,e1,eF]),Cc []],.ret (.tup [Ak 0,Ak 351])),
 (10,[exP (nd 10 [eX,e2]),Cc [⟨#[120]⟩],Dx [3]],.ret (.tup [vlP 1 ⟨#[51,47,50]⟩ false,Ak 0])),(10,[exP (nd 10 [e1,eX]),Cc [⟨#[120]⟩],Dx [0]],.ret (.tup [vlP 0 ⟨#[]⟩ false,Ak 2])),
 (10,[exP (nd 18 [nd 11 [eX,e0],nd 15 [nd 10 [e1,eX],e0]]),Cc [⟨#[120]⟩],Dx [0]],.ret (.tup [vlP 2 ⟨#[]⟩ true,Ak 0])),(10,[exP e1,Cc [⟨#[120]⟩,⟨#[120]⟩],Dx [1,1]],.ret (.tup [vlP 0 ⟨#[]⟩ false,Ak 2])),
 (17,[exP (nd 7 [eY,nd 9 [eX,eY]])],.ret (.tup [Cc [⟨#[121]⟩,⟨#[120]⟩],Ak 0]))]
theorem Afo:∀ e∈factsW,Im.holds e :=
 A4 reads1 (A4 reads2 (A4 reads4 (A4 reads5 (A4 fails3 (A4 fails6
 (A4 (Zq (by decide +kernel) (by decide +kernel)) (A4 (Zq (by decide +kernel) (by decide +kernel)) (A4 (Zq (by decide +kernel) (by decide +kernel)) (A4 (Zq (by decide +kernel) (by decide +kernel))
 (A4 (Zq (by decide +kernel) (by decide +kernel)) (A4 (Zq (by decide +kernel) (by decide +kernel)) (A4 (Zq (by decide +kernel) (by decide +kernel))
 (A4 (ty_of (by decide +kernel) (by decide +kernel)) (A4 (ty_of (by decide +kernel) (by decide +kernel)) (A4 (ty_of (by decide +kernel) (by decide +kernel)) (A4 (ty_of (by decide +kernel) (by decide +kernel))
 (A4 ev1 (A4 ev2 (A4 ev3 (A4 ev4 (A4 (nm_of (by decide +kernel) (by decide +kernel)) Afp)))))))))))))))))))))
theorem Ai5:Afm Tryz.prog (orcT factsW) (fun _=>false) 1000 12 [] ⟨[],[]⟩=some (.ret (An true),⟨[],[]⟩):=by kernel_rfl
theorem works_do:Aq 12 [] ⟨[],[]⟩ (.ret (An true)) ⟨[],[]⟩:=Jd (orcT_ok Afo) Ai5
mutual
theorem Zt:∀ (x:Ex) (l:List ByteArray),(Kq l x).length<=l.length+(Ik x).length
 |.mk o n s a,l=>by
  rw [Kq,Ik]
  refine Nat.le_trans (Ui a _) ?_
  split<;>simp<;>omega
theorem Ui:∀ (a:List Ex) (l:List ByteArray),(Gr l a).length<=l.length+(Ce a).length
 |[],l=>by simp [Gr]
 |x::r,l=>by
  rw [Gr,Ce,List.length_append]
  have h1:=Zt x l
  have h2:=Ui r (Kq l x)
  omega
end
theorem Agr {x:Ex} (h:Bi x=0):(Kq [] x).length<=1000000:=by
 obtain ⟨k,hk⟩:=Option.isSome_iff_exists.1 ((Eb x).1 h)
 have h1:=(T5 x _ _ _ hk).1
 have h2:=Zt x []
 simp at h2;omega
theorem Gy (S:PS):Aq 7 [] S (.ret (.hd S.toks.length 0)) (S.addTok ⟨0,1,A2.map Aby,9⟩):=by
 refine ⟨enters_of Tryz.func7 rfl rfl,Jc Tryz.func7 rfl (Nat.le_of_ble_eq_true rfl) ?_⟩
 refine Cd ?_
 refine A6 ?_
 refine wst rfl rfl trivial ?_
 refine Ck ?_
 refine Cd ?_
 refine A6 ?_
 refine D3 (r := .hd S.toks.length 0) (S':=S.addTok ⟨0,1,A2.map Aby,9⟩) rfl (Tt E8 rfl (C:=True) rfl) ?_
 refine wst rfl rfl trivial ?_
 refine Ck ?_
 refine Fk ?_
 exact ⟨.inr rfl,rfl,_,Bm rfl,rfl⟩
theorem Agh (x:Ex) (vals:List Int) (hs:x.small):Aq 14 [exP x,Dx vals] ⟨[],[]⟩ (.ret (.tup [vrP (evR A2 vals x).1,Ak (evR A2 vals x).2])) ⟨[],[]⟩:=by
 have h:=Aag x A2 vals hs
 have hv:=Aiy
 generalize evR A2 vals x=R at *
 obtain ⟨⟨t,s,y⟩,e⟩:=R
 refine Ag Tryz.func14 rfl rfl (Nat.le_of_ble_eq_true rfl) rfl (Nat.le_refl _) ?_
 repeat' (first|refine rl2 ?_|refine rs2 ?_ ?_<;>intro h|fail)
 refine b0 (fun k=>Nat.beq k 6) [(0,[0])] ?_
 repeat' (first|refine rl7 ?_|refine rs7 ?_ ?_<;>intro h|fail)
 refine A9 hv ?_
 repeat' (first|refine rl7 ?_|refine rs7 ?_ ?_<;>intro h|fail)
 refine A9 h ?_
 repeat' (first|refine rl7 ?_|refine rs7 ?_ ?_<;>intro h|fail)
 repeat' (first|refine rl2 ?_|refine rs2 ?_ ?_<;>intro h|fail)
 rfl
theorem V5 {l:List ByteArray} {s x:ByteArray} {i:Nat} (hx:l[i]? = some x):Fj (l.take (i+1)) s=(Fj (l.take i) s||decide (x=s)):=by
 obtain ⟨hlt,rfl⟩:=List.getElem?_eq_some_iff.1 hx
 unfold Fj
 rw [List.take_succ_eq_append_getElem hlt,List.any_append];simp
theorem Vn (l:List Int):∀ e∈l.map (fun n=>[DV.v (.int .i64 n)]),e.length=1:=by
 intro e he
 obtain ⟨z,_,rfl⟩:=List.mem_map.1 he
 rfl
theorem Ej (t:Int) (s:ByteArray) (y:Bool):eqAg Tryz.prog 42 [Ak t,Ez s,An y] [Ak t,Ez s,An y]=some true:=by
 have h:eqAg Tryz.prog 42 [Ak t,Ez s,An y] [Ak t,Ez s,An y]=match decide (t=t) with|true=>(match decide (s=s) with|true=>(match decide (y=y) with|true=>some true|false=>some false)|false=>some false)|false=>some false:=by kernel_rfl
 rw [h];simp
section
variable {N:Nat} {ops:Array Oper} {rest:List Oper} {o:Oper} {F:Nat->PV} {S:PS} {q:WRes->Prop} {ty yt:TypeId} {x y:Operand} {l l':List PV}
theorem wneI {b:Bool} (kk:WK Tryz.prog N ops rest (By N o.dst (.d (.v (.bool (!b)))) F) S q) (h:eqAg Tryz.prog ty l l'=some b) (hg:Ah ops F o=some true:=by exact rfl) (ho:o.op = .binOp .neq ty x y yt:=by exact rfl) (hx:evP F x = .agg l:=by exact rfl) (hy:evP F y = .agg l':=by exact rfl):WK Tryz.prog N ops (o::rest) F S q:=D3 hg (Abb ho hx hy h) kk
theorem weqI {b:Bool} (kk:WK Tryz.prog N ops rest (By N o.dst (.d (.v (.bool b))) F) S q) (h:eqAg Tryz.prog ty l l'=some b) (hg:Ah ops F o=some true:=by exact rfl) (ho:o.op = .binOp .eql ty x y yt:=by exact rfl) (hx:evP F x = .agg l:=by exact rfl) (hy:evP F y = .agg l':=by exact rfl):WK Tryz.prog N ops (o::rest) F S q:=D3 hg (Aba ho hx hy h) kk
end
@[reducible] def igS (x:Ex) (a b c t:Int) (s:ByteArray) (y:Bool):PS:=⟨[[Hz a,Hz b,Hz c],(exP x).parts,[Hz a,Hz b,Hz c],rvC a b c,[Ak t,Ez s,An y]],[]⟩
set_option maxHeartbeats 4000000 in
theorem Vp (l:List UInt8) (want:Nat) (a b c o:Int) (x:Ex) (names:List ByteArray) (t:Int) (s:ByteArray) (y:Bool) (e:Int) (hwt:want<256) (hnl:names.length<=1000000) (hob : -32768<=o/\o<=32767) (hwk:Aq 12 [] ⟨[],[]⟩ (.ret (An true)) ⟨[],[]⟩)
  (hm:Aq 13 [G6 l,Ak (1+((want % 2:Nat):Int))] ⟨[],[]⟩ (.ret (exP x)) ⟨[],[]⟩) (hbox:Aq 8 [.agg [Hz a,Hz b,Hz c]] ⟨[],[]⟩ (.ret (.bsl 1 1 0 3 3)) ⟨[[Hz a,Hz b,Hz c],rvC a b c],[]⟩)
  (hv1:Aq 14 [exP x,Dx (Dq a b c)] ⟨[],[]⟩ (.ret (.tup [vlP t s y,Ak e])) ⟨[],[]⟩) (hnm:Aq 17 [exP x] ⟨[],[]⟩ (.ret (.tup [Cc names,Ak 0])) ⟨[],[]⟩) (hty:Aq 18 [exP x,Cc names] ⟨[],[]⟩ (.ret (.tup [Ak (1+((want % 2:Nat):Int)),Ak 0])) ⟨[],[]⟩)
  (he:e=2\/e=0/\t=1+((want % 2:Nat):Int)) (hset:∀ i,i<3->∃ t' s' y' e',Aq 14 [exP x,Dx ((Dq a b c).set i (o.tmod 10000))] ⟨[],[]⟩ (.ret (.tup [vlP t' s' y',Ak e'])) ⟨[],[]⟩/\(Fj names (A2.getD i ⟨#[]⟩)=false->t'=t/\s'=s/\y'=y/\e'=e))
  (hlast:Aq 10 [exP x,Cc (A2++[wB]),Dx (Dq a b c++[o.tmod 10000])] ⟨[],[]⟩ (.ret (.tup [vlP t s y,Ak e])) ⟨[],[]⟩) :
  Aq 5 [G6 l,.d (.v (.int .u8 want)),.agg [Hz a,Hz b,Hz c],Hz o] ⟨[],[]⟩ (.ret (An true)) ⟨[],[]⟩:=by
 have hvars:=Aiy
 have hlv:Lend ⟨[[Hz a,Hz b,Hz c],(exP x).parts,[Hz a,Hz b,Hz c],rvC a b c],[]⟩ (.bsl 1 3 0 3 3) (Dx (Dq a b c)):=H0 (k:=1) (id:=3) (n:=3) (cap:=3) (c:=rvC a b c) rfl rfl rfl (Vn _) (by decide) (by decide) rfl
 refine Ag Tryz.func5 rfl rfl (Nat.le_of_ble_eq_true rfl) rfl (Nat.le_refl _) ?_
 repeat' (first|refine rl2 ?_|refine rs2 ?_ ?_<;>intro h|fail)
 refine wp1 hwk ?_
 repeat' (first|refine rl2 ?_|refine rs2 ?_ ?_<;>intro h|fail)
 refine wst rfl rfl ⟨(by show (-9223372036854775808:Int)<=_;omega),(by show _<=(9223372036854775807:Int);omega)⟩ ?_
 repeat' (first|refine rl2 ?_|refine rs2 ?_ ?_<;>intro h|fail)
 refine wp1 hm ?_
 repeat' (first|refine rl2 ?_|refine rs2 ?_ ?_<;>intro h|fail)
 refine wnew (r' := .bsl 1 3 0 3 3) hbox rfl rfl ?_
 repeat' (first|refine rl2 ?_|refine rs2 ?_ ?_<;>intro h|fail)
 refine Zo hv1 ?_ ?_
 ·exact B3 (Gj rfl) (B3 hlv Gi)
 repeat' (first|refine rl2 ?_|refine rs2 ?_ ?_<;>intro h|fail)
 refine wp1 hnm ?_
 repeat' (first|refine rl2 ?_|refine rs2 ?_ ?_<;>intro h|fail)
 refine wp1 hty ?_
 repeat' (first|refine rl2 ?_|refine rs2 ?_ ?_<;>intro h|fail)
 rcases he with rfl|⟨rfl,rfl⟩
 ·refine wst rfl rfl ⟨(by show (-9223372036854775808:Int)<=_;omega),(by show _<=(9223372036854775807:Int);omega)⟩ ?_
  repeat' (first|refine rl2 ?_|refine rs2 ?_ ?_<;>intro h|fail)
  all_goals try (exfalso;simp at h;done)
  refine wp1 hvars ?_
  repeat' (first|refine rl2 ?_|refine rs2 ?_ ?_<;>intro h|fail)
  refine Tf (ι := Nat) (ok:=fun i=>i<=3) (L:=fun i=>[(3,Hz o),(8,An false),(9,.ptr 1 0),(10,.bsl 1 3 0 3 3),(11,.ptr 4 0),(12,Ak 2),(13,Cc names),(17,Cc A2),(18,Ak i)]) (Sx:=fun _=>igS x a b c t s y) (μ := fun i=>3-i) 0 (Nat.zero_le _) (by repeat (first|exact Ae|refine Aa rfl ?_)) rfl ?_
  rintro i hi
  repeat' (first|refine rl2 ?_|refine rs2 ?_ ?_<;>intro h|fail)
  rotate_left
  ·refine pw_pa ?_
   refine Cu 13 (by dsimp only [B6,List.map]) ?_
   refine Cu 12 (by dsimp only [B6,List.map]) ?_
   refine Cu 11 (by dsimp only [B6,List.map]) ?_
   refine Q9 10 (by dsimp only [mkE]) (by dsimp only [mkE,B6,List.map]) ?_ ?_
   ·refine Wq (fun k=>Nat.beq k 1||Nat.beq k 3||Nat.beq k 10||Nat.beq k 11||Nat.beq k 15) [(0,[1]),(9,[3])] ?_
    repeat' (first|refine rl7 ?_|refine rs7 ?_ ?_<;>intro h|fail)
    refine M2 (Gy _) ?_
    repeat' (first|refine rl7 ?_|refine rs7 ?_ ?_<;>intro h|fail)
    refine b3 ?_ (hC:=by exact ⟨(by show (-9223372036854775808:Int)<=_;omega),(by show _<=(9223372036854775807:Int);omega)⟩)
    repeat' (first|refine rl7 ?_|refine rs7 ?_ ?_<;>intro h|fail)
    refine Uo (b:=10000) (by decide) ?_
    repeat' (first|refine rl7 ?_|refine rs7 ?_ ?_<;>intro h|fail)
    refine Ul (id:=3) (n:=3) (cb:=rvC a b c) ((Dq a b c).map fun n=>[DV.v (.int .i64 n)]) [[.v (.int .i64 (o.tmod 10000))]] (by simp) rfl rfl (Vn _) (Nat.le_of_ble_eq_true rfl) (Nat.le_of_ble_eq_true rfl) rfl ?_
    repeat' (first|refine rl7 ?_|refine rs7 ?_ ?_<;>intro h|fail)
    refine M1 hlast ?_ ?_
    ·exact Ab (Ac _) (Ab (Gs (C8 rfl)) (Ab (Ac _) Ad))
    repeat' (first|refine rl7 ?_|refine rs7 ?_ ?_<;>intro h|fail)
    repeat' (first|refine rl2 ?_|refine rs2 ?_ ?_<;>intro h|fail)
    refine weqI (h:=Ej _ _ _) ?_
    repeat' (first|refine rl2 ?_|refine rs2 ?_ ?_<;>intro h|fail)
    rfl
   refine Cu 9 (by dsimp only [B6,List.map]) ?_
   refine Cu 8 (by dsimp only [B6,List.map]) ?_
   refine Cu 7 (by dsimp only [B6,List.map]) ?_
   refine Cu 6 (by dsimp only [B6,List.map]) ?_
   refine Cu 5 (by dsimp only [B6,List.map]) ?_
   refine Cu 4 (by dsimp only [B6,List.map]) ?_
   refine Q9 3 (by dsimp only [mkE]) (by dsimp only [mkE,B6,List.map]) ?_ ?_
   ·refine Wq (fun k=>Nat.beq k 1||Nat.beq k 3||Nat.beq k 4||Nat.beq k 11||Nat.beq k 15) [(0,[1]),(10,[3])] ?_
    repeat' (first|refine rl7 ?_|refine rs7 ?_ ?_<;>intro h|fail)
    refine M2 (Gy _) ?_
    repeat' (first|refine rl7 ?_|refine rs7 ?_ ?_<;>intro h|fail)
    refine b3 ?_ (hC:=by exact ⟨(by show (-9223372036854775808:Int)<=_;omega),(by show _<=(9223372036854775807:Int);omega)⟩)
    repeat' (first|refine rl7 ?_|refine rs7 ?_ ?_<;>intro h|fail)
    refine Uo (b:=10000) (by decide) ?_
    repeat' (first|refine rl7 ?_|refine rs7 ?_ ?_<;>intro h|fail)
    refine Ul (id:=3) (n:=3) (cb:=rvC a b c) ((Dq a b c).map fun n=>[DV.v (.int .i64 n)]) [[.v (.int .i64 (o.tmod 10000))]] (by simp) rfl rfl (Vn _) (Nat.le_of_ble_eq_true rfl) (Nat.le_of_ble_eq_true rfl) rfl ?_
    repeat' (first|refine rl7 ?_|refine rs7 ?_ ?_<;>intro h|fail)
    refine M1 hlast ?_ ?_
    ·exact Ab (Ac _) (Ab (Gs (C8 rfl)) (Ab (Ac _) Ad))
    repeat' (first|refine rl7 ?_|refine rs7 ?_ ?_<;>intro h|fail)
    repeat' (first|refine rl2 ?_|refine rs2 ?_ ?_<;>intro h|fail)
    refine weqI (h:=Ej _ _ _) ?_
    repeat' (first|refine rl2 ?_|refine rs2 ?_ ?_<;>intro h|fail)
    rfl
   refine Cu 2 (by dsimp only [B6,List.map]) ?_
   refine Q9 1 (by dsimp only [mkE]) (by dsimp only [mkE,B6,List.map]) ?_ ?_
   ·refine Wq (fun k=>Nat.beq k 1||Nat.beq k 2||Nat.beq k 4||Nat.beq k 11||Nat.beq k 15) [(0,[1]),(10,[3])] ?_
    repeat' (first|refine rl7 ?_|refine rs7 ?_ ?_<;>intro h|fail)
    refine M2 (Gy _) ?_
    repeat' (first|refine rl7 ?_|refine rs7 ?_ ?_<;>intro h|fail)
    refine b3 ?_ (hC:=by exact ⟨(by show (-9223372036854775808:Int)<=_;omega),(by show _<=(9223372036854775807:Int);omega)⟩)
    repeat' (first|refine rl7 ?_|refine rs7 ?_ ?_<;>intro h|fail)
    refine Uo (b:=10000) (by decide) ?_
    repeat' (first|refine rl7 ?_|refine rs7 ?_ ?_<;>intro h|fail)
    refine Ul (id:=3) (n:=3) (cb:=rvC a b c) ((Dq a b c).map fun n=>[DV.v (.int .i64 n)]) [[.v (.int .i64 (o.tmod 10000))]] (by simp) rfl rfl (Vn _) (Nat.le_of_ble_eq_true rfl) (Nat.le_of_ble_eq_true rfl) rfl ?_
    repeat' (first|refine rl7 ?_|refine rs7 ?_ ?_<;>intro h|fail)
    refine M1 hlast ?_ ?_
    ·exact Ab (Ac _) (Ab (Gs (C8 rfl)) (Ab (Ac _) Ad))
    repeat' (first|refine rl7 ?_|refine rs7 ?_ ?_<;>intro h|fail)
    repeat' (first|refine rl2 ?_|refine rs2 ?_ ?_<;>intro h|fail)
    refine weqI (h:=Ej _ _ _) ?_
    repeat' (first|refine rl2 ?_|refine rs2 ?_ ?_<;>intro h|fail)
    rfl
   ·refine Wq (fun k=>Nat.beq k 1||Nat.beq k 2||Nat.beq k 4||Nat.beq k 11||Nat.beq k 15) [(0,[1]),(10,[3])] ?_
    repeat' (first|refine rl7 ?_|refine rs7 ?_ ?_<;>intro h|fail)
    refine M2 (Gy _) ?_
    repeat' (first|refine rl7 ?_|refine rs7 ?_ ?_<;>intro h|fail)
    refine b3 ?_ (hC:=by exact ⟨(by show (-9223372036854775808:Int)<=_;omega),(by show _<=(9223372036854775807:Int);omega)⟩)
    repeat' (first|refine rl7 ?_|refine rs7 ?_ ?_<;>intro h|fail)
    refine Uo (b:=10000) (by decide) ?_
    repeat' (first|refine rl7 ?_|refine rs7 ?_ ?_<;>intro h|fail)
    refine Ul (id:=3) (n:=3) (cb:=rvC a b c) ((Dq a b c).map fun n=>[DV.v (.int .i64 n)]) [[.v (.int .i64 (o.tmod 10000))]] (by simp) rfl rfl (Vn _) (Nat.le_of_ble_eq_true rfl) (Nat.le_of_ble_eq_true rfl) rfl ?_
    repeat' (first|refine rl7 ?_|refine rs7 ?_ ?_<;>intro h|fail)
    refine M1 hlast ?_ ?_
    ·exact Ab (Ac _) (Ab (Gs (C8 rfl)) (Ab (Ac _) Ad))
    repeat' (first|refine rl7 ?_|refine rs7 ?_ ?_<;>intro h|fail)
    repeat' (first|refine rl2 ?_|refine rs2 ?_ ?_<;>intro h|fail)
    refine weqI (h:=Ej _ _ _) ?_
    repeat' (first|refine rl2 ?_|refine rs2 ?_ ?_<;>intro h|fail)
    rfl
  have hi3:i<3:=by have:=of_decide_eq_true h;omega
  refine B2 (ι := Nat) (ok:=fun k=>k<=names.length) (L:=fun k=>[(3,Hz o),(8,An false),(9,.ptr 1 0),(10,.bsl 1 3 0 3 3),(11,.ptr 4 0),(12,Ak 2),(13,Cc names),(17,Cc A2),(18,Ak i),(19,An (Fj (names.take k) (A2.getD i ⟨#[]⟩))),(20,Ak k)]) (Sx:=fun _=>igS x a b c t s y) (μ := fun k=>names.length-k) 0 (Nat.zero_le _) (by repeat (first|exact Ae|refine Aa rfl ?_)) rfl ?_
  rintro k hk
  refine rl2 ?_
  refine rs2 (fun h=>?_) (fun h=>?_)
  ·have hkl:k<names.length:=by have:=of_decide_eq_true h;rw [List.length_map] at this;omega
   obtain ⟨nk,hnk⟩:∃ nk,names[k]? = some nk:=⟨_,List.getElem?_eq_getElem hkl⟩
   have hgr:=V5 (s:=A2.getD i ⟨#[]⟩) hnk
   repeat' (first|refine rl0 ?_|refine rs0 ?_ ?_<;>intro h|fail)
   ·rw [h,Bool.true_or] at hgr
    exact ⟨k+1,by omega,by omega,by rw [hgr];exact (by repeat (first|exact Ae|refine Aa rfl ?_)),rfl⟩
   rw [h,Bool.false_or] at hgr
   refine P4 (Aby nk) rfl rfl rfl rfl rfl (O8 hnk) (by omega) ?_
   repeat' (first|refine rl0 ?_|refine rs0 ?_ ?_<;>intro h|fail)
   refine P4 _ rfl rfl rfl rfl rfl (Tz (l:=A2) (i:=i) (by show i<3;omega)) (by omega) ?_
   repeat' (first|refine rl0 ?_|refine rs0 ?_ ?_<;>intro h|fail)
   exact ⟨k+1,by omega,by omega,by rw [hgr];exact (by repeat (first|exact Ae|refine Aa rfl ?_)),rfl⟩
  refine D9 ?_
  show PW _ _ _ _ _ _
  have hk2:k=names.length:=by have:=of_decide_eq_false h;rw [List.length_map] at this;omega
  subst hk2
  rw [List.take_length]
  clear h hk
  have hi4:i=0\/i=1\/i=2:=by omega
  obtain ⟨t',s',y',e',hv2,himp⟩:=hset i (by omega)
  refine Cd ?_
  refine Rc ?_
  show WS _ _ _ ([_,_]++[_,_]) _ _ _
  refine ws_pre _ _ ?_
  refine Ai3 ?_
  repeat' (first|refine rl2 ?_|refine rs2 ?_ ?_<;>intro h|fail)
  refine Ai6 (id:=5) (n:=0) (cb:=[]) ((Dq a b c).map fun n=>[DV.v (.int .i64 n)]) (by simp [Dq]) (Nat.le_of_ble_eq_true rfl) (Nat.le_of_ble_eq_true rfl) (Nat.le_of_ble_eq_true rfl) (W8 (k:=1) (id:=3) (cap:=3) (c:=rvC a b c) (news:=(Dq a b c).map fun n=>[DV.v (.int .i64 n)]) rfl rfl (Vn _)) ?_
  intro cap zs hcap1 hcap2 hzl hzs
  refine ws_wk ?_
  rcases hi4 with rfl|rfl|rfl
  ·repeat' (first|refine rl2 ?_|refine rs2 ?_ ?_<;>intro h|fail)
   refine wst rfl rfl ⟨(by show (-9223372036854775808:Int)<=_;omega),(by show _<=(9223372036854775807:Int);omega)⟩ ?_
   repeat' (first|refine rl2 ?_|refine rs2 ?_ ?_<;>intro h|fail)
   refine Ub (b:=10000) (by decide) ?_
   repeat' (first|refine rl2 ?_|refine rs2 ?_ ?_<;>intro h|fail)
   refine wst rfl rfl ⟨by omega,by show _<(3:Int);omega⟩ ?_
   repeat' (first|refine rl2 ?_|refine rs2 ?_ ?_<;>intro h|fail)
   refine Zo hv2 ?_ ?_
   ·exact B3 (Gj rfl) (B3 (H0 (k:=1) (id:=6) (n:=3) (cap:=cap) rfl rfl rfl (Vn _) (by simpa [Dq] using hcap1) hcap2 rfl) Gi)
   repeat' (first|refine rl2 ?_|refine rs2 ?_ ?_<;>intro h|fail)
   ·obtain ⟨rfl,rfl,rfl,rfl⟩:=himp (by simpa using h)
    refine wneI (h:=Ej _ _ _) ?_
    repeat' (first|refine rl2 ?_|refine rs2 ?_ ?_<;>intro h|fail)
    exact ⟨1,by omega,by omega,(by repeat (first|exact Ae|refine Aa rfl ?_)),rfl,rfl,rfl,Nat.le_refl _,Nat.le_refl _⟩
   exact ⟨1,by omega,by omega,(by repeat (first|exact Ae|refine Aa rfl ?_)),rfl,rfl,rfl,Nat.le_refl _,Nat.le_refl _⟩
  ·repeat' (first|refine rl2 ?_|refine rs2 ?_ ?_<;>intro h|fail)
   refine wst rfl rfl ⟨(by show (-9223372036854775808:Int)<=_;omega),(by show _<=(9223372036854775807:Int);omega)⟩ ?_
   repeat' (first|refine rl2 ?_|refine rs2 ?_ ?_<;>intro h|fail)
   refine Ub (b:=10000) (by decide) ?_
   repeat' (first|refine rl2 ?_|refine rs2 ?_ ?_<;>intro h|fail)
   refine wst rfl rfl ⟨by omega,by show _<(3:Int);omega⟩ ?_
   repeat' (first|refine rl2 ?_|refine rs2 ?_ ?_<;>intro h|fail)
   refine Zo hv2 ?_ ?_
   ·exact B3 (Gj rfl) (B3 (H0 (k:=1) (id:=6) (n:=3) (cap:=cap) rfl rfl rfl (Vn _) (by simpa [Dq] using hcap1) hcap2 rfl) Gi)
   repeat' (first|refine rl2 ?_|refine rs2 ?_ ?_<;>intro h|fail)
   ·obtain ⟨rfl,rfl,rfl,rfl⟩:=himp (by simpa using h)
    refine wneI (h:=Ej _ _ _) ?_
    repeat' (first|refine rl2 ?_|refine rs2 ?_ ?_<;>intro h|fail)
    exact ⟨2,by omega,by omega,(by repeat (first|exact Ae|refine Aa rfl ?_)),rfl,rfl,rfl,Nat.le_refl _,Nat.le_refl _⟩
   exact ⟨2,by omega,by omega,(by repeat (first|exact Ae|refine Aa rfl ?_)),rfl,rfl,rfl,Nat.le_refl _,Nat.le_refl _⟩
  ·repeat' (first|refine rl2 ?_|refine rs2 ?_ ?_<;>intro h|fail)
   refine wst rfl rfl ⟨(by show (-9223372036854775808:Int)<=_;omega),(by show _<=(9223372036854775807:Int);omega)⟩ ?_
   repeat' (first|refine rl2 ?_|refine rs2 ?_ ?_<;>intro h|fail)
   refine Ub (b:=10000) (by decide) ?_
   repeat' (first|refine rl2 ?_|refine rs2 ?_ ?_<;>intro h|fail)
   refine wst rfl rfl ⟨by omega,by show _<(3:Int);omega⟩ ?_
   repeat' (first|refine rl2 ?_|refine rs2 ?_ ?_<;>intro h|fail)
   refine Zo hv2 ?_ ?_
   ·exact B3 (Gj rfl) (B3 (H0 (k:=1) (id:=6) (n:=3) (cap:=cap) rfl rfl rfl (Vn _) (by simpa [Dq] using hcap1) hcap2 rfl) Gi)
   repeat' (first|refine rl2 ?_|refine rs2 ?_ ?_<;>intro h|fail)
   ·obtain ⟨rfl,rfl,rfl,rfl⟩:=himp (by simpa using h)
    refine wneI (h:=Ej _ _ _) ?_
    repeat' (first|refine rl2 ?_|refine rs2 ?_ ?_<;>intro h|fail)
    exact ⟨3,by omega,by omega,(by repeat (first|exact Ae|refine Aa rfl ?_)),rfl,rfl,rfl,Nat.le_refl _,Nat.le_refl _⟩
   exact ⟨3,by omega,by omega,(by repeat (first|exact Ae|refine Aa rfl ?_)),rfl,rfl,rfl,Nat.le_refl _,Nat.le_refl _⟩
 ·refine wst rfl rfl ⟨(by show (-9223372036854775808:Int)<=_;omega),(by show _<=(9223372036854775807:Int);omega)⟩ ?_
  repeat' (first|refine rl2 ?_|refine rs2 ?_ ?_<;>intro h|fail)
  all_goals try (exfalso;simp at h;done)
  refine wp1 hvars ?_
  repeat' (first|refine rl2 ?_|refine rs2 ?_ ?_<;>intro h|fail)
  refine Tf (ι := Nat) (ok:=fun i=>i<=3) (L:=fun i=>[(3,Hz o),(8,An false),(9,.ptr 1 0),(10,.bsl 1 3 0 3 3),(11,.ptr 4 0),(12,Ak 0),(13,Cc names),(17,Cc A2),(18,Ak i)]) (Sx:=fun _=>igS x a b c (1+((want % 2:Nat):Int)) s y) (μ := fun i=>3-i) 0 (Nat.zero_le _) (by repeat (first|exact Ae|refine Aa rfl ?_)) rfl ?_
  rintro i hi
  repeat' (first|refine rl2 ?_|refine rs2 ?_ ?_<;>intro h|fail)
  rotate_left
  ·refine pw_pa ?_
   refine Cu 13 (by dsimp only [B6,List.map]) ?_
   refine Cu 12 (by dsimp only [B6,List.map]) ?_
   refine Cu 11 (by dsimp only [B6,List.map]) ?_
   refine Q9 10 (by dsimp only [mkE]) (by dsimp only [mkE,B6,List.map]) ?_ ?_
   ·refine Wq (fun k=>Nat.beq k 1||Nat.beq k 3||Nat.beq k 10||Nat.beq k 11||Nat.beq k 15) [(0,[1]),(9,[3])] ?_
    repeat' (first|refine rl7 ?_|refine rs7 ?_ ?_<;>intro h|fail)
    refine M2 (Gy _) ?_
    repeat' (first|refine rl7 ?_|refine rs7 ?_ ?_<;>intro h|fail)
    refine b3 ?_ (hC:=by exact ⟨(by show (-9223372036854775808:Int)<=_;omega),(by show _<=(9223372036854775807:Int);omega)⟩)
    repeat' (first|refine rl7 ?_|refine rs7 ?_ ?_<;>intro h|fail)
    refine Uo (b:=10000) (by decide) ?_
    repeat' (first|refine rl7 ?_|refine rs7 ?_ ?_<;>intro h|fail)
    refine Ul (id:=3) (n:=3) (cb:=rvC a b c) ((Dq a b c).map fun n=>[DV.v (.int .i64 n)]) [[.v (.int .i64 (o.tmod 10000))]] (by simp) rfl rfl (Vn _) (Nat.le_of_ble_eq_true rfl) (Nat.le_of_ble_eq_true rfl) rfl ?_
    repeat' (first|refine rl7 ?_|refine rs7 ?_ ?_<;>intro h|fail)
    refine M1 hlast ?_ ?_
    ·exact Ab (Ac _) (Ab (Gs (C8 rfl)) (Ab (Ac _) Ad))
    repeat' (first|refine rl7 ?_|refine rs7 ?_ ?_<;>intro h|fail)
    repeat' (first|refine rl2 ?_|refine rs2 ?_ ?_<;>intro h|fail)
    refine weqI (h:=Ej _ _ _) ?_
    repeat' (first|refine rl2 ?_|refine rs2 ?_ ?_<;>intro h|fail)
    rfl
   refine Cu 9 (by dsimp only [B6,List.map]) ?_
   refine Cu 8 (by dsimp only [B6,List.map]) ?_
   refine Cu 7 (by dsimp only [B6,List.map]) ?_
   refine Cu 6 (by dsimp only [B6,List.map]) ?_
   refine Cu 5 (by dsimp only [B6,List.map]) ?_
   refine Cu 4 (by dsimp only [B6,List.map]) ?_
   refine Q9 3 (by dsimp only [mkE]) (by dsimp only [mkE,B6,List.map]) ?_ ?_
   ·refine Wq (fun k=>Nat.beq k 1||Nat.beq k 3||Nat.beq k 4||Nat.beq k 11||Nat.beq k 15) [(0,[1]),(10,[3])] ?_
    repeat' (first|refine rl7 ?_|refine rs7 ?_ ?_<;>intro h|fail)
    refine M2 (Gy _) ?_
    repeat' (first|refine rl7 ?_|refine rs7 ?_ ?_<;>intro h|fail)
    refine b3 ?_ (hC:=by exact ⟨(by show (-9223372036854775808:Int)<=_;omega),(by show _<=(9223372036854775807:Int);omega)⟩)
    repeat' (first|refine rl7 ?_|refine rs7 ?_ ?_<;>intro h|fail)
    refine Uo (b:=10000) (by decide) ?_
    repeat' (first|refine rl7 ?_|refine rs7 ?_ ?_<;>intro h|fail)
    refine Ul (id:=3) (n:=3) (cb:=rvC a b c) ((Dq a b c).map fun n=>[DV.v (.int .i64 n)]) [[.v (.int .i64 (o.tmod 10000))]] (by simp) rfl rfl (Vn _) (Nat.le_of_ble_eq_true rfl) (Nat.le_of_ble_eq_true rfl) rfl ?_
    repeat' (first|refine rl7 ?_|refine rs7 ?_ ?_<;>intro h|fail)
    refine M1 hlast ?_ ?_
    ·exact Ab (Ac _) (Ab (Gs (C8 rfl)) (Ab (Ac _) Ad))
    repeat' (first|refine rl7 ?_|refine rs7 ?_ ?_<;>intro h|fail)
    repeat' (first|refine rl2 ?_|refine rs2 ?_ ?_<;>intro h|fail)
    refine weqI (h:=Ej _ _ _) ?_
    repeat' (first|refine rl2 ?_|refine rs2 ?_ ?_<;>intro h|fail)
    rfl
   refine Cu 2 (by dsimp only [B6,List.map]) ?_
   refine Q9 1 (by dsimp only [mkE]) (by dsimp only [mkE,B6,List.map]) ?_ ?_
   ·refine Wq (fun k=>Nat.beq k 1||Nat.beq k 2||Nat.beq k 4||Nat.beq k 11||Nat.beq k 15) [(0,[1]),(10,[3])] ?_
    repeat' (first|refine rl7 ?_|refine rs7 ?_ ?_<;>intro h|fail)
    refine M2 (Gy _) ?_
    repeat' (first|refine rl7 ?_|refine rs7 ?_ ?_<;>intro h|fail)
    refine b3 ?_ (hC:=by exact ⟨(by show (-9223372036854775808:Int)<=_;omega),(by show _<=(9223372036854775807:Int);omega)⟩)
    repeat' (first|refine rl7 ?_|refine rs7 ?_ ?_<;>intro h|fail)
    refine Uo (b:=10000) (by decide) ?_
    repeat' (first|refine rl7 ?_|refine rs7 ?_ ?_<;>intro h|fail)
    refine Ul (id:=3) (n:=3) (cb:=rvC a b c) ((Dq a b c).map fun n=>[DV.v (.int .i64 n)]) [[.v (.int .i64 (o.tmod 10000))]] (by simp) rfl rfl (Vn _) (Nat.le_of_ble_eq_true rfl) (Nat.le_of_ble_eq_true rfl) rfl ?_
    repeat' (first|refine rl7 ?_|refine rs7 ?_ ?_<;>intro h|fail)
    refine M1 hlast ?_ ?_
    ·exact Ab (Ac _) (Ab (Gs (C8 rfl)) (Ab (Ac _) Ad))
    repeat' (first|refine rl7 ?_|refine rs7 ?_ ?_<;>intro h|fail)
    repeat' (first|refine rl2 ?_|refine rs2 ?_ ?_<;>intro h|fail)
    refine weqI (h:=Ej _ _ _) ?_
    repeat' (first|refine rl2 ?_|refine rs2 ?_ ?_<;>intro h|fail)
    rfl
   ·refine Wq (fun k=>Nat.beq k 1||Nat.beq k 2||Nat.beq k 4||Nat.beq k 11||Nat.beq k 15) [(0,[1]),(10,[3])] ?_
    repeat' (first|refine rl7 ?_|refine rs7 ?_ ?_<;>intro h|fail)
    refine M2 (Gy _) ?_
    repeat' (first|refine rl7 ?_|refine rs7 ?_ ?_<;>intro h|fail)
    refine b3 ?_ (hC:=by exact ⟨(by show (-9223372036854775808:Int)<=_;omega),(by show _<=(9223372036854775807:Int);omega)⟩)
    repeat' (first|refine rl7 ?_|refine rs7 ?_ ?_<;>intro h|fail)
    refine Uo (b:=10000) (by decide) ?_
    repeat' (first|refine rl7 ?_|refine rs7 ?_ ?_<;>intro h|fail)
    refine Ul (id:=3) (n:=3) (cb:=rvC a b c) ((Dq a b c).map fun n=>[DV.v (.int .i64 n)]) [[.v (.int .i64 (o.tmod 10000))]] (by simp) rfl rfl (Vn _) (Nat.le_of_ble_eq_true rfl) (Nat.le_of_ble_eq_true rfl) rfl ?_
    repeat' (first|refine rl7 ?_|refine rs7 ?_ ?_<;>intro h|fail)
    refine M1 hlast ?_ ?_
    ·exact Ab (Ac _) (Ab (Gs (C8 rfl)) (Ab (Ac _) Ad))
    repeat' (first|refine rl7 ?_|refine rs7 ?_ ?_<;>intro h|fail)
    repeat' (first|refine rl2 ?_|refine rs2 ?_ ?_<;>intro h|fail)
    refine weqI (h:=Ej _ _ _) ?_
    repeat' (first|refine rl2 ?_|refine rs2 ?_ ?_<;>intro h|fail)
    rfl
  have hi3:i<3:=by have:=of_decide_eq_true h;omega
  refine B2 (ι := Nat) (ok:=fun k=>k<=names.length) (L:=fun k=>[(3,Hz o),(8,An false),(9,.ptr 1 0),(10,.bsl 1 3 0 3 3),(11,.ptr 4 0),(12,Ak 0),(13,Cc names),(17,Cc A2),(18,Ak i),(19,An (Fj (names.take k) (A2.getD i ⟨#[]⟩))),(20,Ak k)]) (Sx:=fun _=>igS x a b c (1+((want % 2:Nat):Int)) s y) (μ := fun k=>names.length-k) 0 (Nat.zero_le _) (by repeat (first|exact Ae|refine Aa rfl ?_)) rfl ?_
  rintro k hk
  refine rl2 ?_
  refine rs2 (fun h=>?_) (fun h=>?_)
  ·have hkl:k<names.length:=by have:=of_decide_eq_true h;rw [List.length_map] at this;omega
   obtain ⟨nk,hnk⟩:∃ nk,names[k]? = some nk:=⟨_,List.getElem?_eq_getElem hkl⟩
   have hgr:=V5 (s:=A2.getD i ⟨#[]⟩) hnk
   repeat' (first|refine rl0 ?_|refine rs0 ?_ ?_<;>intro h|fail)
   ·rw [h,Bool.true_or] at hgr
    exact ⟨k+1,by omega,by omega,by rw [hgr];exact (by repeat (first|exact Ae|refine Aa rfl ?_)),rfl⟩
   rw [h,Bool.false_or] at hgr
   refine P4 (Aby nk) rfl rfl rfl rfl rfl (O8 hnk) (by omega) ?_
   repeat' (first|refine rl0 ?_|refine rs0 ?_ ?_<;>intro h|fail)
   refine P4 _ rfl rfl rfl rfl rfl (Tz (l:=A2) (i:=i) (by show i<3;omega)) (by omega) ?_
   repeat' (first|refine rl0 ?_|refine rs0 ?_ ?_<;>intro h|fail)
   exact ⟨k+1,by omega,by omega,by rw [hgr];exact (by repeat (first|exact Ae|refine Aa rfl ?_)),rfl⟩
  refine D9 ?_
  show PW _ _ _ _ _ _
  have hk2:k=names.length:=by have:=of_decide_eq_false h;rw [List.length_map] at this;omega
  subst hk2
  rw [List.take_length]
  clear h hk
  have hi4:i=0\/i=1\/i=2:=by omega
  obtain ⟨t',s',y',e',hv2,himp⟩:=hset i (by omega)
  refine Cd ?_
  refine Rc ?_
  show WS _ _ _ ([_,_]++[_,_]) _ _ _
  refine ws_pre _ _ ?_
  refine Ai3 ?_
  repeat' (first|refine rl2 ?_|refine rs2 ?_ ?_<;>intro h|fail)
  refine Ai6 (id:=5) (n:=0) (cb:=[]) ((Dq a b c).map fun n=>[DV.v (.int .i64 n)]) (by simp [Dq]) (Nat.le_of_ble_eq_true rfl) (Nat.le_of_ble_eq_true rfl) (Nat.le_of_ble_eq_true rfl) (W8 (k:=1) (id:=3) (cap:=3) (c:=rvC a b c) (news:=(Dq a b c).map fun n=>[DV.v (.int .i64 n)]) rfl rfl (Vn _)) ?_
  intro cap zs hcap1 hcap2 hzl hzs
  refine ws_wk ?_
  rcases hi4 with rfl|rfl|rfl
  ·repeat' (first|refine rl2 ?_|refine rs2 ?_ ?_<;>intro h|fail)
   refine wst rfl rfl ⟨(by show (-9223372036854775808:Int)<=_;omega),(by show _<=(9223372036854775807:Int);omega)⟩ ?_
   repeat' (first|refine rl2 ?_|refine rs2 ?_ ?_<;>intro h|fail)
   refine Ub (b:=10000) (by decide) ?_
   repeat' (first|refine rl2 ?_|refine rs2 ?_ ?_<;>intro h|fail)
   refine wst rfl rfl ⟨by omega,by show _<(3:Int);omega⟩ ?_
   repeat' (first|refine rl2 ?_|refine rs2 ?_ ?_<;>intro h|fail)
   refine Zo hv2 ?_ ?_
   ·exact B3 (Gj rfl) (B3 (H0 (k:=1) (id:=6) (n:=3) (cap:=cap) rfl rfl rfl (Vn _) (by simpa [Dq] using hcap1) hcap2 rfl) Gi)
   repeat' (first|refine rl2 ?_|refine rs2 ?_ ?_<;>intro h|fail)
   ·obtain ⟨rfl,rfl,rfl,rfl⟩:=himp (by simpa using h)
    refine wneI (h:=Ej _ _ _) ?_
    repeat' (first|refine rl2 ?_|refine rs2 ?_ ?_<;>intro h|fail)
    exact ⟨1,by omega,by omega,(by repeat (first|exact Ae|refine Aa rfl ?_)),rfl,rfl,rfl,Nat.le_refl _,Nat.le_refl _⟩
   exact ⟨1,by omega,by omega,(by repeat (first|exact Ae|refine Aa rfl ?_)),rfl,rfl,rfl,Nat.le_refl _,Nat.le_refl _⟩
  ·repeat' (first|refine rl2 ?_|refine rs2 ?_ ?_<;>intro h|fail)
   refine wst rfl rfl ⟨(by show (-9223372036854775808:Int)<=_;omega),(by show _<=(9223372036854775807:Int);omega)⟩ ?_
   repeat' (first|refine rl2 ?_|refine rs2 ?_ ?_<;>intro h|fail)
   refine Ub (b:=10000) (by decide) ?_
   repeat' (first|refine rl2 ?_|refine rs2 ?_ ?_<;>intro h|fail)
   refine wst rfl rfl ⟨by omega,by show _<(3:Int);omega⟩ ?_
   repeat' (first|refine rl2 ?_|refine rs2 ?_ ?_<;>intro h|fail)
   refine Zo hv2 ?_ ?_
   ·exact B3 (Gj rfl) (B3 (H0 (k:=1) (id:=6) (n:=3) (cap:=cap) rfl rfl rfl (Vn _) (by simpa [Dq] using hcap1) hcap2 rfl) Gi)
   repeat' (first|refine rl2 ?_|refine rs2 ?_ ?_<;>intro h|fail)
   ·obtain ⟨rfl,rfl,rfl,rfl⟩:=himp (by simpa using h)
    refine wneI (h:=Ej _ _ _) ?_
    repeat' (first|refine rl2 ?_|refine rs2 ?_ ?_<;>intro h|fail)
    exact ⟨2,by omega,by omega,(by repeat (first|exact Ae|refine Aa rfl ?_)),rfl,rfl,rfl,Nat.le_refl _,Nat.le_refl _⟩
   exact ⟨2,by omega,by omega,(by repeat (first|exact Ae|refine Aa rfl ?_)),rfl,rfl,rfl,Nat.le_refl _,Nat.le_refl _⟩
  ·repeat' (first|refine rl2 ?_|refine rs2 ?_ ?_<;>intro h|fail)
   refine wst rfl rfl ⟨(by show (-9223372036854775808:Int)<=_;omega),(by show _<=(9223372036854775807:Int);omega)⟩ ?_
   repeat' (first|refine rl2 ?_|refine rs2 ?_ ?_<;>intro h|fail)
   refine Ub (b:=10000) (by decide) ?_
   repeat' (first|refine rl2 ?_|refine rs2 ?_ ?_<;>intro h|fail)
   refine wst rfl rfl ⟨by omega,by show _<(3:Int);omega⟩ ?_
   repeat' (first|refine rl2 ?_|refine rs2 ?_ ?_<;>intro h|fail)
   refine Zo hv2 ?_ ?_
   ·exact B3 (Gj rfl) (B3 (H0 (k:=1) (id:=6) (n:=3) (cap:=cap) rfl rfl rfl (Vn _) (by simpa [Dq] using hcap1) hcap2 rfl) Gi)
   repeat' (first|refine rl2 ?_|refine rs2 ?_ ?_<;>intro h|fail)
   ·obtain ⟨rfl,rfl,rfl,rfl⟩:=himp (by simpa using h)
    refine wneI (h:=Ej _ _ _) ?_
    repeat' (first|refine rl2 ?_|refine rs2 ?_ ?_<;>intro h|fail)
    exact ⟨3,by omega,by omega,(by repeat (first|exact Ae|refine Aa rfl ?_)),rfl,rfl,rfl,Nat.le_refl _,Nat.le_refl _⟩
   exact ⟨3,by omega,by omega,(by repeat (first|exact Ae|refine Aa rfl ?_)),rfl,rfl,rfl,Nat.le_refl _,Nat.le_refl _⟩
theorem Vq (l:List UInt8) (want:Nat) (a b c o:Int) (hwt:want<256) (ha : -32768<=a/\a<=32767) (hb : -32768<=b/\b<=32767) (hc : -32768<=c/\c<=32767) (hob : -32768<=o/\o<=32767) (hwk:Aq 12 [] ⟨[],[]⟩ (.ret (An true)) ⟨[],[]⟩) :
  Aq 5 [G6 l,.d (.v (.int .u8 want)),.agg [Hz a,Hz b,Hz c],Hz o] ⟨[],[]⟩ (.ret (An true)) ⟨[],[]⟩:=by
 have hk12:1+((want % 2:Nat):Int)=1\/1+((want % 2:Nat):Int)=2:=by omega
 have hk:=Agi l hk12
 have gx:=V3 l (1+((want % 2:Nat):Int))
 have hck:=Ac0 l (1+((want % 2:Nat):Int))
 have hm:=make_do l (1+((want % 2:Nat):Int))
 have hv:Qj (Dq a b c):=⟨_,_,_,rfl,E7 a,E7 b,E7 c⟩
 have ho:=E7 o
 have hbox:=Ah8 a b c ha hb hc
 generalize hkk:1+((want % 2:Nat):Int)=k at *
 generalize Ys l k=x at *
 have hs:=Acv gx
 have h0:Ax A2 x≠0:=by rw [hk];omega
 have hnm:Aq 17 [exP x] ⟨[],[]⟩ (.ret (.tup [Cc (Kq [] x),Ak 0])) ⟨[],[]⟩:=by
  have h:=Aa2 x hs
  rwa [show Lf x=(Kq [] x,0) by unfold Lf;rw [if_pos hck]] at h
 have hty:Aq 18 [exP x,Cc (Kq [] x)] ⟨[],[]⟩ (.ret (.tup [Ak k,Ak 0])) ⟨[],[]⟩:=by
  have h:=Aiv (Kq [] x) x hs
  rwa [show P0 (Kq [] x) x=(k,0) by unfold P0;rw [if_neg (by simp [hck]),Acy gx h0,hk,if_neg (by omega)]] at h
 have he:(evR A2 (Dq a b c) x).2=2\/(evR A2 (Dq a b c) x).2=0/\(evR A2 (Dq a b c) x).1.1=k:=by
  rcases evR_val hck hv hk (by omega) with h|⟨r,h⟩
  ·rw [h];exact .inl rfl
  ·rw [h]
   right
   refine ⟨rfl,?_⟩
   by_cases h2:k=2
   ·rw [if_pos h2];exact h2.symm
   ·rw [if_neg h2];dsimp only;omega
 subst hkk
 exact Vp l want a b c o x (Kq [] x) (evR A2 (Dq a b c) x).1.1 (evR A2 (Dq a b c) x).1.2.1 (evR A2 (Dq a b c) x).1.2.2 (evR A2 (Dq a b c) x).2 hwt (Agr hck) hob hwk hm hbox (Agh x _ hs) hnm hty he
  (fun i hi=>⟨_,_,_,_,Agh x ((Dq a b c).set i (o.tmod 10000)) hs,fun hmem=>by rw [evR_set gx h0 hv hi ho hmem];exact ⟨rfl,rfl,rfl,rfl⟩⟩)
  (by have h:=Aag x (A2++[wB]) (Dq a b c++[o.tmod 10000]) hs;rw [evR_more gx h0 hv ho] at h;exact h)
end Go.Proofs.YtjagmmmcibdibaaGreatDoor
