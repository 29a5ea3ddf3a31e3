/- A part of the proofs of some statements of this chapter: texts of these claims, merged. -/
import Derived.Below
import Derived.WalkKit
import Derived.BigQuiet
import Derived.Lib.Hide
import Derived.ControlIn
import Derived.OwnWalkIn
import Derived.Lib.ItoaNum
import Derived.OrdersIn
import Derived.TacticsIn
import Derived.Deep.MidRow
import Derived.OpenShut
import Derived.Lib.SmallJoins
import Derived.Laws.Tables
import Derived.Laws.OwnMore
import Derived.Orders
import Derived.Test.YtjagmmmcibdibaaGreatDoorProg
import Derived.Shelf.Abstract
import Derived.Test.YtjagmmmcibdibaaGreatDoorRows
import Derived.Carry
import Derived.Lib.LaidU8
import Derived.Lib.LaidTab
import Derived.Lay
import Derived.MakeChecks
import Derived.RangeFuncLeaves
import Derived.RangeFuncOwn
import Derived.RecoverIn
import Derived.Laws.MakeOwn
import Derived.Laws.Strings
import Derived.WalkSpells
import Derived.WalkLawsBesides
import Derived.Laws.EntriesVeiled
import Derived.Deep.RegionHeld3
import Derived.Deep.QuietTactic
import Derived.Lib.Bytealg
import Derived.Shelf.Strings.Builder1
import Derived.Shelf.Small.Strs
import Derived.Shelf.Small.Wraps
import Derived.Shelf.Strings.BuilderF
import Derived.Shelf.Strings.BuilderK
import Derived.Shelf.Strconv.Atoi
import Derived.Shelf.Strconv.Itoa0
import Derived.Shelf.Strconv.Itoa1
import Derived.Shelf.LaysM
import Derived.Shelf.Strconv.Itoa2
import Derived.Shelf.Strconv.Itoa3
import Derived.Shelf.Strconv.AtoiErrFast
import Derived.Shelf.Strconv.ParseIntEmpty
import Derived.Shelf.Strconv.AtoiFail
import Derived.Shelf.Strconv.Clone
import Derived.Shelf.Strconv.SyntaxError
import Derived.Shelf.LaysC
import Derived.Shelf.Strconv.ToError
import Derived.Shelf.Strconv.AtoiErr
import Derived.Shelf.Strconv.ErrVar
import Derived.Shelf.Strconv.Lower
import Derived.Shelf.Strconv.ParseUint10
import Derived.Shelf.Strconv.ParseUint10Empty
import Derived.Shelf.Strconv.ParseUint10Any
import Derived.Shelf.Strconv.ParseInt10
import Derived.Shelf.Strconv.AtoiLong
import Derived.Shelf.Strconv.AtoiInnerAll
import Derived.Shelf.Strconv.RangeError
import Derived.Shelf.Strconv.ToErrorRange
import Derived.Shelf.Strconv.AtoiAll
import Derived.Shelf.Strconv.ErrVarAll
import Derived.Shelf.Strconv.ParseUintEmpty
import Derived.Shelf.Strconv.ParseUint10b64
import Derived.Shelf.Strconv.ParseUint10b32
import Derived.Shelf.Strconv.ParseUint10b16
import Derived.Shelf.Strconv.ParseUint10b8
import Derived.Shelf.Strconv.ParseUint10At
import Derived.Ground.MpProg
import Derived.Shelf.Pu.ParseUintPublic10
import Derived.Shelf.Pu.ErrVarParseUint
import Derived.Shelf.Strings.Search1
import Derived.Shelf.Strings.Search2
import Derived.Shelf.Strings.Cut
import Derived.Shelf.Strings.Shaped
import Derived.Shelf.Strings.Prefix
import Derived.Shelf.Strings.BuilderCap
import Derived.Shelf.Slices.Turned
import Derived.Ground.Names2Prog
import Derived.Shelf.Slices.SearchI
import Derived.Deep.DeepCutAuto
import Derived.Lib.IndexBytes
import Derived.Deep.LoopGhost
import Derived.StillTail
import Derived.BigRegion
import Derived.Deep.CutBlock
import Derived.RangeFuncBox
import Derived.RangeFuncCalls
import Derived.TacticsInMore
import Derived.LoopNIn
import Derived.LoopIn
import Derived.RangeFuncNested
import Derived.Maps.AppendAt
import Derived.Shelf.RegionOpen
import Derived.Laws.StructEq
import Derived.Lib.Join
import Derived.Deep.AppendLies
import Derived.Deep.RegionLaw
import Derived.Laws.Rows
import Derived.Laws.BytesArg
import Derived.Test.YtjagmmmcibdibaaGreatDoorZG3
set_option linter.unusedVariables false
set_option linter.unusedSimpArgs false
set_option linter.unusedSectionVars false
set_option linter.all false
namespace Go.Proofs.YtjagmmmcibdibaaGreatDoor
open Go.RowKit
def malV:Value := .iface 208 (.agg #[])
@[reducible] def paS (xc:List PV) (nx er:PV) (tk:PV) (at':PV):PS:=⟨[xc,[nx],[er],[tk,at'],[.ptr 3 0]],[]⟩
theorem Abj (w:World):(Instr.typeAssert .nilIface 20 208 true).run Tryz.prog w = .ok (.tuple #[.agg #[],.bool false]) w:=by kernel_rfl
theorem Abi (w:World):(Instr.typeAssert malV 20 208 true).run Tryz.prog w = .ok (.tuple #[.agg #[],.bool true]) w:=by kernel_rfl
theorem Agz (c0 c1 c2 c3 c4:DV) (nx er:DV) (tk at':DV):EvD Tryz.prog 143 [.ptr 4 0,.ptr 0 0,.ptr 1 0,.ptr 2 0] (paS [.d c0,.d c1,.d c2,.d c3] (.d nx) (.d er) (.d tk) (.d at')) none (paS [.d c0,.d c1,.d c2,.d c3] (.d nx) (.d er) (.d tk) (.d at')):=by
 refine Nc Tryz.func143 rfl rfl (fun _ _=>rfl) rfl (Nat.le_of_ble_eq_true rfl) (by simp) rfl (Nat.le_refl _) ?_
 refine Eo rfl (Ky rfl rfl Abj (by kernel_rfl)) ?_
 repeat' (first|refine rl0 ?_|refine rs0 ?_ ?_<;>intro h|fail)
 rfl
theorem pdef_mal (c0 c1 c2 c3:DV) (nx er:DV) (tk:DV) (n:Int):EvD Tryz.prog 143 [.ptr 4 0,.ptr 0 0,.ptr 1 0,.ptr 2 0] (paS [.d c0,.d c1,.d c2,.d c3] (.d nx) (.d er) (.d tk) (An n)) (some malV) (paS Aj6 (An n) (An 350) (.d tk) (An n)):=by
 refine Nc Tryz.func143 rfl rfl (fun _ _=>rfl) rfl (Nat.le_of_ble_eq_true rfl) (fun c e=>by cases e;rfl) rfl (Nat.le_refl _) ?_
 refine Eo rfl (Ky rfl rfl Abi (by kernel_rfl)) ?_
 repeat' (first|refine rl0 ?_|refine rs0 ?_ ?_<;>intro h|fail)
 rfl
section
variable {N:Nat} {ops:Array Oper} {rest:List Oper} {o:Oper} {F:Nat->PV} {S:PS} {q:WRes->Prop} {ch:Nat->Bool} {U Ut:List Nat} {k:Nat} {bm:Bool} {D:List Nat}
theorem wafl {t:TypeId} {x:Operand} {id off:Nat} {c:List PV} {p:PV} (hg:Al ops F o=some true) (hc:ch k=false) (ho:o.op = .load t x) (hk:(Ba t && !(tyi t).isRow)=true) (hx:evP F x = .ptr id off) (hU:id∈U) (hb:S.boxes[id]? = some c) (hp:c[off]? = some p)
  (kk:WA Tryz.prog N ops ch U Ut (k+1) rest (Cd N o.dst p F) S bm D q):WA Tryz.prog N ops ch U Ut k (o::rest) F S bm D q:=by
 simp only [Bool.and_eq_true,Bool.not_eq_true'] at hk
 exact Ah6 hg hc (fun S' ha=>R8 ho (Fj t hk.1) hk.2 hx (by rw [ha.boxes id hU];exact hb) hp) kk
end
@[reducible] def paK (rows:List (List DV)) (n:Int):PS:=⟨[[.d (.sl 3 rows),An n]],[]⟩
theorem Ju (g:Nat) (f:Func) (h1:Tryz.prog.funcs[g]? = some f) (h2:(f.name == "runtime.NumGoroutine")=false) (h3:f.body.isSome=true):∀ args w,(callFunc g args).run Tryz.prog w = .ok (.enter g args) w:=by
 obtain ⟨c,hc⟩:=Option.isSome_iff_exists.1 h3
 exact enters_of h1 h2 hc
theorem parse_ok {rows:List (List DV)} {a n:Int} {x:Ex} (h0:0<=a/\a<=rows.length) (hidx:Aw 141 [.d (.sl 3 rows),.fn 142 []] ⟨[],[]⟩ (.ret (An (-1))) ⟨[],[]⟩)
  (hx:Aw 144 [.ptr 0 0] (paK rows a) (.ret (exP x)) (paK rows n)) (hs:x.small) (hc:Bp x=0):Aw 107 [.d (.sl 3 rows),An a] ⟨[],[]⟩ (.ret (.tup [exP x,An n,An 0])) ⟨[],[]⟩:=by
 have hchk:=Ea x hs
 rw [hc] at hchk
 refine ⟨enters_of Tryz.func107 rfl rfl,Ec Ju Tryz.func107 rfl (Nat.le_of_ble_eq_true rfl) rfl (Nat.le_refl _) ?_⟩
 refine Av (Bj ?_)
 repeat' (first|refine rl0 ?_|refine rs0 ?_ ?_<;>intro h|fail)
 refine Av (Bj ?_)
 repeat' (first|refine rl0 ?_|refine rs0 ?_ ?_<;>intro h|fail)
 ·exfalso;simp at h;omega
 ·exfalso;simp at h;omega
 refine Av (Bj ?_)
 repeat' (first|refine rl0 ?_|refine rs0 ?_ ?_<;>intro h|fail)
 refine Gh hidx rfl rfl rfl rfl rfl (by repeat (first|exact Ae|refine Ab (Ac _) ?_)) ?_
 repeat' (first|refine rl0 ?_|refine rs0 ?_ ?_<;>intro h|fail)
 refine Av (Bj ?_)
 repeat' (first|refine rl0 ?_|refine rs0 ?_ ?_<;>intro h|fail)
 refine Av (K3 rfl rfl rfl rfl rfl rfl (by decide) ?_)
 refine Av (Bj ?_)
 repeat' (first|refine rl0 ?_|refine rs0 ?_ ?_<;>intro h|fail)
 refine wcb (id:=3) hx rfl rfl rfl rfl rfl rfl rfl rfl (by repeat (first|exact Ae|refine Ab (Ac _) ?_)) rfl ?_
 repeat' (first|refine rl0 ?_|refine rs0 ?_ ?_<;>intro h|fail)
 refine Av (Bj ?_)
 repeat' (first|refine rl0 ?_|refine rs0 ?_ ?_<;>intro h|fail)
 refine Gh hchk rfl rfl rfl rfl rfl (by repeat (first|exact Ae|refine Ab (Ac _) ?_)) ?_
 repeat' (first|refine rl0 ?_|refine rs0 ?_ ?_<;>intro h|fail)
 refine Av (Bj ?_)
 refine Eu (fun k=>Nat.ble 6 k) [3,4] [] rfl (by kernel_rfl) ?_
 refine wapB rfl (by kernel_rfl) rfl rfl trivial ?_
 refine wafl (id:=4) rfl rfl rfl rfl rfl (by simp) rfl rfl ?_
 refine waf rfl rfl (fun _ _=>rfl) trivial ?_
 refine waf rfl rfl (fun _ _=>rfl) trivial ?_
 refine waf rfl rfl (fun _ _=>rfl) trivial ?_
 refine wafl (id:=3) rfl rfl rfl rfl rfl (by simp) rfl rfl ?_
 refine wac rfl rfl rfl rfl rfl trivial ⟨fun id hid=>?_,by simp⟩ ?_
 ·simp at hid;rcases hid with rfl|rfl<;>rfl
 refine wac rfl rfl rfl rfl rfl trivial ⟨fun id hid=>?_,by simp⟩ ?_
 ·simp at hid;rcases hid with rfl|rfl<;>rfl
 refine wac rfl rfl rfl rfl rfl trivial ⟨fun id hid=>?_,by simp⟩ ?_
 ·simp at hid;rcases hid with rfl|rfl<;>rfl
 refine Gp ?_
 refine Bj (Fl ?_)
 exact ⟨none,.inl ⟨rfl,.inr rfl⟩,⟨_,Tryz.func143,rfl,rfl⟩,_,Agz _ _ _ _ (.v (.bool true)) _ _ _ _,_,rfl,rfl,rfl,.inr rfl,_,B5 rfl,rfl,rfl⟩
theorem Agw {rows:List (List DV)} {a n:Int} (h0:0<=a/\a<=rows.length) (hidx:Aw 141 [.d (.sl 3 rows),.fn 142 []] ⟨[],[]⟩ (.ret (An (-1))) ⟨[],[]⟩)
  (hx:Aw 144 [.ptr 0 0] (paK rows a) (.panic malV) (paK rows n)):Aw 107 [.d (.sl 3 rows),An a] ⟨[],[]⟩ (.ret (.tup [exP .nil,An n,An 350])) ⟨[],[]⟩:=by
 refine Dy (r' := .tup [.agg Aj6,An n,An 350]) ?_ (by repeat' (first|exact Ae|refine Ab ?_ ?_|exact Er|exact Ac _|refine Eb ?_|refine Hl ?_))
 refine ⟨enters_of Tryz.func107 rfl rfl,Ec Ju Tryz.func107 rfl (Nat.le_of_ble_eq_true rfl) rfl (Nat.le_refl _) ?_⟩
 refine Av (Bj ?_)
 repeat' (first|refine rl0 ?_|refine rs0 ?_ ?_<;>intro h|fail)
 refine Av (Bj ?_)
 repeat' (first|refine rl0 ?_|refine rs0 ?_ ?_<;>intro h|fail)
 ·exfalso;simp at h;omega
 ·exfalso;simp at h;omega
 refine Av (Bj ?_)
 repeat' (first|refine rl0 ?_|refine rs0 ?_ ?_<;>intro h|fail)
 refine Gh hidx rfl rfl rfl rfl rfl (by repeat (first|exact Ae|refine Ab (Ac _) ?_)) ?_
 repeat' (first|refine rl0 ?_|refine rs0 ?_ ?_<;>intro h|fail)
 refine Av (Bj ?_)
 repeat' (first|refine rl0 ?_|refine rs0 ?_ ?_<;>intro h|fail)
 refine Av (K3 rfl rfl rfl rfl rfl rfl (by decide) ?_)
 refine Av (Bj ?_)
 refine Qm ?_
 repeat' (first|refine rl0 ?_|refine rs0 ?_ ?_<;>intro h|fail)
 refine wcbx (id:=3) hx rfl rfl rfl rfl rfl rfl rfl (by repeat (first|exact Ae|refine Ab (Ac _) ?_)) rfl ?_
 exact ⟨some malV,.inr ⟨_,rfl,rfl⟩,⟨_,Tryz.func143,rfl,rfl⟩,_,pdef_mal (.v (.int .i64 0)) (.v (.int .i64 0)) (.v (.string ⟨#[]⟩)) (.v (.slice none 0 0)) (.v (.int .i64 0)) (.v (.int .i64 0)) _ n,_,rfl,rfl,rfl,.inr rfl,_,B5 rfl,rfl,rfl⟩
def valL:List Int->Int
 |[]=>0
 |x::r=>x+1000000000*valL r
def limbOk (x:Int):Prop:=0<=x/\x<1000000000
theorem A1:∀ {l:List Int},(∀ x∈l,limbOk x)->0<=valL l
 |[],_=>by simp [valL]
 |x::r,h=>by
  have h1:=A1 (l:=r) fun y hy=>h y (List.mem_cons_of_mem _ hy)
  have h2:=(h x List.mem_cons_self).1
  simp only [valL];omega
theorem valL_append:∀ (l r:List Int),valL (l++r)=valL l+1000000000 ^ l.length*valL r
 |[],r=>by simp [valL]
 |x::l,r=>by
  simp only [List.cons_append,valL,valL_append l r,List.length_cons,Int.pow_succ]
  rw [Int.mul_add,<- Int.mul_assoc,Int.mul_comm (1000000000 ^ l.length) 1000000000];omega
theorem Wq {l:List Int} {i:Nat} (h:i<l.length):valL (l.drop i)=l.getD i 0+1000000000*valL (l.drop (i+1)):=by
 rw [List.drop_eq_getElem_cons h,valL,List.getD_eq_getElem?_getD,List.getElem?_eq_getElem h];rfl
theorem Cn:∀ {l:List Int},(∀ x∈l,limbOk x)->valL l<1000000000 ^ l.length
 |[],_=>by simp [valL]
 |x::r,h=>by
  have h1:=Cn (l:=r) fun y hy=>h y (List.mem_cons_of_mem _ hy)
  have h2:=(h x List.mem_cons_self).2
  simp only [valL,List.length_cons,Int.pow_succ];omega
theorem Hs {l:List Int} (h:∀ x∈l,limbOk x) {i:Nat} (hi:i<l.length):limbOk (l.getD i 0):=by
 rw [List.getD_eq_getElem?_getD,List.getElem?_eq_getElem hi];exact h _ (List.getElem_mem hi)
theorem Wv {l:List Int}:∀ n s,M6 (fun (_:Nat) i (_:Int)=>i) l (n+1) s=0
 |0,s=>rfl
 |n+1,s=>by rw [M6];exact Wv n _
theorem Q1 {l:List Int}:M6 (fun (_:Nat) i (_:Int)=>i) l l.length l.length=0:=by
 cases h:l.length with
 |zero=>rfl
 |succ n=>exact Wv n _
theorem Ad2 (l:List Int) (S:PS):Aw 180 [B3 l] S (.ret (.fn 195 [.ptr S.boxes.length 0])) (S.addBox [B3 l]):=by
 refine ⟨enters_of Tryz.func180 rfl rfl,Nb Tryz.func180 rfl (Nat.le_of_ble_eq_true rfl) ?_⟩
 refine Co ?_
 refine Bf ?_
 refine Aod rfl rfl rfl rfl trivial ?_
 refine wst rfl rfl trivial ?_
 refine Cq ?_
 refine Co ?_
 refine Bf ?_
 refine Aod rfl rfl rfl rfl trivial ?_
 refine wst rfl rfl trivial ?_
 refine Cq ?_
 refine Fl ?_
 exact ⟨.inr rfl,rfl,_,B5 rfl,rfl⟩
theorem Td (l:List Int) (hl:l.length<=2) (hok:∀ x∈l,limbOk x):Aw 146 [B3 l] ⟨[],[]⟩ (.ret (.d (.v (.int .u64 (valL l))))) ⟨[],[]⟩:=by
 refine ⟨enters_of Tryz.func146 rfl rfl,Ec Ju Tryz.func146 rfl (Nat.le_of_ble_eq_true rfl) rfl (by simp) ?_⟩
 refine Av (Bj ?_)
 repeat' (first|refine rl0 ?_|refine rs0 ?_ ?_<;>intro h|fail)
 refine Av (Bj ?_)
 repeat' (first|refine rl0 ?_|refine rs0 ?_ ?_<;>intro h|fail)
 refine Av (Av (Bj ?_))
 repeat' (first|refine rl0 ?_|refine rs0 ?_ ?_<;>intro h|fail)
 refine wcw (Ad2 l _) rfl rfl rfl (by repeat (first|exact Ae|refine Ab (Ac _) ?_)) ?_
 repeat' (first|refine rl0 ?_|refine rs0 ?_ ?_<;>intro h|fail)
 refine Sc ?_
 refine Yd [(3,.ptr 0 0),(7,.fn 195 [.ptr 1 0])] (by repeat (first|exact Ag|refine Aa rfl ?_)) ?_
 have hsm:∀ i,i<=l.length->0<=valL (l.drop i)/\valL (l.drop i)<1000000000 ^ (l.length-i):=fun i hi=>by
  have ho:∀ x∈l.drop i,limbOk x:=fun x hx=>hok x (List.mem_of_mem_drop hx)
  have:=Cn ho
  rw [List.length_drop] at this
  exact ⟨A1 ho,this⟩
 refine Agy (fun _ i _=>i) (fun s=>s) (fun s=>⟨[[.d (.v (.int .u64 (valL (l.drop s))))],[B3 l]],[]⟩) (fun s=>s<=l.length) (id:=1) (l:=l) l.length rfl (by simp [valL];rfl) (fun _ _=>rfl) (fun _ _ _=>rfl) rfl (Nat.le_refl _) (fun _ _ h _ _=>Nat.le_of_lt h) (fun _=>⟨Nat.le_refl _,Nat.le_refl _⟩) ?_ ?_
 ·rintro s i hi hs _
  obtain rfl:s=i+1:=hs
  obtain ⟨h1,h2⟩:=hsm (i+1) hi
  obtain ⟨h3,h4⟩:=hsm i (by omega)
  obtain ⟨h5,h6⟩:=Hs hok hi
  have h7:=Wq hi
  have h8:(1000000000:Int) ^ (l.length-(i+1))<=1000000000:=by
   have:l.length-(i+1)=0\/l.length-(i+1)=1:=by omega
   rcases this with h|h<;>rw [h]<;>decide
  repeat' (first|refine rl0 ?_|refine rs0 ?_ ?_<;>intro h|fail)
  refine wst rfl rfl ⟨by show (0:Int)<=_;omega,by show _<=(18446744073709551615:Int);omega⟩ ?_
  repeat' (first|refine rl0 ?_|refine rs0 ?_ ?_<;>intro h|fail)
  refine ⟨rfl,?_,rfl⟩
  rw [h7]
  show (⟨[[.d (.v (.int .u64 (_+_)))],_],_⟩:PS)=⟨[[.d (.v (.int .u64 (_+_)))],_],_⟩
  rw [Int.mul_comm,Int.add_comm]
  rfl
 ·intro _
  rw [Q1]
  refine Bj ?_
  repeat' (first|refine rl0 ?_|refine rs0 ?_ ?_<;>intro h|fail)
  exact ⟨none,.inl ⟨rfl,.inr rfl⟩,_,rfl,rfl,rfl,.inr rfl,_,B5 rfl,rfl,rfl⟩
def qL (by':Int):List Int->List Int×Int
 |[]=>([],0)
 |x::r=>(((qL by' r).2*1000000000+x) / by'::(qL by' r).1,((qL by' r).2*1000000000+x) % by')
theorem Ag6 (b:Int):∀ l,(qL b l).1.length=l.length
 |[]=>rfl
 |x::r=>by simp [qL,Ag6 b r]
theorem L3 {b:Int} (hb:0<b):∀ {l:List Int},(∀ x∈l,limbOk x)->valL l=b*valL (qL b l).1+(qL b l).2/\0<=(qL b l).2/\(qL b l).2<b/\∀ x∈(qL b l).1,limbOk x
 |[],_=>by simp [qL,valL,hb]
 |x::r,h=>by
  obtain ⟨h1,h2,h3,h4⟩:=L3 hb (l:=r) fun y hy=>h y (List.mem_cons_of_mem _ hy)
  obtain ⟨h5,h6⟩:=h x List.mem_cons_self
  simp only [qL,valL]
  have hd:=Int.mul_ediv_add_emod ((qL b r).2*1000000000+x) b
  refine ⟨?_,Int.emod_nonneg _ (by omega),Int.emod_lt_of_pos _ hb,?_⟩
  ·rw [Int.mul_add,h1,Int.mul_add,<- Int.mul_assoc,<- Int.mul_assoc,Int.mul_comm b 1000000000]
   omega
  ·intro y hy
   rcases List.mem_cons.1 hy with rfl|hy
   ·refine ⟨Int.ediv_nonneg (by omega) (by omega),Int.ediv_lt_of_lt_mul hb ?_⟩
    have h7:((qL b r).2+1)*1000000000<=b*1000000000:=Int.mul_le_mul_of_nonneg_right (by omega) (by decide)
    rw [Int.mul_comm b] at h7;omega
   ·exact h4 y hy
def qAt (b:Int) (l:List Int) (j:Nat):List Int:=List.replicate j 0++(qL b (l.drop j)).1
@[reducible] def Dw (l:List Int):List PV:=l.map fun x => .d (.v (.int .u32 x))
theorem Ee {n m:Nat}:∀ l:List Int,PV.ltL n m (Dw l)=true
 |[]=>rfl
 |x::r=>by simp only [List.map_cons,PV.ltL,PV.lt,Bool.true_and];exact Ee r
@[reducible] def shS (b:Int) (l:List Int) (j:Nat):PS:=⟨[[.d (.v (.int .u32 b))],Dw (qAt b l j),[.bsl 1 1 0 l.length l.length],[.d (.v (.int .u64 (qL b (l.drop j)).2))],[B3 l]],[]⟩
theorem Sp (l:List Int) (b:Int) (hl:l.length<=1000000) (hok:∀ x∈l,limbOk x) (hb:limbOk b) (hb0:0<b):Aw 176 [B3 l,.d (.v (.int .u32 b))] ⟨[],[]⟩ (.ret (.tup [B3 (qL b l).1,.d (.v (.int .u32 (qL b l).2))])) ⟨[],[]⟩:=by
 have key:Aw 176 [B3 l,.d (.v (.int .u32 b))] ⟨[],[]⟩ (.ret (.tup [.bsl 1 1 0 l.length l.length,.d (.v (.int .u32 (qL b l).2))])) (shS b l 0):=by
  refine ⟨enters_of Tryz.func176 rfl rfl,Aeo Ju Tryz.func176 rfl (Nat.le_of_ble_eq_true rfl) (Nat.zero_le _) (Nat.zero_le _) ?_⟩
  refine Av (Bj ?_)
  repeat' (first|refine rl1 ?_|refine rs1 ?_ ?_<;>intro h|fail)
  refine Av (Bj ?_)
  repeat' (first|refine rl1 ?_|refine rs1 ?_ ?_<;>intro h|fail)
  refine Abc (.int .u32 0) rfl rfl rfl rfl rfl rfl rfl (by rw [List.length_map];show 4*_<=_;omega) (by rw [List.length_map];omega) ?_
  repeat' (first|refine rl1 ?_|refine rs1 ?_ ?_<;>intro h|fail)
  refine Av (Bj ?_)
  repeat' (first|refine rl1 ?_|refine rs1 ?_ ?_<;>intro h|fail)
  refine Av (Av (Bj ?_))
  repeat' (first|refine rl1 ?_|refine rs1 ?_ ?_<;>intro h|fail)
  refine wcw (Ad2 l _) rfl rfl rfl (by repeat (first|exact Ae|refine Ab (Ac _) ?_)) ?_
  repeat' (first|refine rl1 ?_|refine rs1 ?_ ?_<;>intro h|fail)
  refine Sc ?_
  refine Yd [(3,.ptr 0 0),(6,.ptr 2 0),(7,.ptr 3 0),(15,.fn 195 [.ptr 4 0])] (by repeat (first|exact Ag|refine Aa rfl ?_)) ?_
  refine Agy (fun _ i _=>i) (fun s=>s) (shS b l) (fun s=>s<=l.length) (id:=4) (l:=l) l.length rfl ?_ (fun _ _=>rfl) (fun _ _ _=>rfl) rfl (Nat.le_refl _) (fun _ _ h _ _=>Nat.le_of_lt h) (fun _=>⟨Nat.le_refl _,Nat.le_refl _⟩) ?_ ?_
  ·simp [shS,qAt,Dw,qL]
   rfl
  ·rintro s i hi hs _
   obtain rfl:s=i+1:=hs
   obtain ⟨h5,h6⟩:=Hs hok hi
   obtain ⟨_,h7,h8,_⟩:=L3 hb0 (l:=l.drop (i+1)) fun x hx=>hok x (List.mem_of_mem_drop hx)
   have hb2:=hb.2
   have h9:(qL b (l.drop (i+1))).2*1000000000<=1000000000*1000000000:=Int.mul_le_mul_of_nonneg_right (by omega) (by decide)
   have ed:l.drop i=l.getD i 0::l.drop (i+1):=by rw [List.drop_eq_getElem_cons hi,List.getD_eq_getElem?_getD,List.getElem?_eq_getElem hi];rfl
   have h10:=(L3 hb0 (l:=l.drop i) fun x hx=>hok x (List.mem_of_mem_drop hx)).2.2.2 _ (by rw [ed,qL];exact List.mem_cons_self)
   have h11:=h10.1
   have h12:=h10.2
   have h13:0<=(qL b (l.drop (i+1))).2*1000000000+l.getD i 0/\(qL b (l.drop (i+1))).2*1000000000+l.getD i 0<=1000000000*1000000000+1000000000:=by omega
   have h14:=Int.emod_nonneg ((qL b (l.drop (i+1))).2*1000000000+l.getD i 0) (b:=b) (by omega)
   have h15:=Int.emod_lt_of_pos ((qL b (l.drop (i+1))).2*1000000000+l.getD i 0) hb0
   repeat' (first|refine rl2 ?_|refine rs2 ?_ ?_<;>intro h|fail)
   refine wst rfl rfl ⟨by show (0:Int)<=_;omega,by show _<=(18446744073709551615:Int);omega⟩ ?_
   repeat' (first|refine rl2 ?_|refine rs2 ?_ ?_<;>intro h|fail)
   refine Eu (fun k=>Nat.ble 12 k) [0,2] [] rfl (by kernel_rfl) ?_
   refine wafl (id:=2) rfl rfl rfl rfl rfl (by simp) rfl rfl ?_
   refine waf rfl rfl (fun _ _=>rfl) trivial ?_
   refine waf rfl rfl (fun _ _=>rfl) trivial ?_
   refine wafl (id:=0) rfl rfl rfl rfl rfl (by simp) rfl rfl ?_
   refine waf rfl rfl (fun _ _=>rfl) ⟨by show (0:Int)<=_;omega,by show _<=(18446744073709551615:Int);omega⟩ ?_
   refine waf rfl rfl (fun _ _=>rfl) ⟨by omega,by omega,by show _<=(18446744073709551615:Int);omega⟩ ?_
   refine waf rfl rfl (fun _ _=>rfl) ⟨by show (0:Int)<=_;omega,by show _<=(4294967295:Int);omega⟩ ?_
   refine waf rfl rfl (fun _ _=>rfl) trivial ?_
   refine wafl (id:=0) rfl rfl rfl rfl rfl (by simp) rfl rfl ?_
   refine waf rfl rfl (fun _ _=>rfl) ⟨by show (0:Int)<=_;omega,by show _<=(18446744073709551615:Int);omega⟩ ?_
   refine waf rfl rfl (fun _ _=>rfl) ⟨by omega,by omega⟩ ?_
   refine waf rfl rfl (fun _ _=>rfl) ⟨by omega,by omega⟩ ?_
   refine waco (id:=1) i rfl rfl rfl rfl (by show PV.ptr 1 (0+((i:Int)).toNat*1)=_;simp) rfl rfl (by simp [qAt,Ag6];omega) rfl ⟨fun id hid=>?_,by simp⟩ ?_
   ·simp at hid;rcases hid with rfl|rfl<;>rfl
   refine wac rfl rfl rfl rfl rfl trivial ⟨fun id hid=>?_,by simp⟩ ?_
   ·simp at hid;rcases hid with rfl|rfl<;>rfl
   refine Gp ?_
   have e1:(Dw (qAt b l (i+1))).set i (.d (.v (.int .u32 (((qL b (l.drop (i+1))).2*1000000000+l.getD i 0) / b))))=Dw (qAt b l i):=by
    have e2:(l.drop i)=l.getD i 0::l.drop (i+1):=ed
    simp only [qAt,e2,qL,Dw,List.replicate_succ',List.map_append,List.append_assoc]
    rw [List.set_append_right _ _ (by simp)]
    simp
   have e3:((qL b (l.drop (i+1))).2*1000000000+l.getD i 0) % b=(qL b (l.drop i)).2:=by rw [ed,qL]
   have hS:∀ z q,z=(qL b (l.drop i)).2->q=Dw (qAt b l i)->(⟨[[.d (.v (.int .u32 b))],q,[.bsl 1 1 0 l.length l.length],[.d (.v (.int .u64 z))],[B3 l]],[]⟩:PS)=shS b l i:=by rintro _ _ rfl rfl;rfl
   refine ⟨rfl,hS _ _ e3 e1,?_⟩
   have h16:∀ z q,z=(qL b (l.drop i)).2->q=Dw (qAt b l i)->(PV.ltL 5 0 [.d (.v (.int .u32 b))]&&(PV.ltL 5 0 q&&(PV.ltL 5 0 [.bsl 1 1 0 l.length l.length]&&(PV.ltL 5 0 [.d (.v (.int .u64 z))]&&(PV.ltL 5 0 [B3 l]&&true)))))=true:=by rintro _ _ rfl rfl;rw [Ee];rfl
   exact h16 _ _ e3 e1
  ·intro _
   rw [Q1]
   have h1:=L3 hb0 hok
   have hb2:=hb.2
   have h2:=h1.2.1
   have h3:=h1.2.2.1
   refine Bj ?_
   repeat' (first|refine rl1 ?_|refine rs1 ?_ ?_<;>intro h|fail)
   refine waf rfl rfl (fun _ _=>rfl) ⟨by show (0:Int)<=(qL b l).2;omega,by show (qL b l).2<=(4294967295:Int);omega⟩ ?_
   repeat' (first|refine rl1 ?_|refine rs1 ?_ ?_<;>intro h|fail)
   refine ⟨none,.inl ⟨rfl,.inr rfl⟩,_,rfl,?_,rfl,.inr rfl,_,B5 rfl,rfl,rfl⟩
   show (PV.ltL 5 0 [.d (.v (.int .u32 b))]&&(PV.ltL 5 0 (Dw (qAt b l 0))&&(PV.ltL 5 0 [.bsl 1 1 0 l.length l.length]&&(PV.ltL 5 0 [.d (.v (.int .u64 (qL b (l.drop 0)).2))]&&(PV.ltL 5 0 [B3 l]&&true)))))=true
   rw [Ee];rfl
 have hr:=does_ret 0 0 key (Nat.zero_le _) (Nat.zero_le _) rfl (r' := .tup [B3 (qL b l).1,.d (.v (.int .u32 (qL b l).2))]) ?_
 ·exact hr
 ·have hlen:l.length=((qL b l).1.map fun x=>DV.v (.int .u32 x)).length:=by simp [Ag6]
  refine Ag9 (B7 ?_ (B7 K9 Gl))
  have h:=Ox (S:=shS b l 0) (n:=0) (m:=0) (k:=1) (id:=1) (cap:=l.length) (ds:=(qL b l).1.map fun x => .v (.int .u32 x)) (by simp [qAt,Dw]) (Nat.zero_le _) (by rw [<- hlen];exact Nat.le_refl _) (by omega)
  rw [<- hlen] at h
  simpa [B3,B8,Function.comp_def] using h
def trimL:List Int->List Int
 |[]=>[]
 |x::r=>match trimL r with
  |[]=>if x=0 then [] else [x]
  |y::s=>x::y::s
theorem Lh:∀ l,(trimL l).length<=l.length
 |[]=>Nat.le_refl _
 |x::r=>by
  have h:=Lh r
  unfold trimL
  split
  ·rename_i e;split<;>simp
  ·rename_i y s e;rw [e] at h;simp at h |-;omega
theorem trimL_snoc:∀ (l:List Int) (x:Int),trimL (l++[x])=if x=0 then trimL l else l++[x]
 |[],x=>by simp [trimL]
 |a::l,x=>by
  rw [List.cons_append,trimL,trimL_snoc l x]
  by_cases h:x=0
  ·simp only [if_pos h];rw [trimL]
  ·simp only [if_neg h]
   cases l with
   |nil=>rfl
   |cons b l=>rfl
theorem Lj:∀ l,valL (trimL l)=valL l
 |[]=>rfl
 |x::r=>by
  have h:=Lj r
  unfold trimL
  split
  ·rename_i e
   rw [e] at h;simp only [valL] at h |-
   split<;>simp [valL]<;>omega
  ·rename_i y s e
   rw [e] at h
   rw [valL,h];rfl
theorem Li {p:Int->Prop}:∀ {l:List Int},(∀ x∈l,p x)->∀ x∈trimL l,p x
 |[],h=>h
 |x::r,h=>by
  have h1:=Li (l:=r) fun y hy=>h y (List.mem_cons_of_mem _ hy)
  unfold trimL
  split
  ·split
   ·simp
   ·intro y hy;simp at hy;subst hy;exact h _ List.mem_cons_self
  ·rename_i y s e
   rw [e] at h1
   intro z hz
   rcases List.mem_cons.1 hz with rfl|hz
   ·exact h _ List.mem_cons_self
   ·exact h1 z hz
@[reducible] def whP (neg:Bool) (l:List Int):PV := .agg [At neg,B3 l]
theorem wfinT {neg:Bool} {l:List Int} {j:Nat} (e:l.take j=trimL l) (h:neg=true):PV.agg [.d (.v (.bool (decide ((0:Int)<((l.take j).map B8).length)))),.d (.sl 1 ((l.take j).map B8))]=whP (neg && !decide (trimL l=[])) (trimL l):=by
 subst h
 rw [e]
 cases trimL l<;>simp
theorem wfinF {neg:Bool} {l:List Int} {j:Nat} (e:l.take j=trimL l) (h:neg=false):PV.agg [.d (.v (.bool false)),.d (.sl 1 ((l.take j).map B8))]=whP (neg && !decide (trimL l=[])) (trimL l):=by
 subst h
 rw [e];rfl
theorem Ti (neg:Bool) (l:List Int):Aw 112 [At neg,B3 l] ⟨[],[]⟩ (.ret (whP (neg && !decide (trimL l=[])) (trimL l))) ⟨[],[]⟩:=by
 refine Es Tryz.func112 rfl rfl (Nat.le_of_ble_eq_true rfl) rfl (Nat.le_refl _) ?_
 intro hf
 have hl:l.length<=9223372036854775807:=by have:=hf.2.1;simpa [Al0] using this
 repeat' (first|refine rl0 ?_|refine rs0 ?_ ?_<;>intro h|fail)
 refine Ca (ι := Nat) (ok:=fun j=>j<=l.length/\trimL (l.take j)=trimL l) (L:=fun j=>[(0,At neg),(1,B3 (l.take j)),(4,.ptr 0 0)]) (Sx:=fun _=>⟨[[At false,.d (.v (.slice none 0 0))]],[]⟩) (μ := fun j=>j) l.length ⟨Nat.le_refl _,by simp⟩ (by refine Aa rfl (Aa ?_ (Aa rfl Ag));rw [List.take_length];rfl) rfl ?_
 rintro j ⟨hj,ht⟩
 have hlen:((l.take j).map B8).length=j:=by simp;omega
 repeat' (first|refine rl0 ?_|refine rs0 ?_ ?_<;>intro h|fail)
 ·have h0:0<j:=by rw [hlen] at h;simpa using h
  obtain ⟨i,rfl⟩:∃ i,j=i+1:=⟨j-1,by omega⟩
  have hi:i<l.length:=by omega
  have hsn:l.take (i+1)=l.take i++[l[i]]:=List.take_succ_eq_append_getElem hi
  refine wix (B8 l[i]) rfl rfl rfl rfl rfl (by rw [hlen];simp [show ((i:Int)+1-1).toNat=i from by omega,hi]) (by rw [hlen];omega) ?_
  repeat' (first|refine rl0 ?_|refine rs0 ?_ ?_<;>intro h|fail)
  ·have hx:l[i]=0:=by simpa using h
   refine ⟨i,⟨by omega,?_⟩,by omega,by
    refine Aa rfl (Aa ?_ (Aa rfl Ag))
    show PV.d (.sl 1 _)=PV.d (.sl 1 _)
    rw [hlen,hsn]
    simp [show ((i:Int)+1-1).toNat=i from by omega,List.take_take],rfl⟩
   rw [<- ht,hsn,trimL_snoc,if_pos hx]
  all_goals
   have e:l.take (i+1)=trimL l:=by
    rw [<- ht,hsn,trimL_snoc,if_neg]
    rename_i hz;simpa using hz
   first|exact wfinT e h|exact wfinF e h
 all_goals
  have e:l.take j=trimL l:=by
   have h0:j=0:=by rename_i hz;rw [hlen] at hz;simp at hz;omega
   rw [<- ht,h0];rfl
  first|exact wfinT e h|exact wfinF e h
def rowK (x:Int) (o:List Int) (i:Nat) (u:List Int):Nat->List Int×Int
 |0=>(u,0)
 |k+1=>((rowK x o i u k).1.set (i+k) ((x*o.getD k 0+(rowK x o i u k).1.getD (i+k) 0+(rowK x o i u k).2) % 1000000000),(x*o.getD k 0+(rowK x o i u k).1.getD (i+k) 0+(rowK x o i u k).2) / 1000000000)
def rowL (x:Int) (o:List Int) (i:Nat) (u:List Int):List Int:=(rowK x o i u o.length).1.set (i+o.length) (rowK x o i u o.length).2
def mulAt (m o:List Int):Nat->List Int
 |0=>List.replicate (m.length+o.length) 0
 |i+1=>rowL (m.getD i 0) o i (mulAt m o i)
def mulL (m o:List Int):List Int:=mulAt m o m.length
theorem rowK_len (x:Int) (o:List Int) (i:Nat) (u:List Int):∀ k,(rowK x o i u k).1.length=u.length
 |0=>rfl
 |k+1=>by simp [rowK,rowK_len x o i u k]
theorem Akx (x:Int) (o:List Int) (i:Nat) (u:List Int):(rowL x o i u).length=u.length:=by simp [rowL,rowK_len]
theorem mulAt_len (m o:List Int):∀ i,(mulAt m o i).length=m.length+o.length
 |0=>by simp [mulAt]
 |i+1=>by rw [mulAt,Akx,mulAt_len m o i]
theorem getD_ok {l:List Int} (h:∀ z∈l,limbOk z) (i:Nat):limbOk (l.getD i 0):=by
 by_cases hi:i<l.length
 ·exact Hs h hi
 ·rw [List.getD_eq_getElem?_getD,List.getElem?_eq_none (by omega)];exact ⟨by simp,by simp⟩
theorem set_ok {l:List Int} {i:Nat} {v:Int} (h:∀ z∈l,limbOk z) (hv:limbOk v):∀ z∈l.set i v,limbOk z:=fun x hx=>by
 rcases List.mem_or_eq_of_mem_set hx with h1|rfl
 ·exact h x h1
 ·exact hv
theorem n_bound {x y u c:Int} (hx:limbOk x) (hy:limbOk y) (hu:limbOk u) (hc:limbOk c):0<=x*y/\0<=x*y+u+c/\x*y+u+c<1000000000*1000000000:=by
 obtain ⟨h1,h2⟩:=hx
 obtain ⟨h3,h4⟩:=hy
 obtain ⟨h5,h6⟩:=hu
 obtain ⟨h7,h8⟩:=hc
 have a:=Int.mul_nonneg h1 h3
 have b:x*y<=999999999*999999999:=Int.mul_le_mul (by omega) (by omega) h3 (by omega)
 omega
theorem Sl {x:Int} {o u:List Int} {i:Nat} (hx:limbOk x) (ho:∀ z∈o,limbOk z) (hu:∀ z∈u,limbOk z):∀ k,(∀ z∈(rowK x o i u k).1,limbOk z)/\limbOk (rowK x o i u k).2
 |0=>⟨hu,by simp [rowK,limbOk]⟩
 |k+1=>by
  obtain ⟨h1,h2⟩:=Sl (i:=i) hx ho hu k
  have h3:=n_bound hx (getD_ok ho k) (getD_ok h1 (i+k)) h2
  refine ⟨set_ok h1 ⟨Int.emod_nonneg _ (by omega),Int.emod_lt_of_pos _ (by omega)⟩,?_⟩
  simp only [rowK,limbOk];omega
theorem rowL_ok {x:Int} {o u:List Int} {i:Nat} (hx:limbOk x) (ho:∀ z∈o,limbOk z) (hu:∀ z∈u,limbOk z):∀ z∈rowL x o i u,limbOk z:=set_ok (Sl hx ho hu _).1 (Sl hx ho hu _).2
theorem Rw {m o:List Int} (hm:∀ z∈m,limbOk z) (ho:∀ z∈o,limbOk z):∀ i,∀ z∈mulAt m o i,limbOk z
 |0=>fun x hx=>by rw [List.eq_of_mem_replicate hx];exact ⟨by simp,by simp⟩
 |i+1=>rowL_ok (getD_ok hm i) ho (Rw hm ho i)
theorem getD_some {l:List Int} {j:Nat} (h:j<l.length):l[j]? = some (l.getD j 0):=by
 rw [List.getD_eq_getElem?_getD,List.getElem?_eq_getElem h];rfl
theorem Nh {l:List Int} {j:Nat} (h:j<l.length):(Dw l)[j]? = some (.d (.v (.int .u32 (l.getD j 0)))):=by
 rw [List.getElem?_map,getD_some h];rfl
theorem Jb (l:List Int) (j:Nat) (v:Int):(Dw l).set j (.d (.v (.int .u32 v)))=Dw (l.set j v):=by simp [Dw,List.map_set]
theorem Zy (n:Nat):Dw (List.replicate n 0)=List.replicate n (.d (.v (.int .u32 0))):=by simp [Dw]
@[reducible] def muS (na nb:Bool) (m o out:List Int):PS:=⟨[[At na,B3 m],[At nb,B3 o],[At false,.d (.v (.slice none 0 0))],Dw out],[]⟩
set_option maxHeartbeats 1000000 in
theorem mul_do (na nb:Bool) (m o:List Int) (hm:∀ z∈m,limbOk z) (ho:∀ z∈o,limbOk z) (hml:m.length<=1000000) (hol:o.length<=1000000) :
  Aw 79 [whP na m,whP nb o] ⟨[],[]⟩ (.ret (whP (!decide (na=nb) && !decide (trimL (mulL m o)=[])) (trimL (mulL m o)))) ⟨[],[]⟩:=by
 refine Dl Tryz.func79 rfl rfl (Nat.le_of_ble_eq_true rfl) (fun _=>?_)
 have hsum:((m.map B8).length:Int)+((o.map B8).length:Int)=((m.length+o.length:Nat):Int):=by simp
 refine C2 ?_
 repeat' (first|refine rl1 ?_|refine rs1 ?_ ?_<;>intro h|fail)
 refine C2 ?_
 repeat' (first|refine rl1 ?_|refine rs1 ?_ ?_<;>intro h|fail)
 refine Abc (n:=m.length+o.length) (.int .u32 0) rfl rfl rfl rfl rfl (by show PV.d (.v (.int .i64 (_+_)))=_;rw [hsum]) (by show PV.d (.v (.int .i64 (_+_)))=_;rw [hsum]) (by show 4*_<=_;omega) (by omega) ?_
 repeat' (first|refine rl1 ?_|refine rs1 ?_ ?_<;>intro h|fail)
 refine C2 ?_
 refine Co ?_
 repeat' (first|refine rl1 ?_|refine rs1 ?_ ?_<;>intro h|fail)
 refine Ca (ι := Nat) (ok:=fun i=>i<=m.length) (L:=fun i=>[(2,.ptr 0 0),(3,.ptr 1 0),(4,.ptr 2 0),(5,.bsl 1 3 0 (m.length+o.length) (m.length+o.length)),(21,B3 m),(22,An (m.map B8).length),(23,An i)]) (Sx:=fun i=>muS na nb m o (mulAt m o i)) (μ := fun i=>m.length-i) 0 (Nat.zero_le _) (by repeat (first|exact Ag|refine Aa rfl ?_)) (congrArg (fun q=>(⟨[[At na,B3 m],[At nb,B3 o],[At false,.d (.v (.slice none 0 0))],q],[]⟩:PS)) (Zy _).symm) ?_
 rintro i hi
 have hx:=getD_ok hm i
 repeat' (first|refine rl1 ?_|refine rs1 ?_ ?_<;>intro h|fail)
 ·have hlt:i<m.length:=by simpa using h
  refine wix (B8 (m.getD i 0)) rfl rfl rfl rfl rfl (by rw [List.getD_eq_getElem?_getD];simp [hlt]) (by omega) ?_
  repeat' (first|refine rl1 ?_|refine rs1 ?_ ?_<;>intro h|fail)
  refine Ca (ι := Nat) (ok:=fun k=>k<=o.length) (L:=fun k=>[(2,.ptr 0 0),(3,.ptr 1 0),(4,.ptr 2 0),(5,.bsl 1 3 0 (m.length+o.length) (m.length+o.length)),(6,An i),(7,.d (.v (.int .u32 (m.getD i 0)))),(8,.d (.v (.int .u64 (rowK (m.getD i 0) o i (mulAt m o i) k).2))),(21,B3 m),(22,An (m.map B8).length),(23,An i),(29,B3 o),(30,An (o.map B8).length),(31,An k)]) (Sx:=fun k=>muS na nb m o (rowK (m.getD i 0) o i (mulAt m o i) k).1) (μ := fun k=>o.length-k) 0 (Nat.zero_le _) (by repeat (first|exact Ag|refine Aa rfl ?_)) rfl ?_
  rintro k hk
  obtain ⟨hu,hc⟩:=Sl (i:=i) hx ho (Rw hm ho i) k
  have hn:=n_bound hx (getD_ok ho k) (getD_ok hu (i+k)) hc
  repeat' (first|refine rl1 ?_|refine rs1 ?_ ?_<;>intro h|fail)
  ·have hlk:k<o.length:=by simpa using h
   refine wix (B8 (o.getD k 0)) rfl rfl rfl rfl rfl (by rw [List.getD_eq_getElem?_getD];simp [hlk]) (by omega) ?_
   have hul:(rowK (m.getD i 0) o i (mulAt m o i) k).1.length=m.length+o.length:=by rw [rowK_len,mulAt_len]
   have hx1:=hx.1
   have hx2:=hx.2
   obtain ⟨hy1,hy2⟩:=getD_ok ho k
   obtain ⟨hu1,hu2⟩:=getD_ok hu (i+k)
   obtain ⟨hc1,hc2⟩:=hc
   obtain ⟨hn1,hn2,hn3⟩:=hn
   repeat' (first|refine rl1 ?_|refine rs1 ?_ ?_<;>intro h|fail)
   refine wst rfl rfl ⟨by show (0:Int)<=_;omega,by show _<=(18446744073709551615:Int);omega⟩ ?_
   repeat' (first|refine rl1 ?_|refine rs1 ?_ ?_<;>intro h|fail)
   refine wst rfl rfl ⟨by show (0:Int)<=_;omega,by show _<=(18446744073709551615:Int);omega⟩ ?_
   refine wst rfl rfl ⟨by show (0:Int)<=_;omega,by show _<=(18446744073709551615:Int);omega⟩ ?_
   repeat' (first|refine rl1 ?_|refine rs1 ?_ ?_<;>intro h|fail)
   refine wsld (i+k) rfl rfl rfl (by show PV.ptr 3 (0+((i:Int)+(k:Int)).toNat*1)=_;congr 1;omega) rfl (Nh (by rw [hul];omega)) ?_
   refine wst rfl rfl ⟨by show (0:Int)<=_;omega,by show _<=(18446744073709551615:Int);omega⟩ ?_
   refine wst rfl rfl ⟨by show (0:Int)<=_;omega,by show _<=(18446744073709551615:Int);omega⟩ ?_
   repeat' (first|refine rl1 ?_|refine rs1 ?_ ?_<;>intro h|fail)
   refine wst rfl rfl ⟨by show (0:Int)<=_;omega,by show _<=(18446744073709551615:Int);omega⟩ ?_
   repeat' (first|refine rl1 ?_|refine rs1 ?_ ?_<;>intro h|fail)
   refine wst rfl rfl ⟨by show (0:Int)<=_;omega,by show _<=(4294967295:Int);omega⟩ ?_
   repeat' (first|refine rl1 ?_|refine rs1 ?_ ?_<;>intro h|fail)
   refine wst rfl rfl ⟨by omega,by omega,by show _<=(18446744073709551615:Int);omega⟩ ?_
   repeat' (first|refine rl1 ?_|refine rs1 ?_ ?_<;>intro h|fail)
   refine Adh (id:=3) (i+k) rfl rfl rfl (by show PV.ptr 3 (0+((i:Int)+(k:Int)).toNat*1)=_;congr 1;omega) rfl rfl (by rw [List.length_map,hul];omega) rfl ?_
   repeat' (first|refine rl1 ?_|refine rs1 ?_ ?_<;>intro h|fail)
   refine ⟨k+1,?_,by omega,(by repeat (first|exact Ag|refine Aa rfl ?_)),congrArg (fun q=>(⟨[[At na,B3 m],[At nb,B3 o],[At false,.d (.v (.slice none 0 0))],q],[]⟩:PS)) (Jb _ _ _)⟩
   omega
  ·obtain rfl:k=o.length:=by simp at h;omega
   obtain ⟨hc1,hc2⟩:=hc
   have hul:(rowK (m.getD i 0) o i (mulAt m o i) o.length).1.length=m.length+o.length:=by rw [rowK_len,mulAt_len]
   repeat' (first|refine rl1 ?_|refine rs1 ?_ ?_<;>intro h|fail)
   refine wst rfl rfl ⟨by show (0:Int)<=_;omega,by show _<=(4294967295:Int);omega⟩ ?_
   refine wst rfl rfl ⟨by omega,by simp;omega⟩ ?_
   refine Adh (id:=3) (i+o.length) rfl rfl rfl (by show PV.ptr 3 (0+((i:Int)+((o.map B8).length:Int)).toNat*1)=_;rw [List.length_map];congr 1;omega) rfl rfl (by rw [List.length_map,hul];omega) rfl ?_
   repeat' (first|refine rl1 ?_|refine rs1 ?_ ?_<;>intro h|fail)
   refine ⟨i+1,?_,by omega,(by repeat (first|exact Ag|refine Aa rfl ?_)),congrArg (fun q=>(⟨[[At na,B3 m],[At nb,B3 o],[At false,.d (.v (.slice none 0 0))],q],[]⟩:PS)) (Jb _ _ _)⟩
   omega
 ·obtain rfl:i=m.length:=by simp at h;omega
  refine On 3 0 [(2,.ptr 0 0),(3,.ptr 1 0),(4,.ptr 2 0),(5,B3 (mulAt m o m.length))] (Nat.zero_le _) (Nat.zero_le _) rfl ?_ ?_
  ·refine Eg (Aas rfl) (Eg (Aas rfl) (Eg (Aas rfl) (Eg ?_ Si)))
   have hlen:m.length+o.length=((mulAt m o m.length).map fun x=>DV.v (.int .u32 x)).length:=by simp [mulAt_len]
   have h:=Ox (S:=muS na nb m o (mulAt m o m.length)) (n:=3) (m:=0) (k:=1) (id:=3) (cap:=m.length+o.length) (ds:=(mulAt m o m.length).map fun x => .v (.int .u32 x)) (by simp [Dw]) (Nat.le_refl _) (by rw [<- hlen];exact Nat.le_refl _) (by omega)
   rw [<- hlen] at h
   show Ret _ _ _ (.bsl 1 3 0 (m.length+o.length) (m.length+o.length)) _
   simpa [B3,B8,Function.comp_def] using h
  ·refine Sb ?_
   have e:PS.cut (muS na nb m o (mulAt m o m.length)) 3 0=⟨[[At na,B3 m],[At nb,B3 o],[At false,.d (.v (.slice none 0 0))]],[]⟩:=rfl
   rw [e]
   repeat' (first|refine rl1 ?_|refine rs1 ?_ ?_<;>intro h|fail)
   refine Gh (Ti (!decide (na=nb)) (mulAt m o m.length)) rfl rfl rfl rfl rfl (by repeat (first|exact Ae|refine Ab (Ac _) ?_)) ?_
   repeat' (first|refine rl1 ?_|refine rs1 ?_ ?_<;>intro h|fail)
   exact Zk (.inr rfl) rfl rfl (L5 (B7 K9 (B7 K9 Gl)))
def deadB:List Nat->Nat->List Oper->Bool
 |_,_,[]=>true
 |D,k,o::r=>D.any (aft o)&&deadB (k::D) (k+1) r
section
variable {P:Program} {N:Nat} {ops:Array Oper} {rest:List Oper} {o:Oper} {F:Nat->PV} {S Sx:PS} {q:WRes->Prop} {ch:Nat->Bool} {U Ut:List Nat} {k:Nat} {D:List Nat} {c:Value}
theorem Afs {U:List Nat} {id:Nat} (h:U.any (Nat.beq id)=true):id∈U:=by
 obtain ⟨x,hx,h2⟩:=List.any_eq_true.1 h
 rw [Nat.eq_of_beq_eq_true h2];exact hx
theorem Bd {S S':PS} {a:Nat} {U Ut:List Nat} (h:S'.boxes[a]? = S.boxes[a]?) (t:Agree U Ut S S'):Agree (a::U) Ut S S' :=
 ⟨fun id hid=>(List.mem_cons.1 hid).elim (fun e=>e▸h) (t.boxes id),t.toks⟩
theorem Aep {f:Nat} {fn:Func} {c:Code} {args:List PV} {S S':PS} {x:Value} (hf:P.funcs[f]? = some fn) (hb:fn.body=some c) (hn:args.length<=fn.ntmps)
  (h:PW P fn.ntmps c (fun e _ S1=>e = .panic [{ v:=x,recovered:=false }]/\S1.cut S.boxes.length S.toks.length=S'/\(S1.boxes.take S.boxes.length).all (fun c=>PV.ltL S.boxes.length S.toks.length c)=true) (Hj args) S):EvC P f args S (.panic x) S':=by
 intro K w vs hI hA
 have hl:=hA.length
 refine calls_of_wp hf hb (wp_mono (h.run0 K w { tmps:=vs.toArray++Array.replicate (fn.ntmps-vs.toArray.size) undef,defers:=[] } hI ⟨by simp;omega,fun t=>?_⟩) ?_)
 ·have:=D9 args vs (fn.ntmps-vs.toArray.size) t hA
  rw [Array.getD_eq_getD_getElem?]
  rw [List.getD_eq_getElem?_getD] at this
  rw [<- Array.getElem?_toList]
  simpa using this
 ·intro e a' w' hq
  obtain ⟨K',F',S1,h1,h2,h3,h4,rfl,rfl,hall⟩:=hq
  exact ⟨h4,_,C8 hI h1 (Nat.le_refl _) (Nat.le_refl _),h2.cut hall,rfl⟩
end
theorem Fh {f:Nat} {fn:Func} {c:Code} {args:List PV} {S S':PS} {x:Value} (hf:Tryz.prog.funcs[f]? = some fn) (hname:(fn.name == "runtime.NumGoroutine")=false) (hb:fn.body=some c) (hn:args.length<=fn.ntmps)
  (h:PW Tryz.prog fn.ntmps c (fun e _ S1=>e = .panic [{ v:=x,recovered:=false }]/\S1.cut S.boxes.length S.toks.length=S'/\(S1.boxes.take S.boxes.length).all (fun c=>PV.ltL S.boxes.length S.toks.length c)=true) (Hj args) S):Aw f args S (.panic x) S' :=
 ⟨enters_of hf hname hb,Aep hf hb hn h⟩
section
variable {N:Nat} {ops:Array Oper} {rest:List Oper} {o:Oper} {F:Nat->PV} {S S':PS} {q:WRes->Prop} {r:PV} {ch:Nat->Bool} {U Ut:List Nat} {k:Nat} {D:List Nat} {c:Operand} {al:Array Operand} {ats:Array TypeId} {f:Nat} {caps args:List PV} {c0 c1:List PV} {x:Value}
theorem wb1 (id:Nat) (hD:Aw f args ⟨[c0],[]⟩ (.ret r) ⟨[c1],[]⟩) (kk:WK Tryz.prog N ops rest (Cd N o.dst r F) S' q) (hg:Al ops F o=some true:=by exact rfl) (ho:o.op = .call { callee := .value c,args:=al,argTypes:=ats }:=by exact rfl) (hc:evP F c = .fn f caps:=by exact rfl) (hbox:S.boxes[id]? = some c0:=by exact rfl) (hl0:PV.ltL 0 0 c0=true:=by exact rfl) (hl1:PV.ltL 0 0 c1=true:=by exact rfl) (hlr:r.lt 0 0=true:=by exact rfl)
  (hlt:PV.ltL 1 0 args=true:=by exact rfl) (ha:F7 S (al.toList.map (evP F)++caps) (PV.renL (fbN [id]) (ftN [] S.toks.length) args):=by repeat (first|exact Ae|refine Ab (Ac _) ?_)) (hS:S.setBox id c1=S':=by exact rfl):WK Tryz.prog N ops (o::rest) F S q:=wcb hD hg ho hc hbox hl0 hl1 hlr hlt ha hS kk
theorem wp1 (hD:Aw f args ⟨[],[]⟩ (.ret r) ⟨[],[]⟩) (kk:WK Tryz.prog N ops rest (Cd N o.dst r F) S q) (hg:Al ops F o=some true:=by exact rfl) (ho:o.op = .call { callee := .value c,args:=al,argTypes:=ats }:=by exact rfl) (hc:evP F c = .fn f caps:=by exact rfl)
  (hlt:PV.ltL 0 0 args=true:=by exact rfl) (hlr:r.lt 0 0=true:=by exact rfl) (ha:F7 S (al.toList.map (evP F)++caps) args:=by repeat (first|exact Ae|refine Ab (Ac _) ?_)):WK Tryz.prog N ops (o::rest) F S q:=Gh hD hg ho hc hlt hlr ha kk
theorem wp1n (hD:Aw f args ⟨[],[]⟩ (.ret r) ⟨[],[]⟩) {bm:Bool} (kk:WA Tryz.prog N ops chN U Ut (k+1) rest (Cd N o.dst r F) S bm D q) (hg:Al ops F o=some true:=by exact rfl) (ho:o.op = .call { callee := .value c,args:=al,argTypes:=ats }:=by exact rfl) (hc:evP F c = .fn f caps:=by exact rfl)
  (hlt:PV.ltL 0 0 args=true:=by exact rfl) (hlr:r.lt 0 0=true:=by exact rfl) (ha:F7 S (al.toList.map (evP F)++caps) args:=by repeat (first|exact Ae|refine Ab (Ac _) ?_)):WA Tryz.prog N ops chN U Ut k (o::rest) F S bm D q:=wcn hD hg ho hc hlt hlr ha kk
end
def AgK (ops:Array Oper) (k:Nat) (us:List (Nat×List Nat)) (S S':PS):Prop:=∀ e∈us,J1 ops k e.1=true->Agree e.2 [] S S'
theorem W5 {ops:Array Oper} {k:Nat} {S S':PS}:AgK ops k [] S S':=fun _ h=>by cases h
theorem Y1 {ops:Array Oper} {k j:Nat} {ids:List Nat} {us:List (Nat×List Nat)} {S S':PS} (h:J1 ops k j=false) (t:AgK ops k us S S'):AgK ops k ((j,ids)::us) S S':=fun e he hu=>by
 rcases List.mem_cons.1 he with rfl|he
 ·rw [h] at hu;cases hu
 ·exact t e he hu
theorem Gi {ops:Array Oper} {k j:Nat} {ids:List Nat} {us:List (Nat×List Nat)} {S S':PS} (h:Agree ids [] S S') (t:AgK ops k us S S'):AgK ops k ((j,ids)::us) S S':=fun e he hu=>by
 rcases List.mem_cons.1 he with rfl|he
 ·exact h
 ·exact t e he hu
theorem agK_ok {ops:Array Oper} {k:Nat} {us:List (Nat×List Nat)} {S S':PS} (h:AgK ops k us S S') (j:Nat) (hj:J1 ops k j=true):Agree (Ck us j) [] S S':=by
 refine ⟨fun id hid=>?_,by simp⟩
 obtain ⟨e,he,h1,h2⟩:=Wc hid
 exact (h e he (by rw [h1];exact hj)).boxes id h2
section
variable {N:Nat} {ops:Array Oper} {rest:List Oper} {o:Oper} {F:Nat->PV} {S S' S'':PS} {q:WRes->Prop} {C:Prop} {r r':PV} {Q:Exit->(Nat->PV)->PS->Prop} {ch:Nat->Bool} {us:List (Nat×List Nat)} {k:Nat} {bm:Bool} {D:List Nat}
theorem b0 {id:Nat} {l:List Oper} (ch:Nat->Bool) (us:List (Nat×List Nat)) (h:Bw.WB Tryz.prog N l.toArray ch (Ck us) (fun _=>[]) 0 l F S false [] (Adg Q)) (hm:Tryz.prog.follows .mixedOrders=true:=by exact rfl) (hB:Lp l.toArray ch=true:=by kernel_rfl):PW Tryz.prog N (.region id l.toArray true) Q F S:=Bw.pw_regionB ch (Ck us) (fun _=>[]) hm hB h
theorem b1 (h:q (.done F S)):Bw.WB Tryz.prog N ops ch (Ck us) (fun _=>[]) k [] F S false D q:=⟨⟨_,.nil,h⟩⟩
theorem Xb (ho:∀ S',Agree (Ck us k) [] S S'->OpS Tryz.prog o F S' r S') (kk:Bw.WB Tryz.prog N ops ch (Ck us) (fun _=>[]) (k+1) rest (Cd N o.dst r F) S bm D q) (hg:Al ops F o=some true:=by exact rfl) (hc:ch k=false:=by first|exact rfl|kernel_rfl):Bw.WB Tryz.prog N ops ch (Ck us) (fun _=>[]) k (o::rest) F S bm D q:=let ⟨x,h1,h2⟩:=kk.ex; ⟨⟨x,.free hg hc ho h1,h2⟩⟩
theorem bpin (ho:OpS Tryz.prog o F S r S) (kk:Bw.WB Tryz.prog N ops ch (Ck us) (fun _=>[]) (k+1) rest (Cd N o.dst r F) S bm D q) (hg:Al ops F o=some true:=by exact rfl) (hp:(!ch k&&To ops ch k)=true:=by first|exact rfl|kernel_rfl):Bw.WB Tryz.prog N ops ch (Ck us) (fun _=>[]) k (o::rest) F S bm D q:=by
 simp only [Bool.and_eq_true,Bool.not_eq_true'] at hp
 exact let ⟨x,h1,h2⟩:=kk.ex; ⟨⟨x,.pin hg hp.1 hp.2 ho h1,h2⟩⟩
theorem Aj7 (ho:OpS Tryz.prog o F S r S') (kk:Bw.WB Tryz.prog N ops ch (Ck us) (fun _=>[]) (k+1) rest (Cd N o.dst r F) S' false D q) (hg:Al ops F o=some true:=by exact rfl) (hc:ch k=true:=by first|exact rfl|kernel_rfl) (ha:AgK ops k us S S':=by repeat (first|exact W5|refine Gi (Bd rfl E4) ?_|refine Gi (Bd rfl (Bd rfl E4)) ?_|refine Gi (Bd rfl (Bd rfl (Bd rfl E4))) ?_|refine Gi (Bd rfl (Bd rfl (Bd rfl (Bd rfl E4)))) ?_|refine Y1 (by kernel_rfl) ?_)):Bw.WB Tryz.prog N ops ch (Ck us) (fun _=>[]) k (o::rest) F S false D q:=let ⟨x,h1,h2⟩:=kk.ex; ⟨⟨x,.chain hg hc ho (fun j hj=>agK_ok ha j hj) h1,h2⟩⟩
theorem bdead {c:Value} {Sx:PS}:∀ (rest:List Oper) (k:Nat) (F:Nat->PV) (D:List Nat),deadB D k rest=true->Bw.WalkA Tryz.prog N ops ch (Ck us) (fun _=>[]) k rest F S true D (.panic c Sx)
 |[],_,_,_,_ => .nilX
 |o::r,k,F,D,h=>by
  simp only [deadB,Bool.and_eq_true] at h
  exact .dead h.1 (bdead r (k+1) _ _ h.2)
theorem Ib {c:Value} {Sx:PS} (ho:OpX Tryz.prog o F S c Sx) (h:q (.panic c Sx)) (hg:Al ops F o=some true:=by exact rfl) (hc:ch k=true:=by first|exact rfl|kernel_rfl) (hd:deadB (k::D) (k+1) rest=true:=by kernel_rfl):Bw.WB Tryz.prog N ops ch (Ck us) (fun _=>[]) k (o::rest) F S false D q:=⟨⟨_,.boom hg hc ho (bdead rest (k+1) _ _ hd),h⟩⟩
theorem b3 (kk:Bw.WB Tryz.prog N ops ch (Ck us) (fun _=>[]) (k+1) rest (Cd N o.dst r F) S bm D q) (hg:Al ops F o=some true:=by exact rfl) (hc:ch k=false:=by first|exact rfl|kernel_rfl) (h:∀ S',Agree (Ck us k) [] S S'->Hd tyi Ba F S' o.op=some (C,r,S'):=by exact fun _ _=>rfl) (hC:C:=by first|exact True.intro|(simp only [IntKind.lo,IntKind.hi];omega)|omega|decide):Bw.WB Tryz.prog N ops ch (Ck us) (fun _=>[]) k (o::rest) F S bm D q:=Xb (fun S' ha=>Hz Fj (h S' ha) hC) kk hg hc
theorem b5 {t:TypeId} {x:Operand} {id off:Nat} {c:List PV} {p:PV} (kk:Bw.WB Tryz.prog N ops ch (Ck us) (fun _=>[]) (k+1) rest (Cd N o.dst p F) S bm D q) (hg:Al ops F o=some true:=by exact rfl) (hc:ch k=false:=by first|exact rfl|kernel_rfl) (ho:o.op = .load t x:=by exact rfl) (hk:(Ba t && !(tyi t).isRow)=true:=by exact rfl) (hx:evP F x = .ptr id off:=by exact rfl) (hU:(Ck us k).any (Nat.beq id)=true:=by first|exact rfl|kernel_rfl) (hb:S.boxes[id]? = some c:=by exact rfl) (hpp:c[off]? = some p:=by exact rfl):Bw.WB Tryz.prog N ops ch (Ck us) (fun _=>[]) k (o::rest) F S bm D q:=by
 simp only [Bool.and_eq_true,Bool.not_eq_true'] at hk
 exact Xb (fun S' ha=>R8 ho (Fj t hk.1) hk.2 hx (by rw [ha.boxes id (Afs hU)];exact hb) hpp) kk hg hc
theorem b6 {t:TypeId} {x:Operand} {id off:Nat} {c:List PV} (kk:Bw.WB Tryz.prog N ops ch (Ck us) (fun _=>[]) (k+1) rest (Cd N o.dst r' F) S bm D q) (hg:Al ops F o=some true:=by exact rfl) (hc:ch k=false:=by first|exact rfl|kernel_rfl) (ho:o.op = .load t x:=by exact rfl) (hk:(Ba t&&(tyi t).isRow)=true:=by exact rfl) (hx:evP F x = .ptr id off:=by exact rfl) (hU:(Ck us k).any (Nat.beq id)=true:=by first|exact rfl|kernel_rfl) (hb:S.boxes[id]? = some c:=by exact rfl) (hle:Nat.ble (off+(tyi t).size) c.length=true:=by exact rfl) (hr:PV.agg ((c.drop off).take (tyi t).size)=r':=by first|(apply Ol rfl;repeat (first|exact Iq rfl|apply Af3 rfl|apply Af4 rfl|apply Af6 rfl))|exact Ai9 rfl|(dsimp only [List.length_cons,List.length_nil,List.length_append,Nat.reduceAdd];rfl)|rfl):Bw.WB Tryz.prog N ops ch (Ck us) (fun _=>[]) k (o::rest) F S bm D q:=by
 subst hr
 simp only [Bool.and_eq_true] at hk
 exact Xb (fun S' ha=>Vz ho (Fj t hk.1) hk.2 hx (by rw [ha.boxes id (Afs hU)];exact hb) hle) kk hg hc
theorem b7 (kk:Bw.WB Tryz.prog N ops ch (Ck us) (fun _=>[]) (k+1) rest (Cd N o.dst r' F) S bm D q) (hg:Al ops F o=some true:=by exact rfl) (hc:ch k=false:=by first|exact rfl|kernel_rfl) (h:∀ S',Agree (Ck us k) [] S S'->He tyi Ba F S' o.op=some (C,r,S'):=by exact fun _ _=>rfl) (hr:r=r':=by first|(apply Ol rfl;repeat (first|exact Iq rfl|apply Af3 rfl|apply Af4 rfl|apply Af6 rfl))|exact Ai9 rfl|(dsimp only [List.length_cons,List.length_nil,List.length_append,Nat.reduceAdd];rfl)|rfl) (hC:C:=by first|exact True.intro|(simp only [IntKind.lo,IntKind.hi];omega)|omega|decide):Bw.WB Tryz.prog N ops ch (Ck us) (fun _=>[]) k (o::rest) F S bm D q:=by
 subst hr;exact Xb (fun S' ha=>Fv Fj (h S' ha) hC) kk hg hc
theorem b9 (kk:Bw.WB Tryz.prog N ops ch (Ck us) (fun _=>[]) (k+1) rest (Cd N o.dst r' F) S'' false D q) (hg:Al ops F o=some true:=by exact rfl) (hc:ch k=true:=by first|exact rfl|kernel_rfl) (h:He tyi Ba F S o.op=some (C,r,S'):=by exact rfl) (hr:r=r':=by first|(apply Ol rfl;repeat (first|exact Iq rfl|apply Af3 rfl|apply Af4 rfl|apply Af6 rfl))|exact Ai9 rfl|(dsimp only [List.length_cons,List.length_nil,List.length_append,Nat.reduceAdd];rfl)|rfl) (hS:S'=S'':=by (apply Ajh rfl;repeat (first|exact Iq rfl|apply Af3 rfl|apply Af4 rfl|apply Af6 rfl|exact Af1 rfl|apply X0 rfl|exact Agc rfl|apply X5 rfl|exact Af5))) (hC:C:=by first|exact True.intro|(simp only [IntKind.lo,IntKind.hi];omega)|omega|decide) (ha:AgK ops k us S S'':=by repeat (first|exact W5|refine Gi (Bd rfl E4) ?_|refine Gi (Bd rfl (Bd rfl E4)) ?_|refine Gi (Bd rfl (Bd rfl (Bd rfl E4))) ?_|refine Gi (Bd rfl (Bd rfl (Bd rfl (Bd rfl E4)))) ?_|refine Y1 (by kernel_rfl) ?_)):Bw.WB Tryz.prog N ops ch (Ck us) (fun _=>[]) k (o::rest) F S false D q:=by
 subst hr;subst hS;exact Aj7 (Fv Fj h hC) kk hg hc ha
theorem Fk {t:TypeId} {x y:Operand} {l:List (List DV)} {kd:IntKind} {j:Int} (e:List DV) (he:l[j.toNat]? = some e) (h0:0<=j) (kk:Bw.WB Tryz.prog N ops ch (Ck us) (fun _=>[]) (k+1) rest (Cd N o.dst (.ep e) F) S bm D q) (hg:Al ops F o=some true:=by exact rfl) (hc:ch k=false:=by first|exact rfl|kernel_rfl) (ho:o.op = .indexAddr t x y:=by exact rfl) (hk:(Ba t&&Nat.beq (tyi t).kind 2)=true:=by exact rfl) (hx:∀ S':PS,S'.toS (tyi t).ek (evP F x)=some l:=by exact fun _=>rfl) (hy:evP F y = .d (.v (.int kd j)):=by exact rfl):Bw.WB Tryz.prog N ops ch (Ck us) (fun _=>[]) k (o::rest) F S bm D q:=by
 simp only [Bool.and_eq_true] at hk
 exact Xb (fun S' _=>Ji ho (Fj t hk.1) (Nat.eq_of_beq_eq_true hk.2) (hx S') hy h0 he) kk hg hc
variable {c:Operand} {al:Array Operand} {ats:Array TypeId} {f:Nat} {caps args:List PV} {c0 c1:List PV} {x:Value}
theorem Dj (hD:Aw f args ⟨[],[]⟩ (.ret r) ⟨[],[]⟩) (kk:Bw.WB Tryz.prog N ops ch (Ck us) (fun _=>[]) (k+1) rest (Cd N o.dst r F) S bm D q) (hg:Al ops F o=some true:=by exact rfl) (ho:o.op = .call { callee := .value c,args:=al,argTypes:=ats }:=by exact rfl) (hv:evP F c = .fn f caps:=by exact rfl) (hlt:PV.ltL 0 0 args=true:=by exact rfl) (hlr:r.lt 0 0=true:=by exact rfl) (ha:F7 S (al.toList.map (evP F)++caps) args:=by repeat (first|exact Ae|refine Ab (Ac _) ?_)) (hp:(!ch k&&To ops ch k)=true:=by first|exact rfl|kernel_rfl):Bw.WB Tryz.prog N ops ch (Ck us) (fun _=>[]) k (o::rest) F S bm D q:=by
 have h:=Jj ho hD.1 hv hlt ha hD.2
 rw [Mq r hlr] at h
 exact bpin h kk hg hp
theorem Ah (hD:Aw f args ⟨[],[]⟩ (.ret r) ⟨[],[]⟩) (kk:Bw.WB Tryz.prog N ops ch (Ck us) (fun _=>[]) (k+1) rest (Cd N o.dst r F) S bm D q) (hg:Al ops F o=some true:=by exact rfl) (hc:ch k=false:=by first|exact rfl|kernel_rfl) (ho:o.op = .call { callee := .value c,args:=al,argTypes:=ats }:=by exact rfl) (hv:evP F c = .fn f caps:=by exact rfl) (hlt:PV.ltL 0 0 args=true:=by exact rfl) (hlr:r.lt 0 0=true:=by exact rfl) (ha:∀ S':PS,F7 S' (al.toList.map (evP F)++caps) args:=by intro _;repeat (first|exact Ae|refine Ab (Ac _) ?_)):Bw.WB Tryz.prog N ops ch (Ck us) (fun _=>[]) k (o::rest) F S bm D q:=by
 refine Xb (fun S' _=>?_) kk hg hc
 have h:=Jj ho hD.1 hv hlt (ha S') hD.2
 rwa [Mq r hlr] at h
end
theorem rl7 {G X:Prop} (h:X) (t:Hx X->G:=by (intro h;(first|refine b1 ?_|refine b2 ?_|refine b3 ?_|refine b5 ?_|refine b6 ?_|refine b7 ?_|refine b9 ?_|refine b4 ?_|refine b8 ?_|fail);(repeat' (first|refine b1 ?_|refine b2 ?_|refine b3 ?_|refine b5 ?_|refine b6 ?_|refine b7 ?_|refine b9 ?_|refine b4 ?_|refine b8 ?_|fail));exact h.out)):G:=t ⟨h⟩
section
variable {P:Program} {N:Nat} {Q:Exit->(Nat->PV)->PS->Prop} {F:Nat->PV} {S:PS}
theorem pw_coe {c:Code} (t:Nat) {p p':PV} (hF:F t=p) (hc:Coe S p p') (h:PW P N c Q (Pt t p' F) S):PW P N c Q F S:=by
 refine ⟨fun ro mm K w a hI hFr=>h.run ro mm K w a hI ⟨hFr.size,fun t'=>?_⟩⟩
 unfold Pt
 cases hb:Nat.beq t' t with
 |true =>
  have:=Nat.eq_of_beq_eq_true hb
  subst this
  have h4:=hFr.rep t'
  rw [hF] at h4
  exact hc K w _ hI h4
 |false=>exact hFr.rep t'
end
section
variable {N:Nat} {ops:Array Oper} {rest:List Oper} {o:Oper} {F:Nat->PV} {S S':PS} {q:WRes->Prop} {ch:Nat->Bool} {us:List (Nat×List Nat)} {k:Nat} {D:List Nat}
theorem J9 {C:Prop} {r:PV} (r':PV) (hg:Al ops F o=some true) (h:Hd tyi Ba F S o.op=some (C,r,S')) (hr:r=r') (hC:C) (k:WK Tryz.prog N ops rest (Cd N o.dst r' F) S' q):WK Tryz.prog N ops (o::rest) F S q:=by
 subst hr;exact wst hg h hC k
theorem bapp {t:TypeId} {x y:Operand} {tk n j e:Nat} {l:List (List DV)} (news:List (List DV)) (h1:(l.length+news.length)*(tyi t).eb<=140737488355328) (kk:Bw.WB Tryz.prog N ops ch (Ck us) (fun _=>[]) (k+1) rest (Cd N o.dst (.hd tk (n+1)) F) S' false D q) (hg:Al ops F o=some true:=by exact rfl) (hc:ch k=true:=by first|exact rfl|kernel_rfl)
  (ho:o.op = .call { callee := .builtin .append,args := #[x,y],argTypes := #[t,t] }:=by exact rfl) (hx:evP F x = .hd tk n:=by exact rfl)
  (hT:S.toks[tk]? = some ⟨n,j,l,e⟩:=by exact rfl) (hk:(Ba t&&Nat.beq (tyi t).kind 2&&Nat.beq j (tyi t).ek&&Nat.beq e (tyi t).elem)=true:=by exact rfl) (hy:S.toS (tyi t).ek (evP F y)=some news:=by exact rfl) (hb:Nat.ble 1 (tyi t).eb=true:=by exact rfl) (hS:S.setTok tk ⟨n+1,j,l++news,e⟩=S':=by exact rfl) (ha:AgK ops k us S S':=by repeat (first|exact W5|refine Gi (Bd rfl E4) ?_)):Bw.WB Tryz.prog N ops ch (Ck us) (fun _=>[]) k (o::rest) F S false D q:=by
 subst hS
 simp only [Bool.and_eq_true] at hk
 have h2:l.length+news.length<=9223372036854775807:=by
  have h3:1<=(tyi t).eb:=by simpa using hb
  have h4:l.length+news.length<=(l.length+news.length)*(tyi t).eb:=Nat.le_mul_of_pos_right _ h3
  omega
 exact Aj7 (J6 (T:=⟨n,j,l,e⟩) ho (Fj t hk.1.1.1) (Nat.eq_of_beq_eq_true hk.1.1.2) hx hT (Nat.eq_of_beq_eq_true hk.1.2) (Nat.eq_of_beq_eq_true hk.2) hy h1 h2) kk hg hc ha
end
section
variable {N:Nat} {ops:Array Oper} {rest:List Oper} {o:Oper} {F:Nat->PV} {S:PS} {q:WRes->Prop}
theorem Ale {k:IntKind} {a b:Int} {ty yt:TypeId} {x y:Operand} (hb:b≠0) (kk:WK Tryz.prog N ops rest (Cd N o.dst (.d (.v (.int k (a.tmod b)))) F) S q) (hg:Al ops F o=some true:=by exact rfl) (ho:o.op = .binOp .rem ty x y yt:=by exact rfl) (hx:evP F x = .d (.v (.int k a)):=by exact rfl) (hy:evP F y = .d (.v (.int k b)):=by exact rfl):WK Tryz.prog N ops (o::rest) F S q:=Eo hg (Aaf ho hx hy hb) kk
end
def Ack (a b c:Int):List Int:=[a.tmod 10000,b.tmod 10000,c.tmod 10000]
theorem F6 (a:Int) : -9999<=a.tmod 10000/\a.tmod 10000<=9999:=by
 have h1:=Int.tmod_lt_of_pos a (b:=10000) (by decide)
 have h2:=Int.lt_tmod_of_pos a (b:=10000) (by decide)
 omega
@[reducible] def Adf (a:Int):PV := .d (.v (.int .i16 a))
def rvB (a b c:Int):Nat->List PV
 |0=>[An 0,An 0,An 0]
 |1=>[An (a.tmod 10000),An 0,An 0]
 |2=>[An (a.tmod 10000),An (b.tmod 10000),An 0]
 |_=>[An (a.tmod 10000),An (b.tmod 10000),An (c.tmod 10000)]
set_option maxHeartbeats 1000000 in
theorem rvals_do (a b c:Int) (ha : -32768<=a/\a<=32767) (hb : -32768<=b/\b<=32767) (hc : -32768<=c/\c<=32767):Aw 8 [.agg [Adf a,Adf b,Adf c]] ⟨[],[]⟩ (.ret (Dv (Ack a b c))) ⟨[],[]⟩:=by
 refine Dl Tryz.func8 rfl rfl (Nat.le_of_ble_eq_true rfl) (fun _=>?_)
 refine C2 ?_
 repeat' (first|refine rl1 ?_|refine rs1 ?_ ?_<;>intro h|fail)
 refine C2 ?_
 repeat' (first|refine rl1 ?_|refine rs1 ?_ ?_<;>intro h|fail)
 refine Abc (n:=3) (.int .i64 0) rfl rfl rfl rfl rfl rfl rfl (by show 8*3<=_;omega) (by omega) ?_
 repeat' (first|refine rl1 ?_|refine rs1 ?_ ?_<;>intro h|fail)
 refine C2 ?_
 refine Co ?_
 repeat' (first|refine rl1 ?_|refine rs1 ?_ ?_<;>intro h|fail)
 refine Ca (ι := Nat) (ok:=fun i=>i<=3) (L:=fun i=>[(1,.ptr 0 0),(3,.bsl 1 1 0 3 3),(4,An i)]) (Sx:=fun i=>⟨[[Adf a,Adf b,Adf c],rvB a b c i],[]⟩) (μ := fun i=>3-i) 0 (Nat.zero_le _) (by repeat (first|exact Ag|refine Aa rfl ?_)) rfl ?_
 rintro i hi
 repeat' (first|refine rl1 ?_|refine rs1 ?_ ?_<;>intro h|fail)
 ·have hlt:i<3:=by have:=of_decide_eq_true h;omega
  have h3:i=0\/i=1\/i=2:=by omega
  have ga:=F6 a
  have gb:=F6 b
  have gc:=F6 c
  rcases h3 with rfl|rfl|rfl
  ·refine wst rfl rfl ⟨by omega,by show _<(3:Int);omega⟩ ?_
   repeat' (first|refine rl1 ?_|refine rs1 ?_ ?_<;>intro h|fail)
   refine wst rfl rfl ⟨by show (-9223372036854775808:Int)<=_;omega,by show _<=(9223372036854775807:Int);omega⟩ ?_
   repeat' (first|refine rl1 ?_|refine rs1 ?_ ?_<;>intro h|fail)
   refine Ale (b:=10000) (by decide) ?_
   repeat' (first|refine rl1 ?_|refine rs1 ?_ ?_<;>intro h|fail)
   exact ⟨1,by omega,by omega,(by repeat (first|exact Ag|refine Aa rfl ?_)),rfl⟩
  ·refine wst rfl rfl ⟨by omega,by show _<(3:Int);omega⟩ ?_
   repeat' (first|refine rl1 ?_|refine rs1 ?_ ?_<;>intro h|fail)
   refine wst rfl rfl ⟨by show (-9223372036854775808:Int)<=_;omega,by show _<=(9223372036854775807:Int);omega⟩ ?_
   repeat' (first|refine rl1 ?_|refine rs1 ?_ ?_<;>intro h|fail)
   refine Ale (b:=10000) (by decide) ?_
   repeat' (first|refine rl1 ?_|refine rs1 ?_ ?_<;>intro h|fail)
   exact ⟨2,by omega,by omega,(by repeat (first|exact Ag|refine Aa rfl ?_)),rfl⟩
  ·refine wst rfl rfl ⟨by omega,by show _<(3:Int);omega⟩ ?_
   repeat' (first|refine rl1 ?_|refine rs1 ?_ ?_<;>intro h|fail)
   refine wst rfl rfl ⟨by show (-9223372036854775808:Int)<=_;omega,by show _<=(9223372036854775807:Int);omega⟩ ?_
   repeat' (first|refine rl1 ?_|refine rs1 ?_ ?_<;>intro h|fail)
   refine Ale (b:=10000) (by decide) ?_
   repeat' (first|refine rl1 ?_|refine rs1 ?_ ?_<;>intro h|fail)
   exact ⟨3,by omega,by omega,(by repeat (first|exact Ag|refine Aa rfl ?_)),rfl⟩
 ·obtain rfl:i=3:=by have:=of_decide_eq_false h;omega
  refine On 1 0 [(3,Dv (Ack a b c))] (Nat.zero_le _) (Nat.zero_le _) rfl ?_ ?_
  ·refine Eg ?_ Si
   exact Ox (S:=⟨[[Adf a,Adf b,Adf c],rvB a b c 3],[]⟩) (n:=1) (m:=0) (k:=1) (id:=1) (cap:=3) (ds:=(Ack a b c).map fun x => .v (.int .i64 x)) rfl (Nat.le_refl _) (Nat.le_refl _) (by omega)
  ·refine Sb ?_
   repeat' (first|refine rl1 ?_|refine rs1 ?_ ?_<;>intro h|fail)
   exact Zk (.inr rfl) rfl rfl K9
end Go.Proofs.YtjagmmmcibdibaaGreatDoor
namespace Go.Proofs.YtjagmmmcibdibaaGreatDoor
open Go.RowKit Go.ChangeShapes Go.ChangeAt Go.WideShapes
theorem shp_i16s {n:Nat} {ds:List DV} (h:Shp Tryz.prog n 31 ds):∃ a b c:Int,ds=[.v (.int .i16 a),.v (.int .i16 b),.v (.int .i16 c)]/\(-32768<=a/\a<=32767)/\(-32768<=b/\b<=32767)/\(-32768<=c/\c<=32767):=by
 obtain ⟨k,parts,rfl,rfl,h1,h2⟩:=shp_arr Tryz.underlying31 h
 obtain ⟨x,y,z,rfl⟩:=parts3 h1
 obtain ⟨a,rfl,wa⟩:=Sq Tryz.underlying30 (h2 x (by simp))
 obtain ⟨b,rfl,wb⟩:=Sq Tryz.underlying30 (h2 y (by simp))
 obtain ⟨c,rfl,wc⟩:=Sq Tryz.underlying30 (h2 z (by simp))
 exact ⟨a,b,c,rfl,bounds_i16 wa,bounds_i16 wb,bounds_i16 wc⟩
end Go.Proofs.YtjagmmmcibdibaaGreatDoor
namespace Go.Proofs.YtjagmmmcibdibaaGreatDoor
open Go.RowKit Go.ChangeShapes Go.ChangeAt Go.WideShapes
theorem shp_ints {n:Nat} {l:List (List DV)} (h:∀ x∈l,Shp Tryz.prog n 3 x):∃ zs:List Int,l=zs.map fun n=>[DV.v (.int .i64 n)]:=by
 obtain ⟨zs,h1,_⟩:=Afi (fun n:Int=>[DV.v (.int .i64 n)]) (R:=fun _=>True) fun x hx=>by
  obtain ⟨z,rfl,hw⟩:=Sq Tryz.underlying3 (h x hx)
  exact ⟨z,rfl,trivial⟩
 exact ⟨zs,h1⟩
theorem Amt {n:Nat} {ds:List DV} (h:Shp Tryz.prog n 33 ds):∃ (vars:List ByteArray) (vals:List Int) (a b c:Int),ds.map PV.d=[Db vars,Dv vals,Adf a,Adf b,Adf c]/\(-32768<=a/\a<=32767)/\(-32768<=b/\b<=32767)/\(-32768<=c/\c<=32767):=by
 obtain ⟨m,parts,rfl,rfl,hl,hp⟩:=Ajk Tryz.underlying33 h
 obtain ⟨x,y,z,rfl⟩:=parts3 hl
 have hx:=hp 0 _ x rfl rfl
 have hy:=hp 1 _ y rfl rfl
 have hz:=hp 2 _ z rfl rfl
 obtain ⟨j,l,_,rfl,h1⟩:=Aj0 Tryz.underlying28 hx
 obtain ⟨vars,rfl,_⟩:=shp_strs h1
 obtain ⟨k,r,_,rfl,h2⟩:=Aj0 Tryz.underlying29 hy
 obtain ⟨vals,rfl⟩:=shp_ints h2
 obtain ⟨a,b,c,rfl,ha,hb,hc⟩:=shp_i16s hz
 refine ⟨vars,vals,a,b,c,?_,ha,hb,hc⟩
 rw [Am1,Am0];rfl
def limN (n:Nat):List Int:=if h:n=0 then [] else ((n % 1000000000:Nat):Int)::limN (n / 1000000000)
termination_by n
decreasing_by omega
theorem limN_zero:limN 0=[]:=by rw [limN];rfl
theorem limN_pos {n:Nat} (h:n≠0):limN n=((n % 1000000000:Nat):Int)::limN (n / 1000000000):=by rw [limN,dif_neg h]
theorem limN_val (n:Nat):valL (limN n)=n:=by
 induction n using Nat.strongRecOn with
 |ind n ih =>
  by_cases h:n=0
  ·subst h;rw [limN_zero];rfl
  ·rw [limN_pos h,valL,ih _ (by omega)];omega
theorem limN_ok (n:Nat):∀ x∈limN n,limbOk x:=by
 induction n using Nat.strongRecOn with
 |ind n ih =>
  by_cases h:n=0
  ·subst h;rw [limN_zero];simp
  ·rw [limN_pos h]
   intro x hx
   rcases List.mem_cons.1 hx with rfl|hx
   ·exact ⟨by omega,by omega⟩
   ·exact ih _ (by omega) x hx
theorem limN_nil {n:Nat}:limN n=[]<->n=0:=by
 constructor
 ·intro h;have:=limN_val n;rw [h] at this;simp only [valL] at this;omega
 ·rintro rfl;exact limN_zero
theorem trimL_eq:∀ {l:List Int},(∀ x∈l,limbOk x)->trimL l=limN (valL l).toNat
 |[],_=>by simp [trimL,valL,limN_zero]
 |x::r,h=>by
  have hr:=fun y hy=>h y (List.mem_cons_of_mem x hy)
  have h1:=trimL_eq hr
  have h0:=A1 hr
  obtain ⟨h2,h3⟩:=h x List.mem_cons_self
  rw [trimL,valL]
  by_cases hz:valL r=0
  ·rw [h1,hz]
   simp only [Int.toNat_zero,limN_zero]
   split
   ·rename_i e;subst e;simp [limN_zero]
   ·rename_i e
    rw [limN_pos (by omega)]
    simp only [Int.mul_zero,Int.add_zero]
    rw [show x.toNat / 1000000000=0 by omega,limN_zero]
    congr 1;omega
  ·rw [h1]
   have hn:limN (valL r).toNat≠[]:=by rw [Ne,limN_nil];omega
   rw [limN_pos (n:=(x+1000000000*valL r).toNat) (by omega),show (x+1000000000*valL r).toNat / 1000000000=(valL r).toNat by omega]
   split
   ·rename_i e;exact absurd e hn
   ·rename_i y s e;rw [e];congr 1;omega
theorem limN_len {n k:Nat} (h:n<1000000000 ^ k):(limN n).length<=k:=by
 induction k generalizing n with
 |zero=>simp at h;subst h;rw [limN_zero];exact Nat.le_refl _
 |succ k ih =>
  by_cases hn:n=0
  ·subst hn;rw [limN_zero];simp
  ·rw [limN_pos hn]
   have:=ih (n:=n / 1000000000) (by rw [Nat.pow_succ] at h;omega)
   simp;exact this
theorem limN_len' {n k : Nat} (h : (limN n).length <= k) : n < 1000000000 ^ k := by
  induction k generalizing n with
  | zero => have : limN n = [] := List.length_eq_zero_iff.1 (by omega)
            rw [limN_nil] at this; subst this; decide
  | succ k ih =>
    by_cases hn : n = 0
    . subst hn; exact Nat.pow_pos (by decide)
    . rw [limN_pos hn] at h
      have := ih (n := n / 1000000000) (by simpa using h)
      rw [Nat.pow_succ]; omega
theorem Bc (l:List Int):∀ i,valL (l.take (i+1))=valL (l.take i)+1000000000 ^ i*l.getD i 0:=by
 intro i
 by_cases h:i<l.length
 ·rw [List.take_succ_eq_append_getElem h,valL_append,List.length_take,Nat.min_eq_left (by omega),List.getD_eq_getElem?_getD,List.getElem?_eq_getElem h]
  simp [valL]
 ·rw [List.take_of_length_le (by omega),List.take_of_length_le (by omega),List.getD_eq_getElem?_getD,List.getElem?_eq_none (by omega)];simp
theorem Gv {a b:Nat} (h:a<=b):(1000000000:Int) ^ a<=1000000000 ^ b:=by
 have h1:((1000000000 ^ a:Nat):Int)<=((1000000000 ^ b:Nat):Int):=Int.ofNat_le.2 (Nat.pow_le_pow_right (by decide) h)
 rw [Int.natCast_pow,Int.natCast_pow] at h1;exact h1
theorem Jl (k:Nat):(0:Int)<1000000000 ^ k:=Int.pow_pos (by decide)
def Bo (m o:List Int):Nat->List Int×Int
 |0=>([],0)
 |i+1=>((Bo m o i).1++[(m.getD i 0+(Bo m o i).2+o.getD i 0) % 1000000000],(m.getD i 0+(Bo m o i).2+o.getD i 0) / 1000000000)
def M0 (m o:List Int):List Int:=if 0<(Bo m o m.length).2 then (Bo m o m.length).1++[(Bo m o m.length).2] else (Bo m o m.length).1
theorem Ci (m o:List Int):∀ i,(Bo m o i).1.length=i
 |0=>rfl
 |i+1=>by simp [Bo,Ci m o i]
theorem Nl {m o:List Int} (hm:∀ z∈m,limbOk z) (ho:∀ z∈o,limbOk z):∀ i,(∀ z∈(Bo m o i).1,limbOk z)/\0<=(Bo m o i).2/\(Bo m o i).2<=1
 |0=>by simp [Bo]
 |i+1=>by
  obtain ⟨h1,h2,h3⟩:=Nl hm ho i
  obtain ⟨h4,h5⟩:=getD_ok hm i
  obtain ⟨h6,h7⟩:=getD_ok ho i
  simp only [Bo]
  refine ⟨fun z hz=>?_,by omega,by omega⟩
  rcases List.mem_append.1 hz with hz|hz
  ·exact h1 z hz
  ·simp at hz;subst hz;exact ⟨by omega,by omega⟩
theorem V5 (m o:List Int):∀ i,valL (Bo m o i).1+1000000000 ^ i*(Bo m o i).2=valL (m.take i)+valL (o.take i)
 |0=>by simp [Bo,valL]
 |i+1=>by
  have h:=V5 m o i
  rw [Bc,Bc,Bo,valL_append,Ci]
  simp only [valL]
  rw [Int.pow_succ]
  have hd:=Int.mul_ediv_add_emod (m.getD i 0+(Bo m o i).2+o.getD i 0) 1000000000
  grind
theorem V6 {m o:List Int} (hm:∀ z∈m,limbOk z) (ho:∀ z∈o,limbOk z) (hl:o.length<=m.length):valL (M0 m o)=valL m+valL o/\(∀ z∈M0 m o,limbOk z)/\(M0 m o).length<=m.length+1:=by
 have h:=V5 m o m.length
 rw [List.take_length,List.take_of_length_le hl] at h
 obtain ⟨h1,h2,h3⟩:=Nl hm ho m.length
 have h4:=Ci m o m.length
 unfold M0
 split
 ·refine ⟨?_,fun z hz=>?_,by simp [h4]⟩
  ·rw [valL_append,h4];simp only [valL];grind
  ·rcases List.mem_append.1 hz with hz|hz
   ·exact h1 z hz
   ·simp at hz;subst hz;exact ⟨by omega,by omega⟩
 ·refine ⟨?_,h1,by omega⟩
  have:(Bo m o m.length).2=0:=by omega
  rw [this] at h;omega
def minusK (m o:List Int):Nat->List Int×Int
 |0=>([],0)
 |i+1=>((minusK m o i).1++[(if m.getD i 0-(minusK m o i).2-o.getD i 0<0 then m.getD i 0-(minusK m o i).2-o.getD i 0+1000000000 else m.getD i 0-(minusK m o i).2-o.getD i 0)],if m.getD i 0-(minusK m o i).2-o.getD i 0<0 then 1 else 0)
def minusL (m o:List Int):List Int:=(minusK m o m.length).1
theorem minusK_len (m o:List Int):∀ i,(minusK m o i).1.length=i
 |0=>rfl
 |i+1=>by simp [minusK,minusK_len m o i]
theorem minusK_ok {m o:List Int} (hm:∀ z∈m,limbOk z) (ho:∀ z∈o,limbOk z):∀ i,(∀ z∈(minusK m o i).1,limbOk z)/\0<=(minusK m o i).2/\(minusK m o i).2<=1
 |0=>by simp [minusK]
 |i+1=>by
  obtain ⟨h1,h2,h3⟩:=minusK_ok hm ho i
  obtain ⟨h4,h5⟩:=getD_ok hm i
  obtain ⟨h6,h7⟩:=getD_ok ho i
  simp only [minusK]
  refine ⟨fun z hz=>?_,by split<;>omega,by split<;>omega⟩
  rcases List.mem_append.1 hz with hz|hz
  ·exact h1 z hz
  ·rw [List.mem_singleton] at hz;subst hz;unfold limbOk;split<;>omega
theorem G7 (m o:List Int):∀ i,valL (minusK m o i).1-1000000000 ^ i*(minusK m o i).2=valL (m.take i)-valL (o.take i)
 |0=>by simp [minusK,valL]
 |i+1=>by
  have h:=G7 m o i
  rw [Bc,Bc,minusK,valL_append,minusK_len]
  simp only [valL]
  rw [Int.pow_succ]
  split<;>grind
theorem minusL_val {m o:List Int} (hm:∀ z∈m,limbOk z) (ho:∀ z∈o,limbOk z) (hl:o.length<=m.length) (hv:valL o<=valL m):valL (minusL m o)=valL m-valL o/\(∀ z∈minusL m o,limbOk z)/\(minusL m o).length=m.length:=by
 have h:=G7 m o m.length
 rw [List.take_length,List.take_of_length_le hl] at h
 obtain ⟨h1,h2,h3⟩:=minusK_ok hm ho m.length
 have h4:=minusK_len m o m.length
 have h5:=Cn h1
 rw [h4] at h5
 have hb:(minusK m o m.length).2=0:=by
  rcases (show (minusK m o m.length).2=0\/(minusK m o m.length).2=1 by omega) with e|e
  ·exact e
  ·rw [e] at h;simp at h;omega
 rw [hb] at h
 exact ⟨by unfold minusL;omega,h1,h4⟩
def cmpK (m o:List Int):Nat->Int
 |0=>0
 |i+1=>if m.getD i 0<o.getD i 0 then -1 else if o.getD i 0<m.getD i 0 then 1 else cmpK m o i
def Cx (a b:Int):Int:=if a<b then -1 else if b<a then 1 else 0
theorem Kg {m o:List Int} (hm:∀ z∈m,limbOk z) (ho:∀ z∈o,limbOk z):∀ i,cmpK m o i=Cx (valL (m.take i)) (valL (o.take i))
 |0=>by simp [cmpK,valL,Cx]
 |i+1=>by
  have h:=Kg hm ho i
  rw [Bc,Bc,cmpK]
  have h1:=Cn (l:=m.take i) fun z hz=>hm z (List.mem_of_mem_take hz)
  have h2:=Cn (l:=o.take i) fun z hz=>ho z (List.mem_of_mem_take hz)
  have h3:=A1 (l:=m.take i) fun z hz=>hm z (List.mem_of_mem_take hz)
  have h4:=A1 (l:=o.take i) fun z hz=>ho z (List.mem_of_mem_take hz)
  have h5:(1000000000:Int) ^ (m.take i).length<=1000000000 ^ i:=Gv (by rw [List.length_take];omega)
  have h6:(1000000000:Int) ^ (o.take i).length<=1000000000 ^ i:=Gv (by rw [List.length_take];omega)
  have h7:=Jl i
  split
  ·rename_i hlt
   have h8:(1000000000:Int) ^ i*(m.getD i 0+1)<=1000000000 ^ i*o.getD i 0:=Int.mul_le_mul_of_nonneg_left (by omega) (by omega)
   rw [Int.mul_add] at h8
   rw [Cx,if_pos (by omega)]
  ·split
   ·rename_i hlt
    have h8:(1000000000:Int) ^ i*(o.getD i 0+1)<=1000000000 ^ i*m.getD i 0:=Int.mul_le_mul_of_nonneg_left (by omega) (by omega)
    rw [Int.mul_add] at h8
    rw [Cx,if_neg (by omega),if_pos (by omega)]
   ·have e:m.getD i 0=o.getD i 0:=by omega
    rw [h,e];unfold Cx
    congr 1
    ·simp
    ·congr 1;simp
def cmpL (m o:List Int):Int:=if m.length<o.length then -1 else if o.length<m.length then 1 else cmpK m o m.length
theorem limN_low {n:Nat} (h:n≠0):1000000000 ^ ((limN n).length-1)<=n:=by
 induction n using Nat.strongRecOn with
 |ind n ih =>
  rw [limN_pos h]
  simp only [List.length_cons,Nat.add_sub_cancel]
  by_cases h2:n / 1000000000=0
  ·rw [h2,limN_zero];simp;omega
  ·have:=ih _ (by omega) h2
   have hl:(limN (n / 1000000000)).length≠0:=by rw [Ne,List.length_eq_zero_iff,limN_nil];exact h2
   obtain ⟨k,hk⟩:∃ k,(limN (n / 1000000000)).length=k+1:=⟨(limN (n / 1000000000)).length-1,by omega⟩
   rw [hk] at this |-
   simp only [Nat.add_sub_cancel] at this
   rw [Nat.pow_succ];omega
theorem cmpL_val (a b:Nat):cmpL (limN a) (limN b)=Cx a b:=by
 unfold cmpL
 have ha:=Cn (limN_ok a)
 have hb:=Cn (limN_ok b)
 rw [limN_val] at ha hb
 split
 ·rename_i h
  have h0:b≠0:=by rintro rfl;rw [limN_zero] at h;simp at h
  have h1:=limN_low h0
  have h2:(1000000000:Int) ^ (limN a).length<=1000000000 ^ ((limN b).length-1):=Gv (by omega)
  have h3:((1000000000 ^ ((limN b).length-1):Nat):Int)<=b:=by exact_mod_cast h1
  rw [Int.natCast_pow] at h3
  rw [Cx,if_pos];exact Int.lt_of_lt_of_le ha (Int.le_trans h2 h3)
 ·split
  ·rename_i h
   have h0:a≠0:=by rintro rfl;rw [limN_zero] at h;simp at h
   have h1:=limN_low h0
   have h2:(1000000000:Int) ^ (limN b).length<=1000000000 ^ ((limN a).length-1):=Gv (by omega)
   have h3:((1000000000 ^ ((limN a).length-1):Nat):Int)<=a:=by exact_mod_cast h1
   rw [Int.natCast_pow] at h3
   have h4:=Int.lt_of_lt_of_le hb (Int.le_trans h2 h3)
   rw [Cx,if_neg (by omega),if_pos h4]
  ·have he:(limN a).length=(limN b).length:=by omega
   rw [Kg (limN_ok a) (limN_ok b),List.take_length,he,List.take_length,limN_val,limN_val]
theorem H0:∀ {l:List Int} {j:Nat} {v:Int},j<l.length->valL (l.set j v)=valL l+1000000000 ^ j*(v-l.getD j 0)
 |x::r,0,v,_=>by simp [valL];omega
 |x::r,j+1,v,h=>by
  have h1:=H0 (l:=r) (j:=j) (v:=v) (by simpa using h)
  simp only [List.set_cons_succ,valL,h1,List.getD_cons_succ,Int.pow_succ]
  grind
theorem Kp {l:List Int} {i j:Nat} {v:Int} (h:i≠j):(l.set i v).getD j 0=l.getD j 0:=by
 simp only [List.getD_eq_getElem?_getD,List.getElem?_set_ne h]
theorem rowK_high (x:Int) (o:List Int) (i:Nat) (u:List Int):∀ (k j:Nat),i+k<=j->(rowK x o i u k).1.getD j 0=u.getD j 0
 |0,_,_=>rfl
 |k+1,j,h=>by rw [rowK,Kp (by omega),rowK_high x o i u k j (by omega)]
theorem Aat {x:Int} {o:List Int} {i:Nat} {u:List Int} (hu:i+o.length<=u.length):∀ k,k<=o.length->valL (rowK x o i u k).1+1000000000 ^ (i+k)*(rowK x o i u k).2=valL u+1000000000 ^ i*(x*valL (o.take k))
 |0,_=>by simp [rowK,valL]
 |k+1,hk=>by
  have h:=Aat (x:=x) hu k (by omega)
  rw [rowK,H0 (by rw [rowK_len];omega),Bc,show i+(k+1)=(i+k)+1 by omega,Int.pow_succ,Int.pow_add]
  rw [Int.pow_add] at h
  have hd:=Int.mul_ediv_add_emod (x*o.getD k 0+(rowK x o i u k).1.getD (i+k) 0+(rowK x o i u k).2) 1000000000
  grind
theorem Ahc {x:Int} {o:List Int} {i:Nat} {u:List Int} {j:Nat} (h:i+o.length<j):(rowL x o i u).getD j 0=u.getD j 0:=by
 rw [rowL,Kp (by omega),rowK_high _ _ _ _ _ _ (by omega)]
theorem Aky {x:Int} {o:List Int} {i:Nat} {u:List Int} (hu:i+o.length<u.length) (h0:u.getD (i+o.length) 0=0):valL (rowL x o i u)=valL u+1000000000 ^ i*(x*valL o):=by
 have h:=Aat (x:=x) (i:=i) (u:=u) (o:=o) (by omega) o.length (Nat.le_refl _)
 rw [List.take_length] at h
 rw [rowL,H0 (by rw [rowK_len];omega),rowK_high _ _ _ _ _ _ (Nat.le_refl _),h0,Int.sub_zero];exact h
theorem mulAt_high (m o:List Int):∀ (i j:Nat),i+o.length<=j->(mulAt m o i).getD j 0=0
 |0,j,_=>by
  rw [mulAt,List.getD_eq_getElem?_getD]
  by_cases h:j<m.length+o.length
  ·rw [List.getElem?_eq_getElem (by simpa using h)];simp
  ·rw [List.getElem?_eq_none (by simpa using h)];rfl
 |i+1,j,h=>by rw [mulAt,Ahc (by omega),mulAt_high m o i j (by omega)]
theorem Aa6 (n:Nat):valL (List.replicate n 0)=0:=by
 induction n with
 |zero=>rfl
 |succ n ih=>rw [List.replicate_succ,valL,ih];rfl
theorem mulAt_val (m o:List Int):∀ i,i<=m.length->valL (mulAt m o i)=valL (m.take i)*valL o
 |0,_=>by simp [mulAt,Aa6,valL]
 |i+1,h=>by
  have h1:=mulAt_val m o i (by omega)
  rw [mulAt,Aky (by rw [mulAt_len];omega) (mulAt_high m o i _ (Nat.le_refl _)),Bc,h1]
  grind
theorem mulL_val (m o:List Int):valL (mulL m o)=valL m*valL o:=by
 have:=mulAt_val m o m.length (Nat.le_refl _)
 rwa [List.take_length] at this
def Dh (by':Int) (m:List Int):Nat->List Int×Int
 |0=>([],0)
 |i+1=>((Dh by' m i).1++[(m.getD i 0*by'+(Dh by' m i).2) % 1000000000],(m.getD i 0*by'+(Dh by' m i).2) / 1000000000)
def D1 (m:List Int) (by':Int):List Int:=(Dh by' m m.length).1++[(Dh by' m m.length).2]
theorem Ei (b:Int) (m:List Int):∀ i,(Dh b m i).1.length=i
 |0=>rfl
 |i+1=>by simp [Dh,Ei b m i]
theorem Ip {x y c:Int} (hx:limbOk x) (hy:limbOk y) (hc:limbOk c):0<=x*y+c/\x*y+c<1000000000*1000000000/\(x*y+c) / 1000000000<1000000000:=by
 obtain ⟨h1,h2⟩:=hx
 obtain ⟨h3,h4⟩:=hy
 obtain ⟨h7,h8⟩:=hc
 have a:=Int.mul_nonneg h1 h3
 have b:x*y<=999999999*999999999:=Int.mul_le_mul (by omega) (by omega) h3 (by omega)
 omega
theorem Np {b:Int} {m:List Int} (hb:limbOk b) (hm:∀ z∈m,limbOk z):∀ i,(∀ z∈(Dh b m i).1,limbOk z)/\limbOk (Dh b m i).2
 |0=>by simp [Dh,limbOk]
 |i+1=>by
  obtain ⟨h1,h2⟩:=Np hb hm i
  have h3:=Ip (getD_ok hm i) hb h2
  simp only [Dh]
  refine ⟨fun z hz=>?_,by unfold limbOk;omega⟩
  rcases List.mem_append.1 hz with hz|hz
  ·exact h1 z hz
  ·rw [List.mem_singleton] at hz;subst hz;unfold limbOk;omega
theorem Wb (b:Int) (m:List Int):∀ i,valL (Dh b m i).1+1000000000 ^ i*(Dh b m i).2=b*valL (m.take i)
 |0=>by simp [Dh,valL]
 |i+1=>by
  have h:=Wb b m i
  rw [Bc,Dh,valL_append,Ei]
  simp only [valL]
  rw [Int.pow_succ]
  have hd:=Int.mul_ediv_add_emod (m.getD i 0*b+(Dh b m i).2) 1000000000
  grind
theorem Lc {m:List Int} {b:Int}:valL (D1 m b)=b*valL m:=by
 have h:=Wb b m m.length
 rw [List.take_length] at h
 rw [D1,valL_append,Ei];simp only [valL];grind
theorem So {m:List Int} {b:Int} (hb:limbOk b) (hm:∀ z∈m,limbOk z):∀ z∈D1 m b,limbOk z:=fun z hz=>by
 obtain ⟨h1,h2⟩:=Np hb hm m.length
 rcases List.mem_append.1 hz with hz|hz
 ·exact h1 z hz
 ·rw [List.mem_singleton] at hz;subst hz;exact h2
theorem Lb (m:List Int) (b:Int):(D1 m b).length=m.length+1:=by simp [D1,Ei]
end Go.Proofs.YtjagmmmcibdibaaGreatDoor
namespace Go.Proofs.YtjagmmmcibdibaaGreatDoor.D4
open Go.RowKit
def valL:List Int->Int
 |[]=>0
 |x::r=>x+10000*valL r
def limbOk (x:Int):Prop:=0<=x/\x<10000
theorem A1:∀ {l:List Int},(∀ x∈l,limbOk x)->0<=valL l
 |[],_=>by simp [valL]
 |x::r,h=>by
  have h1:=A1 (l:=r) fun y hy=>h y (List.mem_cons_of_mem _ hy)
  have h2:=(h x List.mem_cons_self).1
  simp only [valL];omega
theorem valL_append:∀ (l r:List Int),valL (l++r)=valL l+10000 ^ l.length*valL r
 |[],r=>by simp [valL]
 |x::l,r=>by
  simp only [List.cons_append,valL,valL_append l r,List.length_cons,Int.pow_succ]
  rw [Int.mul_add,<- Int.mul_assoc,Int.mul_comm (10000 ^ l.length) 10000];omega
theorem Wq {l:List Int} {i:Nat} (h:i<l.length):valL (l.drop i)=l.getD i 0+10000*valL (l.drop (i+1)):=by
 rw [List.drop_eq_getElem_cons h,valL,List.getD_eq_getElem?_getD,List.getElem?_eq_getElem h];rfl
theorem Cn:∀ {l:List Int},(∀ x∈l,limbOk x)->valL l<10000 ^ l.length
 |[],_=>by simp [valL]
 |x::r,h=>by
  have h1:=Cn (l:=r) fun y hy=>h y (List.mem_cons_of_mem _ hy)
  have h2:=(h x List.mem_cons_self).2
  simp only [valL,List.length_cons,Int.pow_succ];omega
theorem Hs {l:List Int} (h:∀ x∈l,limbOk x) {i:Nat} (hi:i<l.length):limbOk (l.getD i 0):=by
 rw [List.getD_eq_getElem?_getD,List.getElem?_eq_getElem hi];exact h _ (List.getElem_mem hi)
def trimL:List Int->List Int
 |[]=>[]
 |x::r=>match trimL r with
  |[]=>if x=0 then [] else [x]
  |y::s=>x::y::s
theorem Lh:∀ l,(trimL l).length<=l.length
 |[]=>Nat.le_refl _
 |x::r=>by
  have h:=Lh r
  unfold trimL
  split
  ·rename_i e;split<;>simp
  ·rename_i y s e;rw [e] at h;simp at h |-;omega
theorem trimL_snoc:∀ (l:List Int) (x:Int),trimL (l++[x])=if x=0 then trimL l else l++[x]
 |[],x=>by simp [trimL]
 |a::l,x=>by
  rw [List.cons_append,trimL,trimL_snoc l x]
  by_cases h:x=0
  ·simp only [if_pos h];rw [trimL]
  ·simp only [if_neg h]
   cases l with
   |nil=>rfl
   |cons b l=>rfl
theorem Lj:∀ l,valL (trimL l)=valL l
 |[]=>rfl
 |x::r=>by
  have h:=Lj r
  unfold trimL
  split
  ·rename_i e
   rw [e] at h;simp only [valL] at h |-
   split<;>simp [valL]<;>omega
  ·rename_i y s e
   rw [e] at h
   rw [valL,h];rfl
theorem Li {p:Int->Prop}:∀ {l:List Int},(∀ x∈l,p x)->∀ x∈trimL l,p x
 |[],h=>h
 |x::r,h=>by
  have h1:=Li (l:=r) fun y hy=>h y (List.mem_cons_of_mem _ hy)
  unfold trimL
  split
  ·split
   ·simp
   ·intro y hy;simp at hy;subst hy;exact h _ List.mem_cons_self
  ·rename_i y s e
   rw [e] at h1
   intro z hz
   rcases List.mem_cons.1 hz with rfl|hz
   ·exact h _ List.mem_cons_self
   ·exact h1 z hz
theorem getD_ok {l:List Int} (h:∀ z∈l,limbOk z) (i:Nat):limbOk (l.getD i 0):=by
 by_cases hi:i<l.length
 ·exact Hs h hi
 ·rw [List.getD_eq_getElem?_getD,List.getElem?_eq_none (by omega)];exact ⟨by simp,by simp⟩
theorem set_ok {l:List Int} {i:Nat} {v:Int} (h:∀ z∈l,limbOk z) (hv:limbOk v):∀ z∈l.set i v,limbOk z:=fun x hx=>by
 rcases List.mem_or_eq_of_mem_set hx with h1|rfl
 ·exact h x h1
 ·exact hv
def limN (n:Nat):List Int:=if h:n=0 then [] else ((n % 10000:Nat):Int)::limN (n / 10000)
termination_by n
decreasing_by omega
theorem limN_zero:limN 0=[]:=by rw [limN];rfl
theorem limN_pos {n:Nat} (h:n≠0):limN n=((n % 10000:Nat):Int)::limN (n / 10000):=by rw [limN,dif_neg h]
theorem limN_val (n:Nat):valL (limN n)=n:=by
 induction n using Nat.strongRecOn with
 |ind n ih =>
  by_cases h:n=0
  ·subst h;rw [limN_zero];rfl
  ·rw [limN_pos h,valL,ih _ (by omega)];omega
theorem limN_ok (n:Nat):∀ x∈limN n,limbOk x:=by
 induction n using Nat.strongRecOn with
 |ind n ih =>
  by_cases h:n=0
  ·subst h;rw [limN_zero];simp
  ·rw [limN_pos h]
   intro x hx
   rcases List.mem_cons.1 hx with rfl|hx
   ·exact ⟨by omega,by omega⟩
   ·exact ih _ (by omega) x hx
theorem limN_nil {n:Nat}:limN n=[]<->n=0:=by
 constructor
 ·intro h;have:=limN_val n;rw [h] at this;simp only [valL] at this;omega
 ·rintro rfl;exact limN_zero
theorem trimL_eq:∀ {l:List Int},(∀ x∈l,limbOk x)->trimL l=limN (valL l).toNat
 |[],_=>by simp [trimL,valL,limN_zero]
 |x::r,h=>by
  have hr:=fun y hy=>h y (List.mem_cons_of_mem x hy)
  have h1:=trimL_eq hr
  have h0:=A1 hr
  obtain ⟨h2,h3⟩:=h x List.mem_cons_self
  rw [trimL,valL]
  by_cases hz:valL r=0
  ·rw [h1,hz]
   simp only [Int.toNat_zero,limN_zero]
   split
   ·rename_i e;subst e;simp [limN_zero]
   ·rename_i e
    rw [limN_pos (by omega)]
    simp only [Int.mul_zero,Int.add_zero]
    rw [show x.toNat / 10000=0 by omega,limN_zero]
    congr 1;omega
  ·rw [h1]
   have hn:limN (valL r).toNat≠[]:=by rw [Ne,limN_nil];omega
   rw [limN_pos (n:=(x+10000*valL r).toNat) (by omega),show (x+10000*valL r).toNat / 10000=(valL r).toNat by omega]
   split
   ·rename_i e;exact absurd e hn
   ·rename_i y s e;rw [e];congr 1;omega
theorem limN_len {n k:Nat} (h:n<10000 ^ k):(limN n).length<=k:=by
 induction k generalizing n with
 |zero=>simp at h;subst h;rw [limN_zero];exact Nat.le_refl _
 |succ k ih =>
  by_cases hn:n=0
  ·subst hn;rw [limN_zero];simp
  ·rw [limN_pos hn]
   have:=ih (n:=n / 10000) (by rw [Nat.pow_succ] at h;omega)
   simp;exact this
theorem limN_len' {n k : Nat} (h : (limN n).length <= k) : n < 10000 ^ k := by
  induction k generalizing n with
  | zero => have : limN n = [] := List.length_eq_zero_iff.1 (by omega)
            rw [limN_nil] at this; subst this; decide
  | succ k ih =>
    by_cases hn : n = 0
    . subst hn; exact Nat.pow_pos (by decide)
    . rw [limN_pos hn] at h
      have := ih (n := n / 10000) (by simpa using h)
      rw [Nat.pow_succ]; omega
theorem Bc (l:List Int):∀ i,valL (l.take (i+1))=valL (l.take i)+10000 ^ i*l.getD i 0:=by
 intro i
 by_cases h:i<l.length
 ·rw [List.take_succ_eq_append_getElem h,valL_append,List.length_take,Nat.min_eq_left (by omega),List.getD_eq_getElem?_getD,List.getElem?_eq_getElem h]
  simp [valL]
 ·rw [List.take_of_length_le (by omega),List.take_of_length_le (by omega),List.getD_eq_getElem?_getD,List.getElem?_eq_none (by omega)];simp
theorem Gv {a b:Nat} (h:a<=b):(10000:Int) ^ a<=10000 ^ b:=by
 have h1:((10000 ^ a:Nat):Int)<=((10000 ^ b:Nat):Int):=Int.ofNat_le.2 (Nat.pow_le_pow_right (by decide) h)
 rw [Int.natCast_pow,Int.natCast_pow] at h1;exact h1
theorem Jl (k:Nat):(0:Int)<10000 ^ k:=Int.pow_pos (by decide)
def minusK (m o:List Int):Nat->List Int×Int
 |0=>([],0)
 |i+1=>((minusK m o i).1++[(if m.getD i 0-(minusK m o i).2-o.getD i 0<0 then m.getD i 0-(minusK m o i).2-o.getD i 0+10000 else m.getD i 0-(minusK m o i).2-o.getD i 0)],if m.getD i 0-(minusK m o i).2-o.getD i 0<0 then 1 else 0)
def minusL (m o:List Int):List Int:=(minusK m o m.length).1
theorem minusK_len (m o:List Int):∀ i,(minusK m o i).1.length=i
 |0=>rfl
 |i+1=>by simp [minusK,minusK_len m o i]
theorem minusK_ok {m o:List Int} (hm:∀ z∈m,limbOk z) (ho:∀ z∈o,limbOk z):∀ i,(∀ z∈(minusK m o i).1,limbOk z)/\0<=(minusK m o i).2/\(minusK m o i).2<=1
 |0=>by simp [minusK]
 |i+1=>by
  obtain ⟨h1,h2,h3⟩:=minusK_ok hm ho i
  obtain ⟨h4,h5⟩:=getD_ok hm i
  obtain ⟨h6,h7⟩:=getD_ok ho i
  simp only [minusK]
  refine ⟨fun z hz=>?_,by split<;>omega,by split<;>omega⟩
  rcases List.mem_append.1 hz with hz|hz
  ·exact h1 z hz
  ·rw [List.mem_singleton] at hz;subst hz;unfold limbOk;split<;>omega
theorem G7 (m o:List Int):∀ i,valL (minusK m o i).1-10000 ^ i*(minusK m o i).2=valL (m.take i)-valL (o.take i)
 |0=>by simp [minusK,valL]
 |i+1=>by
  have h:=G7 m o i
  rw [Bc,Bc,minusK,valL_append,minusK_len]
  simp only [valL]
  rw [Int.pow_succ]
  split<;>grind
theorem minusL_val {m o:List Int} (hm:∀ z∈m,limbOk z) (ho:∀ z∈o,limbOk z) (hl:o.length<=m.length) (hv:valL o<=valL m):valL (minusL m o)=valL m-valL o/\(∀ z∈minusL m o,limbOk z)/\(minusL m o).length=m.length:=by
 have h:=G7 m o m.length
 rw [List.take_length,List.take_of_length_le hl] at h
 obtain ⟨h1,h2,h3⟩:=minusK_ok hm ho m.length
 have h4:=minusK_len m o m.length
 have h5:=Cn h1
 rw [h4] at h5
 have hb:(minusK m o m.length).2=0:=by
  rcases (show (minusK m o m.length).2=0\/(minusK m o m.length).2=1 by omega) with e|e
  ·exact e
  ·rw [e] at h;simp at h;omega
 rw [hb] at h
 exact ⟨by unfold minusL;omega,h1,h4⟩
def cmpK (m o:List Int):Nat->Int
 |0=>0
 |i+1=>if m.getD i 0<o.getD i 0 then -1 else if o.getD i 0<m.getD i 0 then 1 else cmpK m o i
theorem Kg {m o:List Int} (hm:∀ z∈m,limbOk z) (ho:∀ z∈o,limbOk z):∀ i,cmpK m o i=Cx (valL (m.take i)) (valL (o.take i))
 |0=>by simp [cmpK,valL,Cx]
 |i+1=>by
  have h:=Kg hm ho i
  rw [Bc,Bc,cmpK]
  have h1:=Cn (l:=m.take i) fun z hz=>hm z (List.mem_of_mem_take hz)
  have h2:=Cn (l:=o.take i) fun z hz=>ho z (List.mem_of_mem_take hz)
  have h3:=A1 (l:=m.take i) fun z hz=>hm z (List.mem_of_mem_take hz)
  have h4:=A1 (l:=o.take i) fun z hz=>ho z (List.mem_of_mem_take hz)
  have h5:(10000:Int) ^ (m.take i).length<=10000 ^ i:=Gv (by rw [List.length_take];omega)
  have h6:(10000:Int) ^ (o.take i).length<=10000 ^ i:=Gv (by rw [List.length_take];omega)
  have h7:=Jl i
  split
  ·rename_i hlt
   have h8:(10000:Int) ^ i*(m.getD i 0+1)<=10000 ^ i*o.getD i 0:=Int.mul_le_mul_of_nonneg_left (by omega) (by omega)
   rw [Int.mul_add] at h8
   rw [Cx,if_pos (by omega)]
  ·split
   ·rename_i hlt
    have h8:(10000:Int) ^ i*(o.getD i 0+1)<=10000 ^ i*m.getD i 0:=Int.mul_le_mul_of_nonneg_left (by omega) (by omega)
    rw [Int.mul_add] at h8
    rw [Cx,if_neg (by omega),if_pos (by omega)]
   ·have e:m.getD i 0=o.getD i 0:=by omega
    rw [h,e];unfold Cx
    congr 1
    ·simp
    ·congr 1;simp
def cmpL (m o:List Int):Int:=if m.length<o.length then -1 else if o.length<m.length then 1 else cmpK m o m.length
theorem limN_low {n:Nat} (h:n≠0):10000 ^ ((limN n).length-1)<=n:=by
 induction n using Nat.strongRecOn with
 |ind n ih =>
  rw [limN_pos h]
  simp only [List.length_cons,Nat.add_sub_cancel]
  by_cases h2:n / 10000=0
  ·rw [h2,limN_zero];simp;omega
  ·have:=ih _ (by omega) h2
   have hl:(limN (n / 10000)).length≠0:=by rw [Ne,List.length_eq_zero_iff,limN_nil];exact h2
   obtain ⟨k,hk⟩:∃ k,(limN (n / 10000)).length=k+1:=⟨(limN (n / 10000)).length-1,by omega⟩
   rw [hk] at this |-
   simp only [Nat.add_sub_cancel] at this
   rw [Nat.pow_succ];omega
theorem cmpL_val (a b:Nat):cmpL (limN a) (limN b)=Cx a b:=by
 unfold cmpL
 have ha:=Cn (limN_ok a)
 have hb:=Cn (limN_ok b)
 rw [limN_val] at ha hb
 split
 ·rename_i h
  have h0:b≠0:=by rintro rfl;rw [limN_zero] at h;simp at h
  have h1:=limN_low h0
  have h2:(10000:Int) ^ (limN a).length<=10000 ^ ((limN b).length-1):=Gv (by omega)
  have h3:((10000 ^ ((limN b).length-1):Nat):Int)<=b:=by exact_mod_cast h1
  rw [Int.natCast_pow] at h3
  rw [Cx,if_pos];exact Int.lt_of_lt_of_le ha (Int.le_trans h2 h3)
 ·split
  ·rename_i h
   have h0:a≠0:=by rintro rfl;rw [limN_zero] at h;simp at h
   have h1:=limN_low h0
   have h2:(10000:Int) ^ (limN b).length<=10000 ^ ((limN a).length-1):=Gv (by omega)
   have h3:((10000 ^ ((limN a).length-1):Nat):Int)<=a:=by exact_mod_cast h1
   rw [Int.natCast_pow] at h3
   have h4:=Int.lt_of_lt_of_le hb (Int.le_trans h2 h3)
   rw [Cx,if_neg (by omega),if_pos h4]
  ·have he:(limN a).length=(limN b).length:=by omega
   rw [Kg (limN_ok a) (limN_ok b),List.take_length,he,List.take_length,limN_val,limN_val]
theorem H0:∀ {l:List Int} {j:Nat} {v:Int},j<l.length->valL (l.set j v)=valL l+10000 ^ j*(v-l.getD j 0)
 |x::r,0,v,_=>by simp [valL];omega
 |x::r,j+1,v,h=>by
  have h1:=H0 (l:=r) (j:=j) (v:=v) (by simpa using h)
  simp only [List.set_cons_succ,valL,h1,List.getD_cons_succ,Int.pow_succ]
  grind
theorem Kp {l:List Int} {i j:Nat} {v:Int} (h:i≠j):(l.set i v).getD j 0=l.getD j 0:=by
 simp only [List.getD_eq_getElem?_getD,List.getElem?_set_ne h]
theorem Aa6 (n:Nat):valL (List.replicate n 0)=0:=by
 induction n with
 |zero=>rfl
 |succ n ih=>rw [List.replicate_succ,valL,ih];rfl
end Go.Proofs.YtjagmmmcibdibaaGreatDoor.D4
namespace Go.Proofs.YtjagmmmcibdibaaGreatDoor
open Go.RowKit
theorem tab_of {K:Kx} {w:World} {name:String} (h:Tryz.prog.globalNamed name=some 1) (hf:Fz K w):Lib.TabIs Tryz.prog w name .u64 Lib.pow10Tab:=by
 obtain ⟨⟨ty,r,h1⟩,_⟩:=hf _ (List.mem_singleton.2 rfl)
 unfold Lib.TabIs World.var?
 rw [h]
 simp only [Option.bind_some]
 dsimp only at h1
 rw [h1]
theorem Anj (n:Int) (h0 : -9223372036854775808<=n) (h1:n<=9223372036854775807):Aw 91 [.d (.v (.int .i64 n))] ⟨[],[]⟩ (.ret (.d (.v (.string ⟨(Lib.itoa n).toArray⟩)))) ⟨[],[]⟩:=by
 refine Lt Tryz.func91 rfl rfl rfl fun K w vs hf hA=>?_
 simp only [Ap,Rep,Cj] at hA
 obtain ⟨u,us,rfl,hr,rfl⟩:=hA
 rw [hr.1]
 refine (Tryz.strconv_Itoa n h0 h1 w (tab_of (by kernel_rfl) hf)).mono ?_
 rintro e w' ⟨rfl,k,os,rfl⟩
 exact ⟨rfl,⟨rfl,rfl,rfl,by show w.heap.size<=(w.heap++os).size;rw [Array.size_append];omega,fun j hj=>by show (w.heap++os)[j]? = _;rw [Array.getElem?_append_left hj]⟩⟩
def Y5 (n:Int):ByteArray:=⟨(Lib.itoa n).toArray⟩
theorem Nf (n:Nat):Lib.itoa (n:Int)=Lib.decDigits n:=by
 unfold Lib.itoa;rw [if_neg (by omega)];rfl
theorem Akb {j:Nat} (h:j<10):Y5 j=⟨#[UInt8.ofNat (48+j)]⟩:=by
 unfold Y5;rw [Nf,Lib.decDigits,dif_pos h]
theorem Hm:∀ (k u:Nat),u<10 ^ (k+1)->(Lib.decDigits u).length<=k+1
 |0,u,h=>by rw [Lib.decDigits,dif_pos (by simpa using h)];simp
 |k+1,u,h=>by
  rw [Lib.decDigits]
  split
  ·simp
  ·have:=Hm k (u / 10) (by rw [Nat.pow_succ] at h;omega)
   simp;omega
theorem Aee {n:Nat} (h:n<=9223372036854775807):(Y5 n).size<=19:=by
 unfold Y5;rw [Nf]
 exact Hm 18 n (by omega)
def Ai3:List UInt8->Nat->Nat
 |[],a=>a
 |c::r,a=>Ai3 r (10*a+(c.toNat-48))
def Aj4 (c:UInt8):Prop:=48<=c.toNat/\c.toNat<=57
theorem Aiw:∀ (l r:List UInt8) (a:Nat),Ai3 (l++r) a=Ai3 r (Ai3 l a)
 |[],_,_=>rfl
 |c::l,r,a=>by simp only [List.cons_append,Ai3];exact Aiw l r _
theorem Ai4:∀ (l:List UInt8) (a:Nat),Ai3 l a=a*10 ^ l.length+Ai3 l 0
 |[],a=>by simp [Ai3]
 |c::l,a=>by
  simp only [Ai3,List.length_cons]
  rw [Ai4 l (10*a+(c.toNat-48)),Ai4 l (10*0+(c.toNat-48)),Nat.pow_succ]
  grind
theorem Ajx:∀ {l:List UInt8},(∀ c∈l,Aj4 c)->Ai3 l 0<10 ^ l.length
 |[],_=>by simp [Ai3]
 |c::l,h=>by
  have h1:=Ajx (l:=l) fun x hx=>h x (List.mem_cons_of_mem _ hx)
  have h2:=(h c List.mem_cons_self).2
  rw [Ai3,Ai4,List.length_cons,Nat.pow_succ]
  have h3:(10*0+(c.toNat-48))*10 ^ l.length<=9*10 ^ l.length:=Nat.mul_le_mul_right _ (by omega)
  omega
theorem Ajg {j:Nat} (h:j<10):(UInt8.ofNat (48+j)).toNat=48+j:=by
 rw [UInt8.toNat_ofNat'];omega
theorem N4 {n:Nat} (h:n<10):Lib.decDigits n=[UInt8.ofNat (48+n)]:=by rw [Lib.decDigits,dif_pos h]
theorem Aeg {n:Nat} (h:¬ n<10):Lib.decDigits n=Lib.decDigits (n / 10)++[UInt8.ofNat (48+n % 10)]:=by rw [Lib.decDigits,dif_neg h]
theorem Ako (n:Nat):Ai3 (Lib.decDigits n) 0=n:=by
 induction n using Nat.strongRecOn with
 |ind n ih =>
  by_cases h:n<10
  ·rw [N4 h,Ai3,Ai3,Ajg h];omega
  ·rw [Aeg h,Aiw,ih _ (by omega),Ai3,Ai3,Ajg (by omega)];omega
theorem Aje (n:Nat):∀ c∈Lib.decDigits n,Aj4 c:=by
 induction n using Nat.strongRecOn with
 |ind n ih =>
  by_cases h:n<10
  ·rw [N4 h];intro c hc;rw [List.mem_singleton] at hc;subst hc;unfold Aj4;rw [Ajg h];omega
  ·rw [Aeg h]
   intro c hc
   rcases List.mem_append.1 hc with hc|hc
   ·exact ih _ (by omega) c hc
   ·rw [List.mem_singleton] at hc;subst hc;unfold Aj4;rw [Ajg (by omega)];omega
theorem Aju (n:Nat):Lib.decDigits n≠[]:=by
 by_cases h:n<10
 ·rw [N4 h];simp
 ·rw [Aeg h];simp
theorem dec_head {n:Nat} (hn:n≠0):∃ c r,Lib.decDigits n=c::r/\c≠48:=by
 induction n using Nat.strongRecOn with
 |ind n ih =>
  by_cases h:n<10
  ·refine ⟨_,_,N4 h,fun e=>?_⟩
   have:=congrArg UInt8.toNat e
   rw [Ajg h] at this
   have:(48:UInt8).toNat=48:=rfl
   omega
  ·obtain ⟨c,r,h1,h2⟩:=ih (n / 10) (by omega) (by omega)
   exact ⟨c,r++[UInt8.ofNat (48+n % 10)],by rw [Aeg h,h1];rfl,h2⟩
theorem Am6 {n k:Nat} (h:(Lib.decDigits n).length<=k):n<10 ^ k:=by
 have:=Ajx (Aje n)
 rw [Ako] at this
 exact Nat.lt_of_lt_of_le this (Nat.pow_le_pow_right (by decide) h)
def rdK (t:List UInt8) (e:Nat):List Int:=if h:e=0 then [] else ((Ai3 ((t.take e).drop (e-4)) 0:Nat):Int)::rdK t (e-4)
termination_by e
decreasing_by omega
theorem Ajb (t:List UInt8):rdK t 0=[]:=by rw [rdK];rfl
theorem Akv {t:List UInt8} {e:Nat} (h:e≠0):rdK t e=((Ai3 ((t.take e).drop (e-4)) 0:Nat):Int)::rdK t (e-4):=by rw [rdK,dif_neg h]
theorem rdK_ok {t:List UInt8} (ht:∀ c∈t,Aj4 c) (e:Nat):∀ x∈rdK t e,D4.limbOk x:=by
 induction e using Nat.strongRecOn with
 |ind e ih =>
  by_cases h:e=0
  ·subst h;rw [Ajb];simp
  ·rw [Akv h]
   intro x hx
   rcases List.mem_cons.1 hx with rfl|hx
   ·have h1:=Ajx (l:=(t.take e).drop (e-4)) fun c hc=>ht c (List.mem_of_mem_take (List.mem_of_mem_drop hc))
    have h2:10 ^ ((t.take e).drop (e-4)).length<=10 ^ 4:=Nat.pow_le_pow_right (by decide) (by simp;omega)
    exact ⟨by omega,by omega⟩
   ·exact ih _ (by omega) x hx
theorem rdK_val (t:List UInt8) (e:Nat) (he:e<=t.length):D4.valL (rdK t e)=Ai3 (t.take e) 0:=by
 induction e using Nat.strongRecOn with
 |ind e ih =>
  by_cases h:e=0
  ·subst h;rw [Ajb];rfl
  ·rw [Akv h,D4.valL,ih _ (by omega) (by omega)]
   have h1:t.take e=t.take (e-4)++(t.take e).drop (e-4):=by
    have:=List.take_append_drop (e-4) (t.take e)
    rw [List.take_take,Nat.min_eq_left (by omega)] at this
    exact this.symm
   rw [show Ai3 (t.take e) 0=Ai3 ((t.take e).drop (e-4)) (Ai3 (t.take (e-4)) 0) by rw [<- Aiw,<- h1]]
   rw [Ai4 ((t.take e).drop (e-4)) (Ai3 (t.take (e-4)) 0)]
   by_cases h4:e<4
   ·rw [show e-4=0 by omega];simp [Ai3]
   ·rw [show ((t.take e).drop (e-4)).length=4 by simp;omega];omega
theorem rdK_all {t:List UInt8} (ht:∀ c∈t,Aj4 c):D4.trimL (rdK t t.length)=D4.limN (Ai3 t 0):=by
 rw [D4.trimL_eq (rdK_ok ht _),rdK_val t _ (Nat.le_refl _),List.take_length];rfl
theorem rdK_len (t:List UInt8) (e:Nat):4*(rdK t e).length<=e+3:=by
 induction e using Nat.strongRecOn with
 |ind e ih =>
  by_cases h:e=0
  ·subst h;rw [Ajb];simp
  ·rw [Akv h]
   have:=ih (e-4) (by omega)
   simp only [List.length_cons]
   by_cases h4:e<4
   ·rw [show e-4=0 by omega,Ajb] at *;simp;omega
   ·omega
def by4 (x:Nat):List UInt8:=[UInt8.ofNat (48+x / 1000 % 10),UInt8.ofNat (48+x / 100 % 10),UInt8.ofNat (48+x / 10 % 10),UInt8.ofNat (48+x % 10)]
def Anx:List Int->List UInt8
 |[]=>[]
 |x::r=>Anx r++by4 x.toNat
def Aiq (l:List UInt8):List UInt8:=l.dropWhile (· == 48)
theorem Ajp (l r:List UInt8):Aiq (l++r)=if Aiq l=[] then Aiq r else Aiq l++r:=by
 unfold Aiq
 rw [List.dropWhile_append]
 by_cases h:l.dropWhile (· == 48)=[]
 ·simp [h]
 ·simp [h]
theorem Amw (l:List UInt8) (c:UInt8):Aiq (l++[c])=if Aiq l=[]/\c=48 then [] else Aiq l++[c]:=by
 rw [Ajp]
 by_cases h:Aiq l=[]
 ·rw [if_pos h,h]
  by_cases hc:c=48
  ·subst hc;simp [Aiq]
  ·simp [Aiq,hc]
 ·rw [if_neg h,if_neg (fun e=>h e.1)]
theorem dec_four {n:Nat} (h:¬ n<10000):Lib.decDigits n=Lib.decDigits (n / 10000)++by4 (n % 10000):=by
 rw [Aeg (n:=n) (by omega),Aeg (n:=n / 10) (by omega),Aeg (n:=n / 10 / 10) (by omega),Aeg (n:=n / 10 / 10 / 10) (by omega)]
 unfold by4
 rw [show n / 10 / 10 / 10 / 10=n / 10000 by omega,show n / 10 / 10 / 10 % 10=n % 10000 / 1000 % 10 by omega,show n / 10 / 10 % 10=n % 10000 / 100 % 10 by omega,show n / 10 % 10=n % 10000 / 10 % 10 by omega,show n % 10=n % 10000 % 10 by omega]
 simp
theorem Alw {j:Nat} (h:j<10):(UInt8.ofNat (48+j)==48)=decide (j=0):=by
 have:j=0\/j=1\/j=2\/j=3\/j=4\/j=5\/j=6\/j=7\/j=8\/j=9:=by omega
 rcases this with rfl|rfl|rfl|rfl|rfl|rfl|rfl|rfl|rfl|rfl<;>rfl
theorem dec_less {n:Nat} (h0:n≠0) (h:n<10000):Aiq (by4 n)=Lib.decDigits n:=by
 unfold Aiq by4
 simp only [List.dropWhile_cons,Alw (show n / 1000 % 10<10 by omega),Alw (show n / 100 % 10<10 by omega),Alw (show n / 10 % 10<10 by omega),Alw (show n % 10<10 by omega),decide_eq_true_eq]
 by_cases h1:n<10
 ·rw [if_pos (by omega),if_pos (by omega),if_pos (by omega),if_neg (by omega),N4 h1,show n % 10=n by omega]
 rw [Aeg h1]
 by_cases h2:n<100
 ·rw [if_pos (by omega),if_pos (by omega),if_neg (by omega),N4 (by omega),show n / 10 % 10=n / 10 by omega];rfl
 rw [Aeg (n:=n / 10) (by omega)]
 by_cases h3:n<1000
 ·rw [if_pos (by omega),if_neg (by omega),N4 (by omega),show n / 100 % 10=n / 10 / 10 by omega];rfl
 rw [Aeg (n:=n / 10 / 10) (by omega),if_neg (by omega),N4 (by omega),show n / 1000 % 10=n / 10 / 10 / 10 by omega,show n / 100 % 10=n / 10 / 10 % 10 by omega];rfl
theorem pad_dec (n:Nat) (h0:n≠0):Aiq (Anx (D4.limN n))=Lib.decDigits n:=by
 induction n using Nat.strongRecOn with
 |ind n ih =>
  rw [D4.limN_pos h0,Anx,Int.toNat_natCast,Ajp]
  by_cases h:n<10000
  ·rw [show n / 10000=0 by omega,D4.limN_zero,show n % 10000=n by omega]
   rw [if_pos (by rfl),dec_less h0 h]
  ·rw [ih _ (by omega) (by omega),if_neg (Aju _),dec_four h]
@[reducible] def byE (b:UInt8):List DV:=[.v (.int .u8 b.toNat)]
theorem ops_str {o:Oper} {F:Nat->PV} {S:PS} {x:Operand} {l:List UInt8} (ho:o.op = .convert 25 9 x) (hx:S.toS 1 (evP F x)=some (l.map byE)) (hne:l≠[]):OpS Tryz.prog o F S (.d (.v (.string ⟨l.toArray⟩))) S :=
 OpS.pure fun K w ρ hI h=>by
  have h1:=h x (by simp [ho,Op.operands])
  have h2:=Ki hx K w _ hI h1
  simp only [Rep,Cj] at h2
  obtain ⟨p,cap,he,h3,h4,h5⟩:=h2
  obtain ⟨b,off,rfl,_,hr⟩:=h5 (by simpa using hne)
  have hc:∀ i,i<l.length->w.cell? ⟨b,off+i,none⟩=some (.int .u8 ((l.map fun b=>(b.toNat:Int)).getD i 0)):=by
   intro i hi
   have h6:=Iw (j:=i) (e:=byE l[i]) hr (by simp [hi])
   simp only [Aq] at h6
   obtain ⟨⟨u0,c0,r0⟩,_⟩:=h6
   simp only [Cj] at r0
   rw [r0.1,Nat.mul_one] at c0
   rw [c0,List.getD_eq_getElem?_getD,List.getElem?_map,List.getElem?_eq_getElem hi];rfl
  have hrun:=Go.run_convert_bytes_arg w 25 5 (P:=Tryz.prog) (by kernel_rfl) (by kernel_rfl) b off l.length cap (l.map fun b=>(b.toNat:Int)) (by simp) hc 9 (by kernel_rfl)
  have e:strOfNums (l.map fun b=>(b.toNat:Int))=⟨l.toArray⟩:=by
   unfold strOfNums
   rw [List.map_map]
   have:l.map ((fun n:Int=>UInt8.ofNat n.toNat)∘fun b:UInt8=>(b.toNat:Int))=l:=by
    conv=>rhs;rw [<- List.map_id l]
    apply List.map_congr_left
    intro b _
    simp
   rw [this]
  rw [List.length_map] at he
  refine ⟨_,?_,D6 rfl⟩
  simp only [execOp,ho,he,hrun,e,Sem.run_bind];rfl
section
variable {N:Nat} {ops:Array Oper} {rest:List Oper} {o:Oper} {F:Nat->PV} {S:PS} {q:WRes->Prop}
theorem wstr {x:Operand} (l:List UInt8) (hne:l≠[]) (kk:WK Tryz.prog N ops rest (Cd N o.dst (.d (.v (.string ⟨l.toArray⟩))) F) S q) (hg:Al ops F o=some true:=by exact rfl) (ho:o.op = .convert 25 9 x:=by exact rfl) (hx:S.toS 1 (evP F x)=some (l.map byE):=by exact rfl):WK Tryz.prog N ops (o::rest) F S q:=Eo hg (ops_str ho hx hne) kk
end
@[reducible] def inE (n:Int):List DV:=[.v (.int .i64 n)]
theorem Aij {l:List Int} {i:Nat} (h:i<l.length):(l.map fun n=>[DV.v (.int .i64 n)])[((i:Nat):Int).toNat]? = some (inE (l.getD i 0)):=by
 rw [Int.toNat_natCast,List.getElem?_map,List.getD_eq_getElem?_getD,List.getElem?_eq_getElem h];rfl
theorem Ajt (l:List Int):Aw 163 [Dv l] ⟨[],[]⟩ (.ret (Dv (D4.trimL l))) ⟨[],[]⟩:=by
 refine Es Tryz.func163 rfl rfl (Nat.le_of_ble_eq_true rfl) rfl (Nat.le_refl _) ?_
 intro hf
 have hl:l.length<=9223372036854775807:=by have:=hf.1;simpa [Al0] using this
 repeat' (first|refine rl0 ?_|refine rs0 ?_ ?_<;>intro h|fail)
 refine Ca (ι := Nat) (ok:=fun j=>j<=l.length/\D4.trimL (l.take j)=D4.trimL l) (L:=fun j=>[(0,Dv (l.take j))]) (Sx:=fun _=>⟨[],[]⟩) (μ := fun j=>j) l.length ⟨Nat.le_refl _,by simp⟩ (by refine Aa ?_ Ag;rw [List.take_length];rfl) rfl ?_
 rintro j ⟨hj,ht⟩
 have hlen:((l.take j).map fun n=>[DV.v (.int .i64 n)]).length=j:=by simp;omega
 repeat' (first|refine rl0 ?_|refine rs0 ?_ ?_<;>intro h|fail)
 ·have h0:0<j:=by rw [hlen] at h;simpa using h
  obtain ⟨i,rfl⟩:∃ i,j=i+1:=⟨j-1,by omega⟩
  have hi:i<l.length:=by omega
  have hsn:l.take (i+1)=l.take i++[l[i]]:=List.take_succ_eq_append_getElem hi
  refine wix (inE l[i]) rfl rfl rfl rfl rfl (by rw [hlen];simp [show ((i:Int)+1-1).toNat=i from by omega,hi]) (by rw [hlen];omega) ?_
  repeat' (first|refine rl0 ?_|refine rs0 ?_ ?_<;>intro h|fail)
  ·have hx:l[i]=0:=by simpa using h
   refine ⟨i,⟨by omega,?_⟩,by omega,by
    refine Aa ?_ Ag
    show PV.d (.sl 1 _)=PV.d (.sl 1 _)
    rw [hlen,hsn]
    simp [show ((i:Int)+1-1).toNat=i from by omega,List.take_take],rfl⟩
   rw [<- ht,hsn,D4.trimL_snoc,if_pos hx]
  all_goals
   have e:l.take (i+1)=D4.trimL l:=by
    rw [<- ht,hsn,D4.trimL_snoc,if_neg]
    simpa using h
   rw [e]
 all_goals
  have e:l.take j=D4.trimL l:=by
   have h0:j=0:=by rw [hlen] at h;simp at h;omega
   rw [<- ht,h0];rfl
  rw [e]
theorem Akm (a b:Nat):Aw 164 [Dv (D4.limN a),Dv (D4.limN b)] ⟨[],[]⟩ (.ret (An (Cx a b))) ⟨[],[]⟩:=by
 rw [<- D4.cmpL_val]
 generalize D4.limN a=m
 generalize D4.limN b=o
 unfold D4.cmpL
 refine Es Tryz.func164 rfl rfl (Nat.le_of_ble_eq_true rfl) rfl (Nat.le_refl _) ?_
 intro hf
 have hm:m.length<=9223372036854775807:=by have:=hf.1;simpa [Al0] using this
 have ho:o.length<=9223372036854775807:=by have:=hf.2.1;simpa [Al0] using this
 have em:(m.map fun n=>[DV.v (.int .i64 n)]).length=m.length:=by simp
 have eo:(o.map fun n=>[DV.v (.int .i64 n)]).length=o.length:=by simp
 repeat' (first|refine rl0 ?_|refine rs0 ?_ ?_<;>intro h|fail)
 ·rw [em,eo] at *
  rw [if_pos (by simpa using h)]
 ·rename_i g
  rw [em,eo] at *
  have h1:=of_decide_eq_false h
  rw [if_neg (by omega),if_pos (by simp at g;omega)]
 ·have hml:m.length=o.length:=by rw [em,eo] at h;simp at h;omega
  rw [if_neg (by omega),if_neg (by omega)]
  refine Ca (ι := Nat) (ok:=fun i=>i<=m.length/\D4.cmpK m o m.length=D4.cmpK m o i) (L:=fun i=>[(0,Dv m),(1,Dv o),(5,An ((i:Int)-1))]) (Sx:=fun _=>⟨[],[]⟩) (μ := fun i=>i) m.length ⟨Nat.le_refl _,rfl⟩ (by refine Aa rfl (Aa rfl (Aa ?_ Ag));rw [em];rfl) rfl ?_
  rintro i ⟨hi,hc⟩
  repeat' (first|refine rl0 ?_|refine rs0 ?_ ?_<;>intro h|fail)
  ·obtain ⟨j,rfl⟩:∃ j,i=j+1:=⟨i-1,by simp at h;omega⟩
   have ej:(((j+1:Nat):Int)-1)=(j:Nat):=by omega
   rw [ej]
   have hc2:D4.cmpK m o (j+1)=if m.getD j 0<o.getD j 0 then -1 else if o.getD j 0<m.getD j 0 then 1 else D4.cmpK m o j:=rfl
   refine Tj (inE (m.getD j 0)) rfl rfl rfl rfl rfl (Aij (by omega)) (by omega) ?_
   repeat' (first|refine rl0 ?_|refine rs0 ?_ ?_<;>intro h|fail)
   refine Tj (inE (o.getD j 0)) rfl rfl rfl rfl rfl (Aij (by omega)) (by omega) ?_
   repeat' (first|refine rl0 ?_|refine rs0 ?_ ?_<;>intro h|fail)
   ·refine Tj (inE (m.getD j 0)) rfl rfl rfl rfl rfl (Aij (by omega)) (by omega) ?_
    repeat' (first|refine rl0 ?_|refine rs0 ?_ ?_<;>intro h|fail)
    refine Tj (inE (o.getD j 0)) rfl rfl rfl rfl rfl (Aij (by omega)) (by omega) ?_
    repeat' (first|refine rl0 ?_|refine rs0 ?_ ?_<;>intro h|fail)
    ·rw [hc,hc2,if_pos (of_decide_eq_true h)]
    ·rename_i g
     have h1:=of_decide_eq_false h
     have h2:m.getD j 0≠o.getD j 0:=by simpa using g
     rw [hc,hc2,if_neg h1,if_pos (by omega)]
   ·have h2:m.getD j 0=o.getD j 0:=by simpa using h
    exact ⟨j,⟨by omega,by rw [hc,hc2,if_neg (by omega),if_neg (by omega)]⟩,by omega,(by repeat (first|exact Ag|refine Aa rfl ?_)),rfl⟩
  ·obtain rfl:i=0:=by simp at h;omega
   rw [hc];rfl
theorem Yb {P:Program} {o:Oper} {F:Nat->PV} {S:PS} {t:TypeId} {x y:Operand} {I:TyI} {n:Nat} {kx ky:IntKind} (ho:o.op = .makeSlice t x y) (hI:TyI.of P t=some I) (hk:I.kind=2) (hek:I.ek=1) (hez:I.ez.length=1) (hx:evP F x = .d (.v (.int kx 0))) (hy:evP F y = .d (.v (.int ky n)))
  (hn:I.eb*n<=281474976710656) (h63:n<=9223372036854775807):OpS P o F S (.hd S.toks.length 0) (S.addTok ⟨0,I.ek,[],I.elem⟩) :=
 OpS.val fun K w ρ hInv h=>by
  have h1:=h x (by simp [ho,Op.operands])
  have h2:=h y (by simp [ho,Op.operands])
  rw [hx] at h1
  rw [hy] at h2
  have h1:=Cb h1
  have h2:=Cb h2
  obtain ⟨i,d,zz,hi,hu,hz,_,hzz,hd⟩:=TyI.inv hI
  rw [hk] at hd;simp at hd
  obtain ⟨rfl,ie,hie,ze,hze,hzs,hek2,heb,hez2⟩:=hd
  have hsz:ie.size=1:=by rw [<- hek];first|exact hek2|exact hek2.symm
  have hrun:=run_make (P:=P) w t I.elem ie ze hu hie hze kx ky 0 n (Int.le_refl _) (by omega) (by have hb:ie.bytes=I.eb:=(by first|exact heb|exact heb.symm);rw [hb];omega) (by omega)
  simp only [Int.toNat_natCast,hsz,Nat.mul_one,Int.toNat_zero] at hrun
  obtain ⟨z,hcl⟩:∃ z,ze.cells.toList=[z]:=by
   have h3:ze.cells.toList.length=1:=by
    have:ze.cells.toList=I.ez:=by first|exact hez2.1|exact hez2.1.symm
    rw [this];exact hez
   match e:ze.cells.toList,h3 with
   |[z],_=>exact ⟨z,rfl⟩
  have hm:(madeCells ze.cells n).toList=List.replicate n z:=Ni hcl n
  have hms:(madeCells ze.cells n).size=n*I.ek:=by
   have:=congrArg List.length hm
   simpa [hek] using this
  obtain ⟨g1,g2,g3⟩:=hInv.addTok (w':=w.alloc (.cells (madeCells ze.cells n) I.elem)) ((Below.refl _ _).alloc (Nat.le_refl _) _) (T:=⟨0,I.ek,[],I.elem⟩) (blk:=some (w.heap.size,0)) (u := .slice (some ⟨w.heap.size,0,none⟩) 0 n) rfl rfl (fun g lo hg=>by cases hg;exact Nat.le_refl _) (fun hs=>by
   refine .inr ⟨w.heap.size,n,madeCells ze.cells n,rfl,by simp,heap_alloc_new w _,Nat.zero_le _,h63,hms,?_,by simp [Bt]⟩
   obtain ⟨f1,f2,f3,f4,f5⟩:=Xu (w':=w.alloc (.cells (madeCells ze.cells n) I.elem)) hInv (by simp) 0
   refine ⟨f1,f2,f3,fun lo hm=>absurd (hInv.Tlt _ lo hm) (Nat.lt_irrefl _),fun t' c' lo ht hc=>?_⟩
   simp)
  exact ⟨_,_,_,by simp only [execOp,ho,h1,h2,Sem.run_bind,hrun];rfl,g2,g1,g3⟩
section
variable {N:Nat} {ops:Array Oper} {rest:List Oper} {o:Oper} {F:Nat->PV} {S S':PS} {q:WRes->Prop}
theorem Abd {t:TypeId} {x y:Operand} {n:Nat} {kx ky:IntKind} (hg:Al ops F o=some true) (ho:o.op = .makeSlice t x y) (hk:(Ba t&&Nat.beq (tyi t).kind 2&&Nat.beq (tyi t).ek 1&&Nat.ble 1 (tyi t).eb)=true) (hez:(tyi t).ez.length=1) (hx:evP F x = .d (.v (.int kx 0))) (hy:evP F y = .d (.v (.int ky n)))
  (hn:(tyi t).eb*n<=281474976710656) (kk:WK Tryz.prog N ops rest (Cd N o.dst (.hd S.toks.length 0) F) (S.addTok ⟨0,(tyi t).ek,[],(tyi t).elem⟩) q):WK Tryz.prog N ops (o::rest) F S q:=by
 simp only [Bool.and_eq_true] at hk
 have h63:n<=9223372036854775807:=by
  have h3:1<=(tyi t).eb:=by simpa using hk.2
  have h4:n<=(tyi t).eb*n:=Nat.le_mul_of_pos_left _ h3
  omega
 exact Eo hg (Yb ho (Fj t hk.1.1.1) (Nat.eq_of_beq_eq_true hk.1.1.2) (Nat.eq_of_beq_eq_true hk.1.2) hez hx hy hn h63) kk
end
@[reducible] def tokE (t:Tok):List DV:=[.v (.int .i64 t.kind),.v (.string (Cs t.text)),.v (.int .i64 (t.pos:Int))]
@[reducible] def Ac8 (l:List Tok):PV := .d (.sl 3 (l.map tokE))
theorem Qx {K:Kx} {w:World} {g:Nat}:∀ {l:List Tok} {o:Nat},(∀ j v,(El l)[j]? = some v->w.cell? ⟨g,o+j,none⟩=some v)->Bt (K.good w) w 3 (l.map tokE) g o
 |[],o,_=>by simp [Bt]
 |t::l,o,h=>by
  simp only [List.map_cons,Bt]
  have hc:El (t::l) = .int .i64 t.kind :: .string (Cs t.text) :: .int .i64 (t.pos:Int)::El l:=rfl
  rw [hc] at h
  refine ⟨rfl,?_,Qx fun j v hj=>?_⟩
  ·simp only [Aq]
   exact ⟨⟨_,h 0 _ rfl,by simp [Cj,Value.oneCell']⟩,⟨_,h 1 _ rfl,by simp [Cj,Value.oneCell']⟩,⟨_,h 2 _ rfl,by simp [Cj,Value.oneCell']⟩,trivial⟩
  ·have:=h (j+3) v (by simpa using hj)
   rw [show o+(j+3)=o+3+j by omega] at this
   exact this
theorem scan_do (s:ByteArray):Aw 106 [Fi s] ⟨[],[]⟩ (.ret (.tup [Ac8 (Gx s.data.toList).1,An ((Gx s.data.toList).2.1:Int),An (Gx s.data.toList).2.2])) ⟨[],[]⟩:=by
 refine ⟨enters_of Tryz.func106 rfl rfl,fun K w vs hI hA=>?_⟩
 simp only [Ap] at hA
 obtain ⟨u,us,rfl,hr,rfl⟩:=hA
 rw [Cb hr]
 refine (scan_any s w).mono ?_
 rintro e w' ⟨v,rfl,hT,hB⟩
 obtain ⟨h1,h2⟩:=hI.below hB
 refine ⟨K,h2,h1,_,rfl,?_⟩
 simp only [Rep]
 refine ⟨_,rfl,?_⟩
 simp only [Ap]
 refine ⟨_,_,rfl,?_,_,_,rfl,D6 rfl,_,_,rfl,D6 rfl,rfl⟩
 obtain ⟨hlen,hv⟩:=hT
 simp only [Rep,Cj,List.length_map]
 rcases hv with ⟨rfl,h0⟩|⟨g,cap,cur,rfl,hg,hh,hn,hcap,hsz,hcur⟩
 ·exact ⟨none,0,by rw [h0],by omega,by omega,fun hne=>by rw [List.length_eq_zero_iff] at h0;rw [h0] at hne;simp at hne⟩
 ·refine ⟨_,cap,rfl,hn,by simpa [maxLen] using hcap,fun _=>⟨g,0,rfl,?_,Qx fun j v hj=>?_⟩⟩
  ·obtain ⟨f1,f2,f3⟩:=Fm.new hI hg (Array.getElem?_eq_some_iff.1 hh).1
   exact ⟨f1,f2,fun hm=>by have:=hI.Mlt _ hm;omega,fun lo hm=>by have:=hI.Tlt _ _ hm;omega,fun t c lo ht hc=>absurd hc (f3 t c lo ht)⟩
  ·rw [Nat.zero_add,cell_of_row _ _ j _ _ _ hh]
   rw [<- hcur] at hj
   have hjl:=(List.getElem?_eq_some_iff.1 hj).1
   rw [List.getElem?_take] at hj
   split at hj
   ·simpa using hj
   ·cases hj
@[reducible] def tkP (k:Int) (s:ByteArray) (p:Int):PV := .agg [An k,Fi s,An p]
theorem Afg (k:Int) (s:ByteArray) (p:Int) (hs:s.size<=9223372036854775807):Aw 85 [tkP k s p] ⟨[],[]⟩ (.ret (An (Du k s.data.toList p))) ⟨[],[]⟩:=by
 refine Lt Tryz.func85 rfl rfl rfl fun K w vs _ hA=>?_
 simp only [Ap,Rep,Cj] at hA
 obtain ⟨u,us,rfl,⟨cs,rfl,u0,us0,rfl,r0,u1,us1,rfl,r1,u2,us2,rfl,r2,rfl⟩,rfl⟩:=hA
 rw [r0.1,r1.1,r2.1]
 exact T5 k s p w hs
theorem Alh (s:ByteArray) (n:Int) (hl:s.size<=18) (h:Lib.atoi s.data.toList=some n):Aw 189 [Fi s] ⟨[],[]⟩ (.ret (.tup [An n,.d (.v .nilIface)])) ⟨[],[]⟩:=by
 refine ⟨enters_of Tryz.func189 rfl rfl,fun K w vs hI hA=>?_⟩
 simp only [Ap] at hA
 obtain ⟨u,us,rfl,hr,rfl⟩:=hA
 rw [Cb hr]
 refine (Tryz.strconv_Atoi s n hl h w).mono ?_
 rintro e w' ⟨rfl,t,rfl⟩
 have hb:=Lib.bytesWorld_below w 5 t
 obtain ⟨h1,h2⟩:=hI.below hb
 exact ⟨K,h2,h1,_,rfl,by simp [Rep,Ap,Cj,Value.oneCell']⟩
theorem pfn_do (k:Int) (s:ByteArray) (p:Int) (hs:s.size<=9223372036854775807):Aw 142 [tkP k s p] ⟨[],[]⟩ (.ret (At (!decide (Du k s.data.toList p=0)))) ⟨[],[]⟩:=by
 refine Af Tryz.func142 rfl rfl (Nat.le_of_ble_eq_true rfl) rfl (Nat.le_refl _) ?_
 repeat' (first|refine rl0 ?_|refine rs0 ?_ ?_<;>intro h|fail)
 refine Gh (Afg k s p hs) rfl rfl rfl rfl rfl (by repeat (first|exact Ae|refine Ab (Ac _) ?_)) ?_
 repeat' (first|refine rl0 ?_|refine rs0 ?_ ?_<;>intro h|fail)
 rfl
abbrev TkZ:=Int×ByteArray×Int
@[reducible] def tkR (t:TkZ):List DV:=[.v (.int .i64 t.1),.v (.string t.2.1),.v (.int .i64 t.2.2)]
@[reducible] def tksP (l:List TkZ):PV := .d (.sl 3 (l.map tkR))
def badT (t:TkZ):Bool := !decide (Du t.1 t.2.1.data.toList t.2.2=0)
def idxT (l:List TkZ):Int:=match l.findIdx? badT with|some i=>i|none => -1
theorem idx_do (l:List TkZ) (hs:∀ t∈l,t.2.1.size<=9223372036854775807):Aw 141 [tksP l,.fn 142 []] ⟨[],[]⟩ (.ret (An (idxT l))) ⟨[],[]⟩:=by
 refine Es Tryz.func141 rfl rfl (Nat.le_of_ble_eq_true rfl) rfl (Nat.le_refl _) ?_
 intro hf
 have hl:l.length<=9223372036854775807:=by have:=hf.1;simpa [Al0] using this
 repeat' (first|refine rl0 ?_|refine rs0 ?_ ?_<;>intro h|fail)
 refine Ca (ι := Nat) (ok:=fun i=>i<=l.length/\(l.take i).any badT=false) (L:=fun i=>[(0,tksP l),(1,.fn 142 []),(7,An (l.map tkR).length),(8,An i)]) (Sx:=fun _=>⟨[],[]⟩) (μ := fun i=>l.length-i) 0 ⟨Nat.zero_le _,by simp⟩ (by repeat (first|exact Ag|refine Aa rfl ?_)) rfl ?_
 rintro i ⟨hi,hm⟩
 repeat' (first|refine rl0 ?_|refine rs0 ?_ ?_<;>intro h|fail)
 ·have hlt:i<l.length:=by simpa using h
  obtain ⟨x,hx⟩:∃ x,l[i]? = some x:=⟨_,List.getElem?_eq_getElem hlt⟩
  refine wix _ rfl rfl rfl rfl rfl (Xy hx) (by omega) ?_
  repeat' (first|refine rl0 ?_|refine rs0 ?_ ?_<;>intro h|fail)
  refine Gh (pfn_do x.1 x.2.1 x.2.2 (hs x (List.mem_of_getElem? hx))) rfl rfl rfl rfl rfl (by repeat (first|exact Ae|refine Ab (Ac _) ?_)) ?_
  repeat' (first|refine rl0 ?_|refine rs0 ?_ ?_<;>intro h|fail)
  ·rw [show idxT l=i from by unfold idxT;rw [Ml hx hm h]]
  ·exact ⟨i+1,⟨by omega,Y2 hx hm h⟩,by omega,(by repeat (first|exact Ag|refine Aa rfl ?_)),rfl⟩
 ·rw [List.take_of_length_le (by simp at h;omega)] at hm
  rw [show idxT l = -1 from by unfold idxT;rw [List.findIdx?_eq_none_iff.2 (by rw [List.any_eq_false] at hm;intro x hx;simpa using hm x hx)]]
def orcA:Nat->List PV->PS->Option (POut×PS):=fun f args S=>match args with
 |[.d (.v (.string s))]=>match S with
  |⟨[],[]⟩=>bif Nat.beq f 189&&Nat.ble s.size 18 then
    match Lib.atoi s.data.toList with
    |some n=>some (.ret (.tup [An n,.d (.v .nilIface)]),⟨[],[]⟩)
    |none=>none
   else none
  |_=>none
 |_=>none
theorem Yc:Pk orcA:=by
 intro f args S out S' h
 unfold orcA at h
 split at h
 ·rename_i s
  split at h
  ·cases hb:(Nat.beq f 189&&Nat.ble s.size 18) with
   |false=>rw [hb] at h;cases h
   |true =>
    rw [hb] at h
    simp only [Bool.and_eq_true] at hb
    obtain rfl:=Nat.eq_of_beq_eq_true hb.1
    simp only [cond_true] at h
    split at h
    ·rename_i n hn
     cases h
     exact Alh s n (Nat.le_of_ble_eq_true hb.2) hn
    ·cases h
  ·cases h
 ·cases h
def rowsA:Nat->Bool:=fun f=>[144,172,174,173,193,194,209,210].any (Nat.beq f)
theorem O2 (a b:Ex):a.same b=(decide (a.op=b.op)&&decide (a.n=b.n)&&decide (a.name=b.name)&&Sn a.args b.args):=by cases a;cases b;rfl
theorem Mr:∀ {l l':List Ex},l.length≠l'.length->Sn l l'=false
 |[],[],h=>absurd rfl h
 |_::_,[],_=>rfl
 |[],_::_,_=>rfl
 |x::l,y::l',h=>by simp only [Sn,Mr (l:=l) (l':=l') (by simpa using h),Bool.and_false]
theorem Qn {l l':List Ex} {i:Nat} {x y:Ex} (hx:l[i]? = some x) (hy:l'[i]? = some y):Sn (l.drop i) (l'.drop i)=(x.same y&&Sn (l.drop (i+1)) (l'.drop (i+1))):=by
 obtain ⟨h1,rfl⟩:=List.getElem?_eq_some_iff.1 hx
 obtain ⟨h2,rfl⟩:=List.getElem?_eq_some_iff.1 hy
 rw [List.drop_eq_getElem_cons h1,List.drop_eq_getElem_cons h2];rfl
theorem Ahe {l l':List Ex} {i:Nat} (h:l.length=l'.length) (hi:l.length<=i):Sn (l.drop i) (l'.drop i)=true:=by
 rw [List.drop_of_length_le hi,List.drop_of_length_le (by omega)];rfl
set_option maxHeartbeats 1000000 in
theorem same_do:∀ (n:Nat) (a b:Ex),a.hgt<=n->Aw 71 [exP a,exP b] ⟨[],[]⟩ (.ret (At (a.same b))) ⟨[],[]⟩:=by
 intro n
 induction n with
 |zero=>intro a b h;cases a;simp [Ex.hgt] at h
 |succ n ih =>
  intro a b hn
  refine Es Tryz.func71 rfl rfl (Nat.le_of_ble_eq_true rfl) rfl (Nat.le_refl _) ?_
  intro hf
  repeat' (first|refine rl0 ?_|refine rs0 ?_ ?_<;>intro h|fail)
  ·rw [O2];simp_all
  ·rw [O2];simp_all
  ·rw [O2];simp_all
  ·rw [O2,Mr]
   ·simp
   ·rw [<- Bb,<- Bb b.args];intro e;rw [e] at h;simp at h
  rename_i h1 h2 h3
  have hlen:a.args.length=b.args.length:=by
   rw [<- Bb,<- Bb b.args];simp at h;omega
  have hfit:a.args.length<=9223372036854775807:=by
   rw [<- Bb];exact hf.1.2.2.2.1
  refine Ca (ι := Nat) (ok:=fun i=>i<=a.args.length/\a.same b=Sn (a.args.drop i) (b.args.drop i)) (L:=fun i=>[(2,.ptr 0 0),(3,.ptr 1 0),(5,An i)]) (Sx:=fun _=>⟨[(exP a).parts,(exP b).parts],[]⟩) (μ := fun i=>a.args.length-i) 0 ⟨Nat.zero_le _,?_⟩ (by repeat (first|exact Ag|refine Aa rfl ?_)) rfl ?_
  ·rw [O2];simp_all
  rintro i ⟨hi,hm⟩
  repeat' (first|refine rl0 ?_|refine rs0 ?_ ?_<;>intro h|fail)
  ·have hlt:i<a.args.length:=by rw [Bb] at h;simpa using h
   obtain ⟨x,hx⟩:∃ x,a.args[i]? = some x:=⟨_,List.getElem?_eq_getElem hlt⟩
   obtain ⟨y,hy⟩:∃ y,b.args[i]? = some y:=⟨_,List.getElem?_eq_getElem (by omega)⟩
   refine Tj _ rfl rfl rfl rfl rfl (Ak hx) (by omega) ?_
   repeat' (first|refine rl5 ?_|refine rs5 ?_ ?_<;>intro h|fail)
   refine Tj _ rfl rfl rfl rfl rfl (Ak hy) (by omega) ?_
   repeat' (first|refine rl5 ?_|refine rs5 ?_ ?_<;>intro h|fail)
   have:=Ga (List.mem_of_getElem? hx)
   refine wcn (ih x y (by omega)) rfl rfl rfl rfl rfl (by repeat (first|exact Ae|refine Ab (Ac _) ?_)) ?_
   repeat' (first|refine rl0 ?_|refine rs0 ?_ ?_<;>intro h|fail)
   ·rw [hm,Qn hx hy];simp_all
   ·exact ⟨i+1,⟨by omega,by rw [hm,Qn hx hy];simp_all⟩,by omega,(by repeat (first|exact Ag|refine Aa rfl ?_)),rfl⟩
  ·rw [hm,Ahe hlen (by rw [Bb] at h;simp at h;omega)]
def normV:Value->DV
 |.slice none 0 0 => .sl 4 []
 |x => .v x
mutual
def Aga:DV->DV
 |.v x=>normV x
 |.sl k l => .sl k (X4 l)
def X3:List DV->List DV
 |[]=>[]
 |c::r=>Aga c::X3 r
def X4:List (List DV)->List (List DV)
 |[]=>[]
 |e::r=>X3 e::X4 r
end
theorem Kw:∀ l:List (List DV),(X4 l).length=l.length
 |[]=>rfl
 |_::r=>by simp [X4,Kw r]
theorem Vh:∀ l:List DV,(X3 l).length=l.length
 |[]=>rfl
 |_::r=>by simp [X3,Vh r]
theorem Agb {G:Nat->Nat->Prop} {w:World} {x u:Value} (h:Cj G w (.v x) u):Cj G w (normV x) u:=by
 unfold normV
 split
 ·simp only [Cj] at h |-
  exact ⟨none,0,h.1,Nat.le_refl _,by omega,fun hne=>absurd rfl hne⟩
 ·exact h
mutual
theorem Vj {G:Nat->Nat->Prop} {w:World}:∀ {c:DV} {u:Value},Cj G w c u->Cj G w (Aga c) u
 |.v x,u,h=>by rw [Aga];exact Agb h
 |.sl k l,u,h=>by
  simp only [Aga,Cj] at h |-
  obtain ⟨p,cap,e,h1,h2,h3⟩:=h
  refine ⟨p,cap,by rw [Kw];exact e,by rw [Kw];exact h1,h2,fun hne=>?_⟩
  obtain ⟨b,o,e1,h4,h5⟩:=h3 (by rintro rfl;exact hne rfl)
  exact ⟨b,o,e1,by rw [Kw];exact h4,Vl h5⟩
theorem Vi {G:Nat->Nat->Prop} {w:World} {b:Nat}:∀ {l:List DV} {o:Nat},Aq G w l b o->Aq G w (X3 l) b o
 |[],_,_=>by simp [X3,Aq]
 |c::r,o,h=>by
  simp only [X3,Aq] at h |-
  obtain ⟨⟨u,h1,h2⟩,h3⟩:=h
  exact ⟨⟨u,h1,Vj h2⟩,Vi h3⟩
theorem Vl {G:Nat->Nat->Prop} {w:World} {k b:Nat}:∀ {l:List (List DV)} {o:Nat},Bt G w k l b o->Bt G w k (X4 l) b o
 |[],_,_=>by simp [X4,Bt]
 |e::r,o,h=>by
  simp only [X4,Bt] at h |-
  exact ⟨by rw [Vh];exact h.1,Vi h.2.1,Vl h.2.2⟩
end
def normX:PV->PV
 |.agg [.d a,.d b,.d c,.d e] => .agg [.d a,.d b,.d c,.d (Aga e)]
 |p=>p
theorem Vm (S:PS) (p:PV):Coe S p (normX p):=by
 unfold normX
 split
 ·refine Eb (Ab (Ac _) (Ab (Ac _) (Ab (Ac _) (Ab ?_ Ae))))
  intro K w u _ h
  simp only [Rep] at h |-
  exact Vj h
 ·exact Ac _
def toTk (t:Tok):TkZ:=(t.kind,Cs t.text,t.pos)
theorem Wl (l:List Tok):Ac8 l=tksP (l.map toTk):=by
 simp only [Ac8,tksP,List.map_map];rfl
theorem V0 {s:ByteArray} {x:Ex} {n e:Int} (h0:(Gx s.data.toList).2.2=0) (hp:Aw 107 [Ac8 (Gx s.data.toList).1,An 0] ⟨[],[]⟩ (.ret (.tup [exP x,An n,An e])) ⟨[],[]⟩) :
  Aw 70 [Fi s] ⟨[],[]⟩ (.ret (.tup [exP x,An n,An e])) ⟨[],[]⟩:=by
 have hsc:=scan_do s
 rw [h0] at hsc
 refine Af Tryz.func70 rfl rfl (Nat.le_of_ble_eq_true rfl) rfl (Nat.le_refl _) ?_
 repeat' (first|refine rl0 ?_|refine rs0 ?_ ?_<;>intro h|fail)
 refine Gh hsc rfl rfl rfl rfl rfl (by repeat (first|exact Ae|refine Ab (Ac _) ?_)) ?_
 repeat' (first|refine rl0 ?_|refine rs0 ?_ ?_<;>intro h|fail)
 refine Gh hp rfl rfl rfl rfl rfl (by repeat (first|exact Ae|refine Ab (Ac _) ?_)) ?_
 repeat' (first|refine rl0 ?_|refine rs0 ?_ ?_<;>intro h|fail)
 rfl
theorem reads_do {s:ByteArray} {x y:Ex} {n:Int} (h0:(Gx s.data.toList).2.2=0) (hp:Aw 107 [Ac8 (Gx s.data.toList).1,An 0] ⟨[],[]⟩ (.ret (.tup [exP x,An n,An 0])) ⟨[],[]⟩) (hs:x.same y=true) :
  Aw 36 [Fi s,exP y,An n] ⟨[],[]⟩ (.ret (At true)) ⟨[],[]⟩:=by
 have hsm:=same_do _ x y (Nat.le_refl _)
 rw [hs] at hsm
 refine Af Tryz.func36 rfl rfl (Nat.le_of_ble_eq_true rfl) rfl (Nat.le_refl _) ?_
 repeat' (first|refine rl0 ?_|refine rs0 ?_ ?_<;>intro h|fail)
 refine Gh (V0 h0 hp) rfl rfl rfl rfl rfl (by repeat (first|exact Ae|refine Ab (Ac _) ?_)) ?_
 repeat' (first|refine rl0 ?_|refine rs0 ?_ ?_<;>intro h|fail)
 ·refine Gh hsm rfl rfl rfl rfl rfl (by repeat (first|exact Ae|refine Ab (Ac _) ?_)) ?_
  repeat' (first|refine rl0 ?_|refine rs0 ?_ ?_<;>intro h|fail)
  rfl
 all_goals (exfalso;simp at *)
theorem fails_do {s:ByteArray} {n:Int} (h0:(Gx s.data.toList).2.2=0) (hp:Aw 107 [Ac8 (Gx s.data.toList).1,An 0] ⟨[],[]⟩ (.ret (.tup [exP .nil,An n,An 350])) ⟨[],[]⟩) :
  Aw 37 [Fi s,An n,An 350] ⟨[],[]⟩ (.ret (At true)) ⟨[],[]⟩:=by
 refine Af Tryz.func37 rfl rfl (Nat.le_of_ble_eq_true rfl) rfl (Nat.le_refl _) ?_
 repeat' (first|refine rl0 ?_|refine rs0 ?_ ?_<;>intro h|fail)
 refine Gh (V0 h0 hp) rfl rfl rfl rfl rfl (by repeat (first|exact Ae|refine Ab (Ac _) ?_)) ?_
 repeat' (first|refine rl0 ?_|refine rs0 ?_ ?_<;>intro h|fail)
 all_goals first|rfl|(exfalso;simp at *)
noncomputable def runP (l:List TkZ):Option (POut×PS):=Aet Tryz.prog orcA rowsA 1000 144 [.ptr 0 0] (paK (l.map tkR) 0)
def normO:Option (POut×PS)->Option (POut×PS)
 |some (.ret r,S)=>some (.ret (normX r),S)
 |o=>o
theorem runP_ok {l:List TkZ} {x:Ex} {n:Int} (h:normO (runP l)=some (.ret (exP x),paK (l.map tkR) n)):Aw 144 [.ptr 0 0] (paK (l.map tkR) 0) (.ret (exP x)) (paK (l.map tkR) n):=by
 unfold normO at h
 split at h
 ·rename_i r S e
  simp only [Option.some.injEq,Prod.mk.injEq,POut.ret.injEq] at h
  obtain ⟨h1,rfl⟩:=h
  exact Dy (I7 Yc e) (h1▸Vm _ _)
 ·exact I7 Yc h
theorem K8 {s:ByteArray} (l:List TkZ) (x:Ex) {n:Int} (h0:(Gx s.data.toList).2.2=0) (hl:(Gx s.data.toList).1.map toTk=l) (h1:idxT l = -1) (h2:∀ t∈l,t.2.1.size<=9223372036854775807)
  (h:normO (runP l)=some (.ret (exP x),paK (l.map tkR) n)) (hs:x.small) (hc:Bp x=0) (hsm:x.same x=true):Aw 36 [Fi s,exP x,An n] ⟨[],[]⟩ (.ret (At true)) ⟨[],[]⟩:=by
 refine reads_do h0 ?_ hsm
 have hi:=idx_do l h2
 rw [h1] at hi
 rw [Wl,hl]
 exact parse_ok ⟨by omega,by omega⟩ hi (runP_ok h) hs hc
theorem Ug {s:ByteArray} (l:List TkZ) {n:Int} (h0:(Gx s.data.toList).2.2=0) (hl:(Gx s.data.toList).1.map toTk=l) (h1:idxT l = -1) (h2:∀ t∈l,t.2.1.size<=9223372036854775807)
  (h:runP l=some (.panic malV,paK (l.map tkR) n)):Aw 37 [Fi s,An n,An 350] ⟨[],[]⟩ (.ret (At true)) ⟨[],[]⟩:=by
 refine fails_do h0 ?_
 have hi:=idx_do l h2
 rw [h1] at hi
 rw [Wl,hl]
 exact Agw ⟨by omega,by omega⟩ hi (I7 Yc h)
section
variable {N:Nat} {x y:Code} {Q:Exit->(Nat->PV)->PS->Prop} {F:Nat->PV} {S:PS} {n m:Nat}
theorem Sa {c:Code} (L:List (Nat×PV)) (hL:Tq L F) (h:PB Tryz.prog N c Q (fr L) S n m):PB Tryz.prog N c Q F S n m :=
 ⟨fun ro mm K w a K0 S0 w0 hI0 hn hm hs hI hF=>h.run ro mm K w a K0 S0 w0 hI0 hn hm hs hI (Mm hL hF)⟩
theorem Aal {ι : Type} (ok : ι -> Prop) (L : ι -> List (Nat×PV)) (Sx : ι -> PS) (hx:PW Tryz.prog N x (M5 (fun F' S'=>∃ i,ok i/\Tq (L i) F'/\S'=Sx i) Q) F S) (hy:∀ i,ok i->PB Tryz.prog N y Q (fr (L i)) (Sx i) n m):PB Tryz.prog N (.seq x y) Q F S n m:=by
 refine C2 (hx.mono fun e F' S' h=>?_)
 cases e with
 |normal =>
  obtain ⟨i,h1,h2,rfl⟩:=h
  exact Sa (L i) h2 (hy i h1)
 |ret=>exact h
 |exit id=>exact h
 |goto l=>exact h
 |panic c=>exact h
 |outgrown=>exact h
end
theorem cut00 {S:PS}:S.cut 0 0=⟨[],[]⟩:=by simp [PS.cut]
def Aix (l:List UInt8):ByteArray:=⟨l.toArray⟩
theorem ext1 (c:UInt8) (t:List UInt8) (k:Nat) (hk:k=t.length+1):ByteArray.extract (Aix (c::t)) 1 k=Aix t:=by
 apply ByteArray.ext
 rw [ByteArray.data_extract]
 apply Array.ext'
 subst hk
 simp [Aix]
theorem bs_list (t:List UInt8):(Aix t).data.toList=t:=rfl
set_option maxHeartbeats 2000000 in
theorem Aib (n:Int) (hz:(Y5 n).size<=1000000000):Aw 135 [Fi (Y5 n)] ⟨[],[]⟩ (.ret (Dv (D4.limN n.natAbs))) ⟨[],[]⟩:=by
 obtain ⟨t,ht⟩:∃ t,t=Lib.decDigits n.natAbs:=⟨_,rfl⟩
 have hdig:∀ c∈t,Aj4 c:=by rw [ht];exact Aje _
 have hR:D4.trimL (rdK t t.length)=D4.limN n.natAbs:=by rw [rdK_all hdig,ht,Ako]
 rw [<- hR]
 have hln:t.length<=1000000000:=by
  have e:(Y5 n).size=(Lib.itoa n).length:=rfl
  have:t.length<=(Lib.itoa n).length:=by
   rw [ht];unfold Lib.itoa;split
   ·simp
   ·rw [show n.toNat=n.natAbs by omega];exact Nat.le_refl _
  omega
 have hne:t≠[]:=by rw [ht];exact Aju _
 refine Af Tryz.func135 rfl rfl (Nat.le_of_ble_eq_true rfl) rfl (Nat.le_refl _) ?_
 refine Co ?_
 refine Bf ?_
 refine wst rfl rfl trivial ?_
 refine Cq ?_
 refine Co ?_
 refine V8 (ι := Unit) (ok:=fun _=>True) (L:=fun _=>[(0,Fi (Aix t))]) (Sx:=fun _=>⟨[],[]⟩) ?_ ?_
 ·refine Co ?_
  by_cases hn:n<0
  ·have e:Y5 n=Aix (45::t):=by unfold Y5 Lib.itoa;rw [if_pos hn,<- ht];rfl
   rw [e]
   repeat' (first|refine rl3 ?_|refine rs3 ?_ ?_<;>intro h|fail)
   refine wst rfl rfl ⟨by omega,by show (0:Int)<((45::t).length:Int);simp⟩ ?_
   repeat' (first|refine rl3 ?_|refine rs3 ?_ ?_<;>intro h|fail)
   refine J9 (Fi (Aix t)) rfl rfl (by rw [show ((Aix (45::t)).size:Int).toNat=t.length+1 from rfl];exact congrArg Fi (ext1 45 t _ rfl)) ⟨by omega,by show (1:Int)<=((45::t).length:Int);simp;omega,by omega⟩ ?_
   repeat' (first|refine rl3 ?_|refine rs3 ?_ ?_<;>intro h|fail)
   exact ⟨(),trivial,(by repeat (first|exact Ag|refine Aa rfl ?_)),rfl⟩
  ·have e:Y5 n=Aix t:=by unfold Y5 Lib.itoa;rw [if_neg hn,ht,show n.toNat=n.natAbs by omega];rfl
   rw [e]
   repeat' (first|refine rl3 ?_|refine rs3 ?_ ?_<;>intro h|fail)
   refine wst rfl rfl ⟨by omega,by show (0:Int)<(t.length:Int);have:=List.length_pos_iff.2 hne;omega⟩ ?_
   repeat' (first|refine rl3 ?_|refine rs3 ?_ ?_<;>intro h|fail)
   ·exfalso
    have h1:=of_decide_eq_true h
    rw [bs_list] at h1
    obtain ⟨c,r,rfl⟩:=List.exists_cons_of_ne_nil hne
    have h2:=(hdig c List.mem_cons_self).1
    simp at h1
    omega
   ·exact ⟨(),trivial,(by repeat (first|exact Ag|refine Aa rfl ?_)),rfl⟩
 rintro _ _
 refine Co ?_
 repeat' (first|refine rl3 ?_|refine rs3 ?_ ?_<;>intro h|fail)
 refine Ag3 3 1 3 rfl ?_
 refine C7 ?_
 refine Ca (ι := List Int×Int) (ok:=fun q=>rdK t t.length=q.1++rdK t q.2.toNat/\q.2<=t.length /\ -4<q.2) (L:=fun q=>[(0,Fi (Aix t)),(3,.hd 0 q.1.length),(4,An q.2)]) (Sx:=fun q=>⟨[],[⟨q.1.length,1,q.1.map inE,3⟩]⟩) (μ := fun q=>(q.2+4).toNat) ([],(t.length:Int)) ⟨rfl,by show (t.length:Int)<=_;omega,by show (-4:Int)<(t.length:Int);omega⟩ (by exact (by repeat (first|exact Ag|refine Aa rfl ?_))) rfl ?_
 rintro ⟨l,x⟩ ⟨hl,hx1,hx2⟩
 dsimp only at hl hx1 hx2 |-
 have hz0:(Aix t).size=t.length:=rfl
 repeat' (first|refine rl3 ?_|refine rs3 ?_ ?_<;>intro h|fail)
 ·have hx0:0<x:=of_decide_eq_true h
  obtain ⟨e,rfl⟩:∃ e:Nat,x=e:=⟨x.toNat,by omega⟩
  have hpos:=Akv (t:=t) (e:=e) (by omega)
  rw [Int.toNat_natCast,hpos] at hl
  have hchk:Ai3 ((t.take e).drop (e-4)) 0<10000:=by
   have h1:=Ajx (l:=(t.take e).drop (e-4)) fun c hc=>hdig c (List.mem_of_mem_take (List.mem_of_mem_drop hc))
   have h2:10 ^ ((t.take e).drop (e-4)).length<=10 ^ 4:=Nat.pow_le_pow_right (by decide) (by simp;omega)
   omega
  generalize hv:Ai3 ((t.take e).drop (e-4)) 0=v at hl hchk
  have hll:l.length<=t.length:=by
   have h1:=congrArg List.length hl
   have h2:=rdK_len t t.length
   simp at h1;omega
  refine C7 ?_
  repeat' (first|refine rl3 ?_|refine rs3 ?_ ?_<;>intro h|fail)
  refine V8 (ι := Unit) (ok:=fun _=>True) (L:=fun _=>[(0,Fi (Aix t)),(3,.hd 0 l.length),(4,An e),(5,An (v:Int))]) (Sx:=fun _=>⟨[],[⟨l.length,1,l.map inE,3⟩]⟩) ?_ ?_
  ·refine C7 ?_
   have hmx:(if (0:Int)<(e:Int)-4 then (e:Int)-4 else 0)=((e-4:Nat):Int):=by split<;>omega
   have h5:(t.take (e-4)).drop (e-4)=[]:=List.drop_of_length_le (by simp;omega)
   refine Ca (ι := Nat) (ok:=fun i=>e-4<=i/\i<=e) (L:=fun i=>[(0,Fi (Aix t)),(3,.hd 0 l.length),(4,An e),(5,An ((Ai3 ((t.take i).drop (e-4)) 0:Nat):Int)),(6,An i)]) (Sx:=fun _=>⟨[],[⟨l.length,1,l.map inE,3⟩]⟩) (μ := fun i=>e-i) (e-4) ⟨Nat.le_refl _,by omega⟩ (Aa rfl (Aa rfl (Aa rfl (Aa (by rw [h5];rfl) (Aa (congrArg An hmx) Ag))))) rfl ?_
   rintro i ⟨hi1,hi2⟩
   have hci:Ai3 ((t.take i).drop (e-4)) 0<1000\/i=e:=by
    by_cases hie:i=e
    ·exact .inr hie
    ·left
     have h1:=Ajx (l:=(t.take i).drop (e-4)) fun c hc=>hdig c (List.mem_of_mem_take (List.mem_of_mem_drop hc))
     have h2:10 ^ ((t.take i).drop (e-4)).length<=10 ^ 3:=Nat.pow_le_pow_right (by decide) (by simp;omega)
     omega
   repeat' (first|refine rl3 ?_|refine rs3 ?_ ?_<;>intro h|fail)
   ·have hie:i<e:=by have:=of_decide_eq_true h;omega
    have hit:i<t.length:=by omega
    have hstep:(t.take (i+1)).drop (e-4)=(t.take i).drop (e-4)++[t.getD i 0]:=by
     rw [List.take_succ_eq_append_getElem hit,List.drop_append_of_le_length (by simp;omega),List.getD_eq_getElem?_getD,List.getElem?_eq_getElem hit];rfl
    have hcd:Aj4 (t.getD i 0):=by
     rw [List.getD_eq_getElem?_getD,List.getElem?_eq_getElem hit];exact hdig _ (List.getElem_mem hit)
    obtain ⟨hc1,hc2⟩:=hcd
    have hdv:Ai3 ((t.take (i+1)).drop (e-4)) 0=10*Ai3 ((t.take i).drop (e-4)) 0+((t.getD i 0).toNat-48):=by rw [hstep,Aiw];rfl
    have hd0:Ai3 ((t.take i).drop (e-4)) 0<1000:=hci.resolve_right (by omega)
    refine C7 ?_
    repeat' (first|refine rl3 ?_|refine rs3 ?_ ?_<;>intro h|fail)
    refine J9 (.d (.v (.int .u8 (((t.getD i 0).toNat:Int)-48)))) rfl rfl rfl ⟨by show (0:Int)<=((t.getD i 0).toNat:Int)-48;omega,by show ((t.getD i 0).toNat:Int)-48<=255;omega⟩ ?_
    refine wst rfl rfl ⟨by show (-9223372036854775808:Int)<=((t.getD i 0).toNat:Int)-48;omega,by show ((t.getD i 0).toNat:Int)-48<=(9223372036854775807:Int);omega⟩ ?_
    repeat' (first|refine rl3 ?_|refine rs3 ?_ ?_<;>intro h|fail)
    exact ⟨i+1,⟨by omega,by omega⟩,by omega,Aa rfl (Aa rfl (Aa rfl (Aa (by show An _=An _;rw [hdv];congr 4;omega) (Aa rfl Ag)))),rfl⟩
   ·obtain rfl:i=e:=by have:=of_decide_eq_false h;omega
    exact ⟨(),trivial,Aa rfl (Aa rfl (Aa rfl (Aa (by rw [<- hv];rfl) Ag))),rfl⟩
  ·rintro _ _
   repeat' (first|refine rl3 ?_|refine rs3 ?_ ?_<;>intro h|fail)
   refine Ww (news:=[inE v]) (S':=⟨[],[⟨l.length+1,1,(l++[(v:Int)]).map inE,3⟩]⟩) rfl rfl rfl rfl rfl rfl ?_ ?_ (by simp [PS.setTok]) ?_
   ·simp only [List.length_map,List.length_cons];show (_+1)*8<=_;omega
   ·simp only [List.length_map,List.length_cons];show _+1<=_;omega
   repeat' (first|refine rl3 ?_|refine rs3 ?_ ?_<;>intro h|fail)
   refine ⟨(l++[(v:Int)],(e:Int)-4),⟨by rw [hl,show ((e:Int)-4).toNat=e-4 by omega];simp,by show (e:Int)-4<=_;omega,by show -4<(e:Int)-4;omega⟩,by show ((e:Int)-4+4).toNat<_;omega,Aa rfl (Aa (by show PV.hd 0 _=PV.hd 0 _;simp) (Aa rfl Ag)),by simp⟩
 ·have hx0:¬ 0<x:=of_decide_eq_false h
  rw [show x.toNat=0 by omega,Ajb,List.append_nil] at hl
  rw [hl]
  refine wp1 (Ajt l) ?_ rfl rfl rfl rfl rfl (Ab (Ki (Fc rfl)) Ae)
  repeat' (first|refine rl3 ?_|refine rs3 ?_ ?_<;>intro h|fail)
  rfl
section
variable {N:Nat} {ops:Array Oper} {rest:List Oper} {o:Oper} {F:Nat->PV} {S:PS} {q:WRes->Prop}
theorem wlenS {t:TypeId} {x:Operand} {l:List (List DV)} (hx:S.toS (tyi t).ek (evP F x)=some l) (kk:WK Tryz.prog N ops rest (Cd N o.dst (.d (.v (.int .i64 l.length))) F) S q) (hg:Al ops F o=some true:=by exact rfl) (ho:o.op = .call { callee := .builtin .len,args := #[x],argTypes := #[t] }:=by exact rfl) (hk:(Ba t&&Nat.beq (tyi t).kind 2)=true:=by exact rfl):WK Tryz.prog N ops (o::rest) F S q:=by
 simp only [Bool.and_eq_true] at hk
 exact Eo hg (Al8 ho (Fj t hk.1) (Nat.eq_of_beq_eq_true hk.2) hx) kk
end
def sgI (neg:Bool) (m:Nat):Int:=if neg=true then -(m:Int) else m
theorem Ak4:Y5 0=⟨#[48]⟩:=by
 rw [show (0:Int)=((0:Nat):Int) from rfl,Akb (by decide)];rfl
theorem decB_pos (m:Nat):Y5 m=Aix (Lib.decDigits m):=by unfold Y5;rw [Nf];rfl
theorem decB_neg {m:Nat} (h:m≠0):Y5 (-(m:Int))=Aix (45::Lib.decDigits m):=by
 unfold Y5 Lib.itoa
 rw [if_pos (by omega),Int.natAbs_neg,Int.natAbs_natCast];rfl
def wrL (l:List Int) (j k:Nat):List UInt8:=Aiq (Anx (l.drop (j+1))++(by4 (l.getD j 0).toNat).take k)
def wrS (l:List UInt8):PS:=⟨[],[⟨l.length,1,l.map byE,5⟩]⟩
theorem Amh (l:List Int) (j:Nat):wrL l j 0=Aiq (Anx (l.drop (j+1))):=by unfold wrL;simp
theorem Amg {l:List Int} {j:Nat} (h:j<l.length):wrL l j 4=Aiq (Anx (l.drop j)):=by
 unfold wrL
 rw [List.drop_eq_getElem_cons h,Anx,List.getD_eq_getElem?_getD,List.getElem?_eq_getElem h];rfl
theorem by4_get (x k:Nat) (h:k<4):(by4 x).take (k+1)=(by4 x).take k++[UInt8.ofNat (48+x / ([1000,100,10,1].getD k 0) % 10)]:=by
 have:k=0\/k=1\/k=2\/k=3:=by omega
 rcases this with rfl|rfl|rfl|rfl<;>simp [by4]
theorem wrL_step (l:List Int) (j k:Nat) (h:k<4):wrL l j (k+1)=(fun c=>if wrL l j k=[]/\c=48 then [] else wrL l j k++[c]) (UInt8.ofNat (48+(l.getD j 0).toNat / ([1000,100,10,1].getD k 0) % 10)):=by
 unfold wrL
 rw [by4_get _ _ h,<- List.append_assoc,Amw]
theorem Ame (l:List UInt8):(Aiq l).length<=l.length:=by unfold Aiq;exact (List.dropWhile_sublist _).length_le
theorem Aku:∀ l:List Int,(Anx l).length=4*l.length
 |[]=>rfl
 |x::r=>by simp [Anx,by4,Aku r];omega
theorem wrL_len (l:List Int) (j k:Nat):(wrL l j k).length<=4*l.length+4:=by
 unfold wrL
 refine Nat.le_trans (Ame _) ?_
 rw [List.length_append,Aku,List.length_take,List.length_drop]
 simp only [by4,List.length_cons,List.length_nil];omega
def unK (k:Nat):Int:=[1000,100,10,1,0].getD k 0
set_option maxHeartbeats 4000000 in
theorem Aim (neg:Bool) (m:Nat) (hm:(D4.limN m).length<=1000000):Aw 133 [At neg,Dv (D4.limN m)] ⟨[],[]⟩ (.ret (Fi (Y5 (sgI neg m)))) ⟨[],[]⟩:=by
 by_cases h0:m=0
 ·subst h0
  rw [D4.limN_zero,show sgI neg 0=0 by unfold sgI;split<;>rfl,Ak4]
  refine Af Tryz.func133 rfl rfl (Nat.le_of_ble_eq_true rfl) rfl (Nat.le_refl _) ?_
  repeat' (first|refine rl0 ?_|refine rs0 ?_ ?_<;>intro h|fail)
  rfl
 have hl:D4.limN m≠[]:=by rw [Ne,D4.limN_nil];exact h0
 have hp:=pad_dec m h0
 have hok:=D4.limN_ok m
 have hln:((D4.limN m).map fun n=>[DV.v (.int .i64 n)]).length=(D4.limN m).length:=by simp
 generalize D4.limN m=l at *
 have hlp:=List.length_pos_iff.2 hl
 have hdl:(Lib.decDigits m).length<=4000000:=by
  rw [<- hp];refine Nat.le_trans (Ame _) ?_;rw [Aku];omega
 refine Af Tryz.func133 rfl rfl (Nat.le_of_ble_eq_true rfl) rfl (Nat.le_refl _) ?_
 refine Co ?_
 refine Bf ?_
 refine wst rfl rfl trivial ?_
 refine Cq ?_
 refine Co ?_
 repeat' (first|refine rl3 ?_|refine rs3 ?_ ?_<;>intro h|fail)
 ·exfalso;have:=of_decide_eq_true h;omega
 refine Ag3 5 1 5 rfl ?_
 refine C7 ?_
 refine Ca (ι := Nat) (ok:=fun j=>j<=l.length) (L:=fun j=>[(0,At neg),(1,Dv l),(5,.hd 0 (Aiq (Anx (l.drop j))).length),(6,An ((j:Int)-1))]) (Sx:=fun j=>wrS (Aiq (Anx (l.drop j)))) (μ := fun j=>j) l.length (Nat.le_refl _) (Aa rfl (Aa rfl (Aa (by rw [List.drop_length];rfl) (Aa (by rw [hln];rfl) Ag)))) (by rw [List.drop_length];rfl) ?_
 rintro j hj
 repeat' (first|refine rl3 ?_|refine rs3 ?_ ?_<;>intro h|fail)
 ·obtain ⟨i,rfl⟩:∃ i,j=i+1:=⟨j-1,by have:=of_decide_eq_true h;omega⟩
  have ei:(((i+1:Nat):Int)-1)=(i:Nat):=by omega
  rw [ei]
  obtain ⟨hx0,hx1⟩:=D4.getD_ok hok i
  refine C7 ?_
  repeat' (first|refine rl3 ?_|refine rs3 ?_ ?_<;>intro h|fail)
  refine C7 ?_
  refine Ca (ι := Nat) (ok:=fun k=>k<=4) (L:=fun k=>[(0,At neg),(1,Dv l),(5,.hd 0 (wrL l i k).length),(6,An i),(7,An (unK k))]) (Sx:=fun k=>wrS (wrL l i k)) (μ := fun k=>4-k) 0 (Nat.zero_le _) (Aa rfl (Aa rfl (Aa (by rw [Amh];rfl) (Aa rfl (Aa rfl Ag))))) (by rw [Amh]) ?_
  rintro k hk
  repeat' (first|refine rl3 ?_|refine rs3 ?_ ?_<;>intro h|fail)
  ·have hu:0<unK k:=of_decide_eq_true h
   have hk4:k<4:=by
    rcases Nat.lt_or_ge k 4 with h1|h1
    ·exact h1
    ·obtain rfl:k=4:=by omega
     exact absurd hu (by decide)
   have huN:unK k=(([1000,100,10,1].getD k 0:Nat):Int):=by
    have:k=0\/k=1\/k=2\/k=3:=by omega
    rcases this with rfl|rfl|rfl|rfl<;>rfl
   have hu9:unK k<=1000:=by
    have:k=0\/k=1\/k=2\/k=3:=by omega
    rcases this with rfl|rfl|rfl|rfl<;>decide
   have hun:unK k / 10=unK (k+1):=by
    have:k=0\/k=1\/k=2\/k=3:=by omega
    rcases this with rfl|rfl|rfl|rfl<;>decide
   have hst:=wrL_step l i k hk4
   obtain ⟨c,hcd⟩:∃ c,c=UInt8.ofNat (48+(l.getD i 0).toNat / ([1000,100,10,1].getD k 0) % 10):=⟨_,rfl⟩
   rw [<- hcd] at hst
   have hq0:0<=l.getD i 0 / unK k:=Int.ediv_nonneg hx0 (by omega)
   have hcN:((c.toNat:Nat):Int)=48+l.getD i 0 / unK k % 10:=by
    rw [hcd,Ajg (Nat.mod_lt _ (by decide)),huN]
    obtain ⟨y,hy⟩:∃ y:Nat,l.getD i 0=y:=⟨(l.getD i 0).toNat,by omega⟩
    rw [hy,Int.toNat_natCast]
    norm_cast
   have hlen:=wrL_len l i k
   dsimp only at hst
   generalize wrL l i k=out at *
   refine C7 ?_
   repeat' (first|refine rl3 ?_|refine rs3 ?_ ?_<;>intro h|fail)
   refine wix (inE (l.getD i 0)) rfl rfl rfl rfl rfl (Aij (by omega)) (by omega) ?_
   repeat' (first|refine rl3 ?_|refine rs3 ?_ ?_<;>intro h|fail)
   refine J9 (.d (.v (.int .u8 (c.toNat:Int)))) rfl rfl (by rw [hcN];rfl) ⟨by show (0:Int)<=48+l.getD i 0 / unK k % 10;omega,by show 48+l.getD i 0 / unK k % 10<=(255:Int);omega⟩ ?_
   repeat' (first|refine rl3 ?_|refine rs3 ?_ ?_<;>intro h|fail)
   refine wlenS (l:=out.map byE) (Fc rfl) ?_
   rw [List.length_map]
   repeat' (first|refine rl3 ?_|refine rs3 ?_ ?_<;>intro h|fail)
   ·have h1:=of_decide_eq_true h
    have hst':wrL l i (k+1)=out++[c]:=by rw [hst,if_neg];rintro ⟨rfl,_⟩;simp at h1
    refine Ww (news:=[byE c]) (S':=wrS (out++[c])) rfl rfl rfl rfl rfl rfl ?_ ?_ (by simp [PS.setTok,wrS]) ?_
    ·simp only [List.length_map,List.length_cons];show (_+1)*1<=_;omega
    ·simp only [List.length_map,List.length_cons];show _+1<=_;omega
    repeat' (first|refine rl3 ?_|refine rs3 ?_ ?_<;>intro h|fail)
    exact ⟨k+1,by omega,by omega,Aa rfl (Aa rfl (Aa (by rw [hst'];show PV.hd 0 _=PV.hd 0 _;simp) (Aa rfl (Aa (congrArg An hun) Ag)))),by rw [hst']⟩
   ·have h1:¬ ((c.toNat:Nat):Int)=48:=by simpa using h
    have hst':wrL l i (k+1)=out++[c]:=by rw [hst,if_neg];rintro ⟨_,rfl⟩;exact h1 rfl
    refine Ww (news:=[byE c]) (S':=wrS (out++[c])) rfl rfl rfl rfl rfl rfl ?_ ?_ (by simp [PS.setTok,wrS]) ?_
    ·simp only [List.length_map,List.length_cons];show (_+1)*1<=_;omega
    ·simp only [List.length_map,List.length_cons];show _+1<=_;omega
    repeat' (first|refine rl3 ?_|refine rs3 ?_ ?_<;>intro h|fail)
    exact ⟨k+1,by omega,by omega,Aa rfl (Aa rfl (Aa (by rw [hst'];show PV.hd 0 _=PV.hd 0 _;simp) (Aa rfl (Aa (congrArg An hun) Ag)))),by rw [hst']⟩
   ·rename_i g
    have h1:((c.toNat:Nat):Int)=48:=by simpa using h
    have h2:out=[]:=List.length_eq_zero_iff.1 (by have:=of_decide_eq_false g;omega)
    have h3:c=48:=UInt8.toNat_inj.1 (by show c.toNat=48;omega)
    rw [if_pos ⟨h2,h3⟩] at hst
    subst h2
    exact ⟨k+1,by omega,by omega,Aa rfl (Aa rfl (Aa (by rw [hst];rfl) (Aa rfl (Aa (congrArg An hun) Ag)))),by rw [hst]⟩
  ·obtain rfl:k=4:=by
    have h1:=of_decide_eq_false h
    have:k=0\/k=1\/k=2\/k=3\/k=4:=by omega
    rcases this with rfl|rfl|rfl|rfl|rfl<;>first|rfl|exact absurd (by decide) h1
   repeat' (first|refine rl3 ?_|refine rs3 ?_ ?_<;>intro h|fail)
   exact ⟨i,by omega,by omega,Aa rfl (Aa rfl (Aa (by rw [Amg (by omega)];rfl) (Aa rfl Ag))),by rw [Amg (by omega)]⟩
 ·rename_i g
  obtain rfl:j=0:=by have:=of_decide_eq_false g;omega
  rw [List.drop_zero,hp]
  refine wstr (Lib.decDigits m) (Aju _) ?_ (hx:=Fc rfl)
  refine wst rfl rfl (by show 1+(Lib.decDigits m).length<=_;omega) ?_
  repeat' (first|refine rl3 ?_|refine rs3 ?_ ?_<;>intro h|fail)
  subst h
  rw [show sgI true m = -(m:Int) from rfl,decB_neg h0]
  exact congrArg Fi (by apply ByteArray.ext;apply Array.ext';simp [Aix])
 ·rename_i g
  obtain rfl:j=0:=by have:=of_decide_eq_false g;omega
  rw [List.drop_zero,hp]
  refine wstr (Lib.decDigits m) (Aju _) ?_ (hx:=Fc rfl)
  repeat' (first|refine rl3 ?_|refine rs3 ?_ ?_<;>intro h|fail)
  subst h
  rw [show sgI false m=(m:Int) from rfl,decB_pos]
  rfl
def dAt (a i:Nat):Nat:=a / 10000 ^ i
theorem Ais (a:Nat):dAt a 0=a:=by simp [dAt]
theorem Ah8 (a i:Nat):dAt a (i+1)=dAt a i / 10000:=by unfold dAt;rw [Nat.pow_succ,Nat.div_div_eq_div_mul]
theorem Ali (a i:Nat):dAt (a / 10000) i=dAt a (i+1):=by unfold dAt;rw [Nat.pow_succ',Nat.div_div_eq_div_mul]
theorem Ajf:∀ (i a:Nat),(D4.limN a).getD i 0=((dAt a i % 10000:Nat):Int)
 |0,a=>by
  rw [Ais]
  by_cases h:a=0
  ·subst h;rw [D4.limN_zero];rfl
  ·rw [D4.limN_pos h];rfl
 |i+1,a=>by
  by_cases h:a=0
  ·subst h;rw [D4.limN_zero];simp [dAt]
  ·rw [D4.limN_pos h,List.getD_cons_succ,Ajf i,Ali]
theorem Aip:∀ (i a:Nat),i<(D4.limN a).length<->dAt a i≠0
 |0,a=>by
  rw [Ais]
  by_cases h:a=0
  ·subst h;rw [D4.limN_zero];simp
  ·rw [D4.limN_pos h];simp [h]
 |i+1,a=>by
  by_cases h:a=0
  ·subst h;rw [D4.limN_zero];simp [dAt]
  ·rw [D4.limN_pos h,List.length_cons,<- Ali,<- Aip i];omega
set_option maxHeartbeats 4000000 in
theorem dplus_do (a b:Nat) (hz:(D4.limN (a+b)).length<=1000000):Aw 166 [Dv (D4.limN a),Dv (D4.limN b)] ⟨[],[]⟩ (.ret (Dv (D4.limN (a+b)))) ⟨[],[]⟩:=by
 have ea:((D4.limN a).map fun n=>[DV.v (.int .i64 n)]).length=(D4.limN a).length:=by simp
 have eb:((D4.limN b).map fun n=>[DV.v (.int .i64 n)]).length=(D4.limN b).length:=by simp
 refine Dl Tryz.func166 rfl rfl (Nat.le_of_ble_eq_true rfl) (fun _=>?_)
 refine C2 ?_
 repeat' (first|refine rl3 ?_|refine rs3 ?_ ?_<;>intro h|fail)
 refine C2 ?_
 repeat' (first|refine rl3 ?_|refine rs3 ?_ ?_<;>intro h|fail)
 refine C2 ?_
 refine Ag3 5 1 3 rfl ?_
 repeat' (first|refine rl3 ?_|refine rs3 ?_ ?_<;>intro h|fail)
 refine C2 ?_
 refine Co ?_
 repeat' (first|refine rl3 ?_|refine rs3 ?_ ?_<;>intro h|fail)
 refine C7 ?_
 refine Ca (ι := List Int×Nat×Nat) (ok:=fun q=>D4.limN (a+b)=q.1++D4.limN (dAt a q.2.1+dAt b q.2.1+q.2.2)/\q.2.2<=1/\q.1.length=q.2.1) (L:=fun q=>[(0,Dv (D4.limN a)),(1,Dv (D4.limN b)),(5,.hd 0 q.1.length),(6,An (q.2.2:Int)),(7,An (q.2.1:Int))]) (Sx:=fun q=>⟨[],[⟨q.1.length,1,q.1.map inE,3⟩]⟩) (μ := fun q=>dAt a q.2.1+dAt b q.2.1+q.2.2) ([],0,0) ⟨by simp [Ais],Nat.zero_le _,rfl⟩ (by exact (by repeat (first|exact Ag|refine Aa rfl ?_))) rfl ?_
 rintro ⟨out,i,c⟩ ⟨hl,hc,ho⟩
 dsimp only at hl hc ho |-
 have hla:=Aip i a
 have hlb:=Aip i b
 have hga:=Ajf i a
 have hgb:=Ajf i b
 have hil:i<=1000000:=by have h1:=congrArg List.length hl;simp at h1;omega
 repeat' (first|refine rl3 ?_|refine rs3 ?_ ?_<;>intro h|fail)
 rotate_right 1
 ·have h1:=of_decide_eq_false h
  rename_i g2 g1
  have h2:=of_decide_eq_false g2
  have h3:=of_decide_eq_false g1
  have e1:dAt a i=0:=by rcases Nat.eq_zero_or_pos (dAt a i) with e|e;exact e;have:=hla.2 (by omega);omega
  have e2:dAt b i=0:=by rcases Nat.eq_zero_or_pos (dAt b i) with e|e;exact e;have:=hlb.2 (by omega);omega
  have e3:c=0:=by omega
  rw [e1,e2,e3,D4.limN_zero,List.append_nil] at hl
  rw [hl]
  refine Sb ?_
  repeat' (first|refine rl1 ?_|refine rs1 ?_ ?_<;>intro h|fail)
  exact Zk (.inr rfl) rfl rfl (Jy (Ki (Fc rfl)))
 ·have ga:=of_decide_eq_true h
  have hN:dAt a i+dAt b i+c≠0:=by have:=hla.1 (by omega);omega
  refine C7 ?_
  repeat' (first|refine rl3 ?_|refine rs3 ?_ ?_<;>intro h|fail)
  ·refine wix (inE ((dAt a i % 10000:Nat):Int)) rfl rfl rfl rfl rfl (by rw [<- hga];exact Aij (by have:=of_decide_eq_true h;omega)) (by omega) ?_
   repeat' (first|refine rl3 ?_|refine rs3 ?_ ?_<;>intro h|fail)
   ·refine wix (inE ((dAt b i % 10000:Nat):Int)) rfl rfl rfl rfl rfl (by rw [<- hgb];exact Aij (by have:=of_decide_eq_true h;omega)) (by omega) ?_
    repeat' (first|refine rl3 ?_|refine rs3 ?_ ?_<;>intro h|fail)
    refine Ww (news:=[inE ((((c:Int)+((dAt a i % 10000:Nat):Int))+((dAt b i % 10000:Nat):Int)) % 10000)]) (S':=⟨[],[⟨out.length+1,1,(out++[(((c:Int)+((dAt a i % 10000:Nat):Int))+((dAt b i % 10000:Nat):Int)) % 10000]).map inE,3⟩]⟩) rfl rfl rfl rfl rfl rfl ?_ ?_ (by simp [PS.setTok]) ?_
    ·simp only [List.length_map,List.length_cons];show (_+1)*8<=_;omega
    ·simp only [List.length_map,List.length_cons];show _+1<=_;omega
    repeat' (first|refine rl3 ?_|refine rs3 ?_ ?_<;>intro h|fail)
    exact ⟨(out++[(((c:Int)+((dAt a i % 10000:Nat):Int))+((dAt b i % 10000:Nat):Int)) % 10000],i+1,((((c:Int)+((dAt a i % 10000:Nat):Int))+((dAt b i % 10000:Nat):Int)) / 10000).toNat),⟨by
      show D4.limN (a+b)=(out++[(((c:Int)+((dAt a i % 10000:Nat):Int))+((dAt b i % 10000:Nat):Int)) % 10000])++D4.limN (dAt a (i+1)+dAt b (i+1)+((((c:Int)+((dAt a i % 10000:Nat):Int))+((dAt b i % 10000:Nat):Int)) / 10000).toNat)
      rw [hl,D4.limN_pos hN,Ah8,Ah8,List.append_assoc,List.singleton_append]
      congr 2
      ·omega
      ·congr 1;omega,by show ((((c:Int)+((dAt a i % 10000:Nat):Int))+((dAt b i % 10000:Nat):Int)) / 10000).toNat<=1;omega,by simp [ho]⟩,by show dAt a (i+1)+dAt b (i+1)+((((c:Int)+((dAt a i % 10000:Nat):Int))+((dAt b i % 10000:Nat):Int)) / 10000).toNat<_;rw [Ah8,Ah8];omega,Aa rfl (Aa rfl (Aa (by show PV.hd 0 _=PV.hd 0 _;simp) (Aa (by show An ((((c:Int)+((dAt a i % 10000:Nat):Int))+((dAt b i % 10000:Nat):Int)) / 10000)=An ((((((c:Int)+((dAt a i % 10000:Nat):Int))+((dAt b i % 10000:Nat):Int)) / 10000).toNat:Nat):Int);exact congrArg An (by omega)) (Aa rfl Ag)))),by simp⟩
   ·have e2:dAt b i=0:=by rcases Nat.eq_zero_or_pos (dAt b i) with e|e;exact e;have:=hlb.2 (by omega);have:=of_decide_eq_false h;omega
    refine Ww (news:=[inE (((c:Int)+((dAt a i % 10000:Nat):Int)) % 10000)]) (S':=⟨[],[⟨out.length+1,1,(out++[((c:Int)+((dAt a i % 10000:Nat):Int)) % 10000]).map inE,3⟩]⟩) rfl rfl rfl rfl rfl rfl ?_ ?_ (by simp [PS.setTok]) ?_
    ·simp only [List.length_map,List.length_cons];show (_+1)*8<=_;omega
    ·simp only [List.length_map,List.length_cons];show _+1<=_;omega
    repeat' (first|refine rl3 ?_|refine rs3 ?_ ?_<;>intro h|fail)
    exact ⟨(out++[((c:Int)+((dAt a i % 10000:Nat):Int)) % 10000],i+1,(((c:Int)+((dAt a i % 10000:Nat):Int)) / 10000).toNat),⟨by
      show D4.limN (a+b)=(out++[((c:Int)+((dAt a i % 10000:Nat):Int)) % 10000])++D4.limN (dAt a (i+1)+dAt b (i+1)+(((c:Int)+((dAt a i % 10000:Nat):Int)) / 10000).toNat)
      rw [hl,D4.limN_pos hN,Ah8,Ah8,List.append_assoc,List.singleton_append]
      congr 2
      ·omega
      ·congr 1;omega,by show (((c:Int)+((dAt a i % 10000:Nat):Int)) / 10000).toNat<=1;omega,by simp [ho]⟩,by show dAt a (i+1)+dAt b (i+1)+(((c:Int)+((dAt a i % 10000:Nat):Int)) / 10000).toNat<_;rw [Ah8,Ah8];omega,Aa rfl (Aa rfl (Aa (by show PV.hd 0 _=PV.hd 0 _;simp) (Aa (by show An (((c:Int)+((dAt a i % 10000:Nat):Int)) / 10000)=An (((((c:Int)+((dAt a i % 10000:Nat):Int)) / 10000).toNat:Nat):Int);exact congrArg An (by omega)) (Aa rfl Ag)))),by simp⟩
  all_goals (exfalso;simp only [decide_eq_true_eq,decide_eq_false_iff_not] at *;omega)
 ·have ga:=of_decide_eq_true h
  have hN:dAt a i+dAt b i+c≠0:=by have:=hlb.1 (by omega);omega
  rename_i gA
  have e1:dAt a i=0:=by rcases Nat.eq_zero_or_pos (dAt a i) with e|e;exact e;have:=hla.2 (by omega);have:=of_decide_eq_false gA;omega
  refine C7 ?_
  repeat' (first|refine rl3 ?_|refine rs3 ?_ ?_<;>intro h|fail)
  ·exfalso;simp only [decide_eq_true_eq,decide_eq_false_iff_not] at *;omega
  ·refine wix (inE ((dAt b i % 10000:Nat):Int)) rfl rfl rfl rfl rfl (by rw [<- hgb];exact Aij (by have:=of_decide_eq_true h;omega)) (by omega) ?_
   repeat' (first|refine rl3 ?_|refine rs3 ?_ ?_<;>intro h|fail)
   refine Ww (news:=[inE (((c:Int)+((dAt b i % 10000:Nat):Int)) % 10000)]) (S':=⟨[],[⟨out.length+1,1,(out++[((c:Int)+((dAt b i % 10000:Nat):Int)) % 10000]).map inE,3⟩]⟩) rfl rfl rfl rfl rfl rfl ?_ ?_ (by simp [PS.setTok]) ?_
   ·simp only [List.length_map,List.length_cons];show (_+1)*8<=_;omega
   ·simp only [List.length_map,List.length_cons];show _+1<=_;omega
   repeat' (first|refine rl3 ?_|refine rs3 ?_ ?_<;>intro h|fail)
   exact ⟨(out++[((c:Int)+((dAt b i % 10000:Nat):Int)) % 10000],i+1,(((c:Int)+((dAt b i % 10000:Nat):Int)) / 10000).toNat),⟨by
     show D4.limN (a+b)=(out++[((c:Int)+((dAt b i % 10000:Nat):Int)) % 10000])++D4.limN (dAt a (i+1)+dAt b (i+1)+(((c:Int)+((dAt b i % 10000:Nat):Int)) / 10000).toNat)
     rw [hl,D4.limN_pos hN,Ah8,Ah8,List.append_assoc,List.singleton_append]
     congr 2
     ·omega
     ·congr 1;omega,by show (((c:Int)+((dAt b i % 10000:Nat):Int)) / 10000).toNat<=1;omega,by simp [ho]⟩,by show dAt a (i+1)+dAt b (i+1)+(((c:Int)+((dAt b i % 10000:Nat):Int)) / 10000).toNat<_;rw [Ah8,Ah8];omega,Aa rfl (Aa rfl (Aa (by show PV.hd 0 _=PV.hd 0 _;simp) (Aa (by show An (((c:Int)+((dAt b i % 10000:Nat):Int)) / 10000)=An (((((c:Int)+((dAt b i % 10000:Nat):Int)) / 10000).toNat:Nat):Int);exact congrArg An (by omega)) (Aa rfl Ag)))),by simp⟩
  ·exfalso;simp only [decide_eq_true_eq,decide_eq_false_iff_not] at *;omega
 ·have ga:=of_decide_eq_true h
  have hN:dAt a i+dAt b i+c≠0:=by omega
  rename_i gA gB
  have e1:dAt a i=0:=by rcases Nat.eq_zero_or_pos (dAt a i) with e|e;exact e;have:=hla.2 (by omega);have:=of_decide_eq_false gA;omega
  have e2:dAt b i=0:=by rcases Nat.eq_zero_or_pos (dAt b i) with e|e;exact e;have:=hlb.2 (by omega);have:=of_decide_eq_false gB;omega
  refine C7 ?_
  repeat' (first|refine rl3 ?_|refine rs3 ?_ ?_<;>intro h|fail)
  ·exfalso;simp only [decide_eq_true_eq,decide_eq_false_iff_not] at *;omega
  ·exfalso;simp only [decide_eq_true_eq,decide_eq_false_iff_not] at *;omega
  ·refine Ww (news:=[inE (((c:Int)) % 10000)]) (S':=⟨[],[⟨out.length+1,1,(out++[((c:Int)) % 10000]).map inE,3⟩]⟩) rfl rfl rfl rfl rfl rfl ?_ ?_ (by simp [PS.setTok]) ?_
   ·simp only [List.length_map,List.length_cons];show (_+1)*8<=_;omega
   ·simp only [List.length_map,List.length_cons];show _+1<=_;omega
   repeat' (first|refine rl3 ?_|refine rs3 ?_ ?_<;>intro h|fail)
   exact ⟨(out++[((c:Int)) % 10000],i+1,(((c:Int)) / 10000).toNat),⟨by
     show D4.limN (a+b)=(out++[((c:Int)) % 10000])++D4.limN (dAt a (i+1)+dAt b (i+1)+(((c:Int)) / 10000).toNat)
     rw [hl,D4.limN_pos hN,Ah8,Ah8,List.append_assoc,List.singleton_append]
     congr 2
     ·omega
     ·congr 1;omega,by show (((c:Int)) / 10000).toNat<=1;omega,by simp [ho]⟩,by show dAt a (i+1)+dAt b (i+1)+(((c:Int)) / 10000).toNat<_;rw [Ah8,Ah8];omega,Aa rfl (Aa rfl (Aa (by show PV.hd 0 _=PV.hd 0 _;simp) (Aa (by show An (((c:Int)) / 10000)=An (((((c:Int)) / 10000).toNat:Nat):Int);exact congrArg An (by omega)) (Aa rfl Ag)))),by simp⟩
theorem Ann {a b:Nat} (h:b<=a):D4.trimL (D4.minusK (D4.limN a) (D4.limN b) (D4.limN a).length).1=D4.limN (a-b):=by
 have hl:(D4.limN b).length<=(D4.limN a).length:=by
  rcases Nat.lt_or_ge (D4.limN a).length (D4.limN b).length with h1|h1
  ·have h2:=(Aip _ b).1 h1
   have h3:¬ dAt a (D4.limN a).length≠0:=fun h4=>Nat.lt_irrefl _ ((Aip _ a).2 h4)
   exfalso
   unfold dAt at h2 h3
   have:b / 10000 ^ (D4.limN a).length<=a / 10000 ^ (D4.limN a).length:=Nat.div_le_div_right h
   exact h3 (Nat.pos_iff_ne_zero.1 (Nat.lt_of_lt_of_le (Nat.pos_of_ne_zero h2) this))
  ·exact h1
 obtain ⟨h1,h2,_⟩:=D4.minusL_val (D4.limN_ok a) (D4.limN_ok b) hl (by rw [D4.limN_val,D4.limN_val];omega)
 unfold D4.minusL at h1 h2
 rw [D4.trimL_eq h2,h1,D4.limN_val,D4.limN_val]
 congr 1;omega
set_option maxHeartbeats 4000000 in
theorem Ajw (a b:Nat) (h:b<=a) (hz:(D4.limN a).length<=1000000):Aw 167 [Dv (D4.limN a),Dv (D4.limN b)] ⟨[],[]⟩ (.ret (Dv (D4.limN (a-b)))) ⟨[],[]⟩:=by
 rw [<- Ann h]
 have hm:=D4.limN_ok a
 have ho:=D4.limN_ok b
 generalize D4.limN a=m at *
 generalize D4.limN b=o at *
 have ea:(m.map fun n=>[DV.v (.int .i64 n)]).length=m.length:=by simp
 have eb:(o.map fun n=>[DV.v (.int .i64 n)]).length=o.length:=by simp
 refine Af Tryz.func167 rfl rfl (Nat.le_of_ble_eq_true rfl) rfl (Nat.le_refl _) ?_
 refine Co ?_
 refine Bf ?_
 refine wst rfl rfl trivial ?_
 refine Cq ?_
 refine Co ?_
 refine Bf ?_
 refine wst rfl rfl trivial ?_
 refine Cq ?_
 refine Ag3 5 1 3 rfl ?_
 refine Co ?_
 repeat' (first|refine rl3 ?_|refine rs3 ?_ ?_<;>intro h|fail)
 refine C7 ?_
 refine Ca (ι := Nat) (ok:=fun i=>i<=m.length) (L:=fun i=>[(0,Dv m),(1,Dv o),(5,.hd 0 i),(6,An (D4.minusK m o i).2),(7,An (i:Int))]) (Sx:=fun i=>⟨[],[⟨i,1,(D4.minusK m o i).1.map inE,3⟩]⟩) (μ := fun i=>m.length-i) 0 (Nat.zero_le _) (by exact (by repeat (first|exact Ag|refine Aa rfl ?_))) rfl ?_
 rintro i hi
 have hs1:(D4.minusK m o (i+1)).1=(D4.minusK m o i).1++[(if m.getD i 0-(D4.minusK m o i).2-o.getD i 0<0 then m.getD i 0-(D4.minusK m o i).2-o.getD i 0+10000 else m.getD i 0-(D4.minusK m o i).2-o.getD i 0)]:=rfl
 have hs2:(D4.minusK m o (i+1)).2=if m.getD i 0-(D4.minusK m o i).2-o.getD i 0<0 then 1 else 0:=rfl
 have hol:=D4.minusK_len m o i
 obtain ⟨_,hb0,hb1⟩:=D4.minusK_ok hm ho i
 have hfin:i=m.length->D4.trimL (D4.minusK m o m.length).1=D4.trimL (D4.minusK m o i).1:=fun e=>by rw [e]
 obtain ⟨hx0,hx1⟩:=D4.getD_ok hm i
 obtain ⟨hy0,hy1⟩:=D4.getD_ok ho i
 generalize (D4.minusK m o i).1=out at *
 generalize (D4.minusK m o i).2=bw at *
 repeat' (first|refine rl3 ?_|refine rs3 ?_ ?_<;>intro h|fail)
 ·have hlt:=of_decide_eq_true h
  refine C7 ?_
  repeat' (first|refine rl3 ?_|refine rs3 ?_ ?_<;>intro h|fail)
  refine wix (inE (m.getD i 0)) rfl rfl rfl rfl rfl (Aij (by omega)) (by omega) ?_
  repeat' (first|refine rl3 ?_|refine rs3 ?_ ?_<;>intro h|fail)
  ·refine wix (inE (o.getD i 0)) rfl rfl rfl rfl rfl (Aij (by have:=of_decide_eq_true h;omega)) (by omega) ?_
   repeat' (first|refine rl3 ?_|refine rs3 ?_ ?_<;>intro h|fail)
   ·refine Ww (news:=[inE (m.getD i 0-bw-o.getD i 0+10000)]) (S':=⟨[],[⟨i+1,1,(out++[m.getD i 0-bw-o.getD i 0+10000]).map inE,3⟩]⟩) rfl rfl rfl rfl rfl rfl ?_ ?_ (by simp [PS.setTok]) ?_
    ·simp only [List.length_map,List.length_cons];show (_+1)*8<=_;omega
    ·simp only [List.length_map,List.length_cons];show _+1<=_;omega
    repeat' (first|refine rl3 ?_|refine rs3 ?_ ?_<;>intro h|fail)
    exact ⟨i+1,by omega,by omega,Aa rfl (Aa rfl (Aa rfl (Aa (by rw [hs2,if_pos (of_decide_eq_true h)];rfl) (Aa rfl Ag)))),by rw [hs1,if_pos (of_decide_eq_true h)]⟩
   ·refine Ww (news:=[inE (m.getD i 0-bw-o.getD i 0)]) (S':=⟨[],[⟨i+1,1,(out++[m.getD i 0-bw-o.getD i 0]).map inE,3⟩]⟩) rfl rfl rfl rfl rfl rfl ?_ ?_ (by simp [PS.setTok]) ?_
    ·simp only [List.length_map,List.length_cons];show (_+1)*8<=_;omega
    ·simp only [List.length_map,List.length_cons];show _+1<=_;omega
    repeat' (first|refine rl3 ?_|refine rs3 ?_ ?_<;>intro h|fail)
    exact ⟨i+1,by omega,by omega,Aa rfl (Aa rfl (Aa rfl (Aa (by rw [hs2,if_neg (of_decide_eq_false h)];rfl) (Aa rfl Ag)))),by rw [hs1,if_neg (of_decide_eq_false h)]⟩
  all_goals
   rename_i g
   have hlen:=of_decide_eq_false g
   have hy:o.getD i 0=0:=by rw [List.getD_eq_getElem?_getD,List.getElem?_eq_none (by omega)];rfl
   rw [hy,Int.sub_zero] at hs1 hs2
  ·refine Ww (news:=[inE (m.getD i 0-bw+10000)]) (S':=⟨[],[⟨i+1,1,(out++[m.getD i 0-bw+10000]).map inE,3⟩]⟩) rfl rfl rfl rfl rfl rfl ?_ ?_ (by simp [PS.setTok]) ?_
   ·simp only [List.length_map,List.length_cons];show (_+1)*8<=_;omega
   ·simp only [List.length_map,List.length_cons];show _+1<=_;omega
   repeat' (first|refine rl3 ?_|refine rs3 ?_ ?_<;>intro h|fail)
   exact ⟨i+1,by omega,by omega,Aa rfl (Aa rfl (Aa rfl (Aa (by rw [hs2,if_pos (of_decide_eq_true h)];rfl) (Aa rfl Ag)))),by rw [hs1,if_pos (of_decide_eq_true h)]⟩
  ·refine Ww (news:=[inE (m.getD i 0-bw)]) (S':=⟨[],[⟨i+1,1,(out++[m.getD i 0-bw]).map inE,3⟩]⟩) rfl rfl rfl rfl rfl rfl ?_ ?_ (by simp [PS.setTok]) ?_
   ·simp only [List.length_map,List.length_cons];show (_+1)*8<=_;omega
   ·simp only [List.length_map,List.length_cons];show _+1<=_;omega
   repeat' (first|refine rl3 ?_|refine rs3 ?_ ?_<;>intro h|fail)
   exact ⟨i+1,by omega,by omega,Aa rfl (Aa rfl (Aa rfl (Aa (by rw [hs2,if_neg (of_decide_eq_false h)];rfl) (Aa rfl Ag)))),by rw [hs1,if_neg (of_decide_eq_false h)]⟩
 ·have hlt:=of_decide_eq_false h
  obtain rfl:i=m.length:=by omega
  rw [hfin rfl]
  refine wp1 (Ajt out) ?_ rfl rfl rfl rfl rfl (Ab (Ki (Fc rfl)) Ae)
  repeat' (first|refine rl3 ?_|refine rs3 ?_ ?_<;>intro h|fail)
  rfl
end Go.Proofs.YtjagmmmcibdibaaGreatDoor
namespace Go.Proofs.YtjagmmmcibdibaaGreatDoor.D4
open Go.RowKit
def rowK (x:Int) (o:List Int) (i:Nat) (u:List Int):Nat->List Int×Int
 |0=>(u,0)
 |k+1=>((rowK x o i u k).1.set (i+k) ((x*o.getD k 0+(rowK x o i u k).1.getD (i+k) 0+(rowK x o i u k).2) % 10000),(x*o.getD k 0+(rowK x o i u k).1.getD (i+k) 0+(rowK x o i u k).2) / 10000)
def rowL (x:Int) (o:List Int) (i:Nat) (u:List Int):List Int:=(rowK x o i u o.length).1.set (i+o.length) (rowK x o i u o.length).2
def mulAt (m o:List Int):Nat->List Int
 |0=>List.replicate (m.length+o.length) 0
 |i+1=>rowL (m.getD i 0) o i (mulAt m o i)
def mulL (m o:List Int):List Int:=mulAt m o m.length
theorem rowK_len (x:Int) (o:List Int) (i:Nat) (u:List Int):∀ k,(rowK x o i u k).1.length=u.length
 |0=>rfl
 |k+1=>by simp [rowK,rowK_len x o i u k]
theorem Akx (x:Int) (o:List Int) (i:Nat) (u:List Int):(rowL x o i u).length=u.length:=by simp [rowL,rowK_len]
theorem mulAt_len (m o:List Int):∀ i,(mulAt m o i).length=m.length+o.length
 |0=>by simp [mulAt]
 |i+1=>by rw [mulAt,Akx,mulAt_len m o i]
theorem n_bound {x y u c:Int} (hx:limbOk x) (hy:limbOk y) (hu:limbOk u) (hc:limbOk c):0<=x*y/\0<=x*y+u+c/\x*y+u+c<10000*10000:=by
 obtain ⟨h1,h2⟩:=hx
 obtain ⟨h3,h4⟩:=hy
 obtain ⟨h5,h6⟩:=hu
 obtain ⟨h7,h8⟩:=hc
 have a:=Int.mul_nonneg h1 h3
 have b:x*y<=9999*9999:=Int.mul_le_mul (by omega) (by omega) h3 (by omega)
 omega
theorem getD_some {l:List Int} {j:Nat} (h:j<l.length):l[j]? = some (l.getD j 0):=by
 rw [List.getD_eq_getElem?_getD,List.getElem?_eq_getElem h];rfl
theorem rowK_high (x:Int) (o:List Int) (i:Nat) (u:List Int):∀ (k j:Nat),i+k<=j->(rowK x o i u k).1.getD j 0=u.getD j 0
 |0,_,_=>rfl
 |k+1,j,h=>by rw [rowK,Kp (by omega),rowK_high x o i u k j (by omega)]
theorem Aat {x:Int} {o:List Int} {i:Nat} {u:List Int} (hu:i+o.length<=u.length):∀ k,k<=o.length->valL (rowK x o i u k).1+10000 ^ (i+k)*(rowK x o i u k).2=valL u+10000 ^ i*(x*valL (o.take k))
 |0,_=>by simp [rowK,valL]
 |k+1,hk=>by
  have h:=Aat (x:=x) hu k (by omega)
  rw [rowK,H0 (by rw [rowK_len];omega),Bc,show i+(k+1)=(i+k)+1 by omega,Int.pow_succ,Int.pow_add]
  rw [Int.pow_add] at h
  have hd:=Int.mul_ediv_add_emod (x*o.getD k 0+(rowK x o i u k).1.getD (i+k) 0+(rowK x o i u k).2) 10000
  grind
theorem Ahc {x:Int} {o:List Int} {i:Nat} {u:List Int} {j:Nat} (h:i+o.length<j):(rowL x o i u).getD j 0=u.getD j 0:=by
 rw [rowL,Kp (by omega),rowK_high _ _ _ _ _ _ (by omega)]
theorem Aky {x:Int} {o:List Int} {i:Nat} {u:List Int} (hu:i+o.length<u.length) (h0:u.getD (i+o.length) 0=0):valL (rowL x o i u)=valL u+10000 ^ i*(x*valL o):=by
 have h:=Aat (x:=x) (i:=i) (u:=u) (o:=o) (by omega) o.length (Nat.le_refl _)
 rw [List.take_length] at h
 rw [rowL,H0 (by rw [rowK_len];omega),rowK_high _ _ _ _ _ _ (Nat.le_refl _),h0,Int.sub_zero];exact h
theorem mulAt_high (m o:List Int):∀ (i j:Nat),i+o.length<=j->(mulAt m o i).getD j 0=0
 |0,j,_=>by
  rw [mulAt,List.getD_eq_getElem?_getD]
  by_cases h:j<m.length+o.length
  ·rw [List.getElem?_eq_getElem (by simpa using h)];simp
  ·rw [List.getElem?_eq_none (by simpa using h)];rfl
 |i+1,j,h=>by rw [mulAt,Ahc (by omega),mulAt_high m o i j (by omega)]
theorem mulAt_val (m o:List Int):∀ i,i<=m.length->valL (mulAt m o i)=valL (m.take i)*valL o
 |0,_=>by simp [mulAt,Aa6,valL]
 |i+1,h=>by
  have h1:=mulAt_val m o i (by omega)
  rw [mulAt,Aky (by rw [mulAt_len];omega) (mulAt_high m o i _ (Nat.le_refl _)),Bc,h1]
  grind
end Go.Proofs.YtjagmmmcibdibaaGreatDoor.D4
namespace Go.Proofs.YtjagmmmcibdibaaGreatDoor
open Go.RowKit
def Alf (o:List Int):Prop:=∀ k,0<=o.getD k 0/\(o.getD k 0<10000\/(k=0/\o.getD k 0=10000))
theorem Anc (b:Nat):Alf (D4.limN b):=fun k=>⟨(D4.getD_ok (D4.limN_ok b) k).1,.inl (D4.getD_ok (D4.limN_ok b) k).2⟩
theorem fac_one {y:Int} (h0:0<=y) (h1:y<=10000):Alf [y]:=fun k=>by
 cases k with
 |zero=>exact ⟨h0,by show y<10000\/(0=0/\y=10000);omega⟩
 |succ k=>exact ⟨by simp,.inl (by simp)⟩
theorem Ai8 {x:Int} {o u:List Int} {i:Nat} (hx:D4.limbOk x) (ho:Alf o) (hu:∀ z∈u,D4.limbOk z):∀ k,(∀ z∈(D4.rowK x o i u k).1,D4.limbOk z)/\D4.limbOk (D4.rowK x o i u k).2/\(k=0->(D4.rowK x o i u k).2=0)
 |0=>⟨hu,⟨by simp [D4.rowK],by simp [D4.rowK]⟩,fun _=>rfl⟩
 |k+1=>by
  obtain ⟨h1,h2,h2'⟩:=Ai8 (i:=i) hx ho hu k
  have hg:=D4.getD_ok h1 (i+k)
  have hb:0<=x*o.getD k 0+(D4.rowK x o i u k).1.getD (i+k) 0+(D4.rowK x o i u k).2/\x*o.getD k 0+(D4.rowK x o i u k).1.getD (i+k) 0+(D4.rowK x o i u k).2<10000*10000:=by
   obtain ⟨hy0,hy⟩:=ho k
   rcases hy with hy|⟨hk,hy⟩
   ·have h3:=D4.n_bound hx ⟨hy0,hy⟩ hg h2;omega
   ·rw [hy,h2' hk]
    obtain ⟨a1,a2⟩:=hx
    obtain ⟨a3,a4⟩:=hg
    omega
  refine ⟨D4.set_ok h1 ⟨Int.emod_nonneg _ (by omega),Int.emod_lt_of_pos _ (by omega)⟩,?_,fun h=>by omega⟩
  simp only [D4.rowK,D4.limbOk];omega
theorem facL_ok {x:Int} {o u:List Int} {i:Nat} (hx:D4.limbOk x) (ho:Alf o) (hu:∀ z∈u,D4.limbOk z):∀ z∈D4.rowL x o i u,D4.limbOk z:=D4.set_ok (Ai8 hx ho hu _).1 (Ai8 hx ho hu _).2.1
theorem Alk {m o:List Int} (hm:∀ z∈m,D4.limbOk z) (ho:Alf o):∀ i,∀ z∈D4.mulAt m o i,D4.limbOk z
 |0=>fun x hx=>by rw [List.eq_of_mem_replicate hx];exact ⟨by simp,by simp⟩
 |i+1=>facL_ok (D4.getD_ok hm i) ho (Alk hm ho i)
theorem Alz {m o:List Int} (hm:∀ z∈m,D4.limbOk z) (ho:Alf o):D4.trimL (D4.mulL m o)=D4.limN (D4.valL m*D4.valL o).toNat:=by
 have h:=D4.mulAt_val m o m.length (Nat.le_refl _)
 rw [List.take_length] at h
 unfold D4.mulL
 rw [D4.trimL_eq (Alk hm ho _),h]
@[reducible] def inC (l:List Int):List PV:=l.map fun x => .d (.v (.int .i64 x))
theorem Ani {l:List Int} {j:Nat} (h:j<l.length):(inC l)[j]? = some (.d (.v (.int .i64 (l.getD j 0)))):=by
 rw [List.getElem?_map,List.getD_eq_getElem?_getD,List.getElem?_eq_getElem h];rfl
theorem All (l:List Int) (j:Nat) (v:Int):(inC l).set j (.d (.v (.int .i64 v)))=inC (l.set j v):=by simp [inC,List.map_set]
theorem inC_rep (n:Nat):inC (List.replicate n 0)=List.replicate n (.d (.v (.int .i64 0))):=by simp [inC]
@[reducible] def tmS (u:List Int):PS:=⟨[inC u],[]⟩
def rowR (x:Int) (o:List Int) (i:Nat) (u:List Int) (k:Nat):List Int×Int:=if k<=o.length then D4.rowK x o i u k else (D4.rowL x o i u,0)
theorem Ajj {x:Int} {o u:List Int} {i k:Nat} (h:k<=o.length):rowR x o i u k=D4.rowK x o i u k:=if_pos h
theorem Akz {x:Int} {o u:List Int} {i:Nat}:rowR x o i u (o.length+1)=(D4.rowL x o i u,0):=if_neg (by omega)
theorem set_same {l:List Int} {j:Nat} (h:j<l.length):l.set j (l.getD j 0)=l:=by
 rw [List.getD_eq_getElem?_getD,List.getElem?_eq_getElem h];simp
set_option maxHeartbeats 4000000 in
theorem Akd (m o:List Int) (hm:∀ z∈m,D4.limbOk z) (ho:Alf o) (hml:m.length<=1000000) (hol:o.length<=1000000) :
  Aw 165 [Dv m,Dv o] ⟨[],[]⟩ (.ret (Dv (D4.trimL (D4.mulL m o)))) ⟨[],[]⟩:=by
 have em:(m.map fun n=>[DV.v (.int .i64 n)]).length=m.length:=by simp
 have eo:(o.map fun n=>[DV.v (.int .i64 n)]).length=o.length:=by simp
 have hsum:((m.map fun n=>[DV.v (.int .i64 n)]).length:Int)+((o.map fun n=>[DV.v (.int .i64 n)]).length:Int)=((m.length+o.length:Nat):Int):=by simp
 refine Dl Tryz.func165 rfl rfl (Nat.le_of_ble_eq_true rfl) (fun _=>?_)
 refine C2 ?_
 repeat' (first|refine rl3 ?_|refine rs3 ?_ ?_<;>intro h|fail)
 refine C2 ?_
 repeat' (first|refine rl3 ?_|refine rs3 ?_ ?_<;>intro h|fail)
 refine Abc (n:=m.length+o.length) (.int .i64 0) rfl rfl rfl rfl rfl (by show PV.d (.v (.int .i64 (_+_)))=_;rw [hsum]) (by show PV.d (.v (.int .i64 (_+_)))=_;rw [hsum]) (by show 8*_<=_;omega) (by omega) ?_
 repeat' (first|refine rl3 ?_|refine rs3 ?_ ?_<;>intro h|fail)
 refine C2 ?_
 refine Co ?_
 repeat' (first|refine rl3 ?_|refine rs3 ?_ ?_<;>intro h|fail)
 refine C7 ?_
 refine Ca (ι := Nat) (ok:=fun i=>i<=m.length) (L:=fun i=>[(0,Dv m),(1,Dv o),(5,.bsl 1 0 0 (m.length+o.length) (m.length+o.length)),(6,An (i:Int))]) (Sx:=fun i=>tmS (D4.mulAt m o i)) (μ := fun i=>m.length-i) 0 (Nat.zero_le _) (by exact (by repeat (first|exact Ag|refine Aa rfl ?_))) (congrArg (fun q=>(⟨[q],[]⟩:PS)) (inC_rep _).symm) ?_
 rintro i hi
 have hx:=D4.getD_ok hm i
 repeat' (first|refine rl3 ?_|refine rs3 ?_ ?_<;>intro h|fail)
 ·have hlt:i<m.length:=by have:=of_decide_eq_true h;omega
  refine C7 ?_
  repeat' (first|refine rl3 ?_|refine rs3 ?_ ?_<;>intro h|fail)
  have hU:=D4.mulAt_len m o i
  have hUok:=Alk hm ho i
  have hUh:=D4.mulAt_high m o i
  have hnext:D4.mulAt m o (i+1)=D4.rowL (m.getD i 0) o i (D4.mulAt m o i):=rfl
  generalize D4.mulAt m o i=U at *
  refine C7 ?_
  refine Ca (ι := Nat) (ok:=fun k=>k<=o.length+1) (L:=fun k=>[(0,Dv m),(1,Dv o),(5,.bsl 1 0 0 (m.length+o.length) (m.length+o.length)),(6,An (i:Int)),(7,An (rowR (m.getD i 0) o i U k).2),(8,An (k:Int))]) (Sx:=fun k=>tmS (rowR (m.getD i 0) o i U k).1) (μ := fun k=>o.length+1-k) 0 (Nat.zero_le _) ?_ ?_ ?_
  ·rw [Ajj (Nat.zero_le _)];exact (by repeat (first|exact Ag|refine Aa rfl ?_))
  ·rw [Ajj (Nat.zero_le _)];rfl
  rintro k hk
  repeat' (first|refine rl3 ?_|refine rs3 ?_ ?_<;>intro h|fail)
  ·have hlk:k<o.length:=by have:=of_decide_eq_true h;omega
   rw [Ajj (by omega)]
   obtain ⟨hu,hc,_⟩:=Ai8 (i:=i) hx ho hUok k
   obtain ⟨hu',hc',_⟩:=Ai8 (i:=i) hx ho hUok (k+1)
   have hul:(D4.rowK (m.getD i 0) o i U k).1.length=m.length+o.length:=by rw [D4.rowK_len,hU]
   obtain ⟨hu1,hu2⟩:=D4.getD_ok hu (i+k)
   have hs1:(D4.rowK (m.getD i 0) o i U (k+1)).1=(D4.rowK (m.getD i 0) o i U k).1.set (i+k) ((m.getD i 0*o.getD k 0+(D4.rowK (m.getD i 0) o i U k).1.getD (i+k) 0+(D4.rowK (m.getD i 0) o i U k).2) % 10000):=rfl
   have hs2:(D4.rowK (m.getD i 0) o i U (k+1)).2=(m.getD i 0*o.getD k 0+(D4.rowK (m.getD i 0) o i U k).1.getD (i+k) 0+(D4.rowK (m.getD i 0) o i U k).2) / 10000:=rfl
   have hr1:=Ajj (x:=m.getD i 0) (u:=U) (i:=i) (show k+1<=o.length by omega)
   obtain ⟨hx0,hx1⟩:=hx
   obtain ⟨hy0,hy1⟩:=ho k
   have hp0:0<=m.getD i 0*o.getD k 0:=Int.mul_nonneg hx0 hy0
   have hp1:m.getD i 0*o.getD k 0<=9999*10000:=Int.mul_le_mul (by omega) (by omega) hy0 (by omega)
   generalize hxe:m.getD i 0=x at *
   generalize hye:o.getD k 0=y at *
   generalize (D4.rowK x o i U k).1=u at *
   generalize (D4.rowK x o i U k).2=c at *
   obtain ⟨hc0,hc1⟩:=hc
   refine C7 ?_
   repeat' (first|refine rl3 ?_|refine rs3 ?_ ?_<;>intro h|fail)
   refine wsld (i+k) rfl rfl rfl (by show PV.ptr 0 (0+((i:Int)+(k:Int)).toNat*1)=_;congr 1;omega) rfl (Ani (by rw [hul];omega)) ?_
   repeat' (first|refine rl3 ?_|refine rs3 ?_ ?_<;>intro h|fail)
   ·refine Eu chN [] [] rfl (by kernel_rfl) ?_
    repeat' (first|refine rl3 ?_|refine rs3 ?_ ?_<;>intro h|fail)
    refine Tj (inE x) rfl rfl rfl rfl rfl (by rw [<- hxe];exact Aij (by omega)) (by omega) ?_
    repeat' (first|refine rl3 ?_|refine rs3 ?_ ?_<;>intro h|fail)
    refine Tj (inE y) rfl rfl rfl rfl rfl (by rw [<- hye];exact Aij (by omega)) (by omega) ?_
    repeat' (first|refine rl3 ?_|refine rs3 ?_ ?_<;>intro h|fail)
    refine Adh (id:=0) (i+k) rfl rfl rfl (by show PV.ptr 0 (0+((i:Int)+(k:Int)).toNat*1)=_;congr 1;omega) rfl rfl (by rw [List.length_map,hul];omega) rfl ?_
    repeat' (first|refine rl3 ?_|refine rs3 ?_ ?_<;>intro h|fail)
    have hcm:x*y+u.getD (i+k) 0+c=u.getD (i+k) 0+c+x*y:=by omega
    rw [hcm] at hs1 hs2
    exact ⟨k+1,by omega,by omega,Aa rfl (Aa rfl (Aa rfl (Aa rfl (Aa (by rw [hr1,hs2];rfl) (Aa rfl Ag))))),by rw [hr1,hs1];exact congrArg (fun q=>(⟨[q],[]⟩:PS)) (All _ _ _)⟩
   ·exfalso;have:=of_decide_eq_false h;omega
  ·have hlk:k=o.length:=by
    have h1:=of_decide_eq_true h
    rename_i g
    have h2:=of_decide_eq_false g
    rcases Nat.lt_or_ge o.length k with h3|h3
    ·obtain rfl:k=o.length+1:=by omega
     rw [Akz] at h1;simp at h1
    ·omega
   subst hlk
   have hin:=Ajj (x:=m.getD i 0) (u:=U) (i:=i) (Nat.le_refl o.length)
   have hen:=Akz (x:=m.getD i 0) (o:=o) (u:=U) (i:=i)
   obtain ⟨hu,hc,_⟩:=Ai8 (i:=i) hx ho hUok o.length
   have hul:(D4.rowK (m.getD i 0) o i U o.length).1.length=m.length+o.length:=by rw [D4.rowK_len,hU]
   have hz:(D4.rowK (m.getD i 0) o i U o.length).1.getD (i+o.length) 0=0:=by rw [D4.rowK_high _ _ _ _ _ _ (Nat.le_refl _),hUh _ (Nat.le_refl _)]
   have hL:D4.rowL (m.getD i 0) o i U=(D4.rowK (m.getD i 0) o i U o.length).1.set (i+o.length) (D4.rowK (m.getD i 0) o i U o.length).2:=rfl
   rw [hin] at *
   rw [hL] at hen
   generalize (D4.rowK (m.getD i 0) o i U o.length).1=u at *
   generalize (D4.rowK (m.getD i 0) o i U o.length).2=c at *
   obtain ⟨hc0,hc1⟩:=hc
   refine C7 ?_
   repeat' (first|refine rl3 ?_|refine rs3 ?_ ?_<;>intro h|fail)
   refine wsld (i+o.length) rfl rfl rfl (by show PV.ptr 0 (0+((i:Int)+(o.length:Int)).toNat*1)=_;congr 1;omega) rfl (Ani (by rw [hul];omega)) ?_
   rw [hz]
   repeat' (first|refine rl3 ?_|refine rs3 ?_ ?_<;>intro h|fail)
   ·exfalso;have:=of_decide_eq_true h;omega
   refine Adh (id:=0) (i+o.length) rfl rfl rfl (by show PV.ptr 0 (0+((i:Int)+(o.length:Int)).toNat*1)=_;congr 1;omega) rfl rfl (by rw [List.length_map,hul];omega) rfl ?_
   repeat' (first|refine rl3 ?_|refine rs3 ?_ ?_<;>intro h|fail)
   have hcm:(0+c) % 10000=c:=by omega
   have hcd:(0+c) / 10000=0:=by omega
   exact ⟨o.length+1,by omega,by omega,Aa rfl (Aa rfl (Aa rfl (Aa rfl (Aa (by rw [hen];exact congrArg An hcd) (Aa rfl Ag))))),by rw [hen,hcm];exact congrArg (fun q=>(⟨[q],[]⟩:PS)) (All _ _ _)⟩
  ·have h2:=of_decide_eq_false h
   rename_i g
   have h1:=of_decide_eq_false g
   have hst:(rowR (m.getD i 0) o i U k).1=D4.mulAt m o (i+1):=by
    rw [hnext]
    rcases Nat.lt_or_ge o.length k with h3|h3
    ·obtain rfl:k=o.length+1:=by omega
     rw [Akz]
    ·obtain rfl:k=o.length:=by omega
     obtain ⟨hu,hc,_⟩:=Ai8 (i:=i) hx ho hUok o.length
     rw [Ajj (Nat.le_refl _)] at h2 |-
     have hc0:(D4.rowK (m.getD i 0) o i U o.length).2=0:=by have:=hc.1;omega
     have hz:(D4.rowK (m.getD i 0) o i U o.length).1.getD (i+o.length) 0=0:=by rw [D4.rowK_high _ _ _ _ _ _ (Nat.le_refl _),hUh _ (Nat.le_refl _)]
     have e:=set_same (l:=(D4.rowK (m.getD i 0) o i U o.length).1) (j:=i+o.length) (by rw [D4.rowK_len,hU];omega)
     rw [hz] at e
     unfold D4.rowL
     rw [hc0];exact e.symm
   exact ⟨i+1,by omega,by omega,(by repeat (first|exact Ag|refine Aa rfl ?_)),by rw [hst]⟩
 ·obtain rfl:i=m.length:=by have:=of_decide_eq_false h;omega
  refine On 0 0 [(5,Dv (D4.mulAt m o m.length))] (Nat.zero_le _) (Nat.zero_le _) rfl ?_ ?_
  ·refine Eg ?_ Si
   have hlen:m.length+o.length=((D4.mulAt m o m.length).map fun x=>DV.v (.int .i64 x)).length:=by simp [D4.mulAt_len]
   have h:=Ox (S:=tmS (D4.mulAt m o m.length)) (n:=0) (m:=0) (k:=1) (id:=0) (cap:=m.length+o.length) (ds:=(D4.mulAt m o m.length).map fun x => .v (.int .i64 x)) (by simp [inC]) (Nat.le_refl _) (by rw [<- hlen];exact Nat.le_refl _) (by omega)
   rw [<- hlen] at h
   show Ret _ _ _ (.bsl 1 0 0 (m.length+o.length) (m.length+o.length)) _
   simpa [Function.comp_def] using h
  ·refine Sb ?_
   have e:PS.cut (tmS (D4.mulAt m o m.length)) 0 0=⟨[],[]⟩:=rfl
   rw [e]
   repeat' (first|refine rl1 ?_|refine rs1 ?_ ?_<;>intro h|fail)
   refine wp1 (Ajt (D4.mulAt m o m.length)) ?_
   repeat' (first|refine rl1 ?_|refine rs1 ?_ ?_<;>intro h|fail)
   exact Zk (.inr rfl) rfl rfl K9
theorem Ak8 (a:Nat):a<10000 ^ (D4.limN a).length:=D4.limN_len' (Nat.le_refl _)
theorem dAt_top {b:Nat} (h:b≠0):dAt b ((D4.limN b).length-1)≠0:=by
 have hne:D4.limN b≠[]:=by rw [Ne,D4.limN_nil];exact h
 have:=List.length_pos_iff.2 hne
 exact (Aip _ b).1 (by omega)
theorem Ai0 {a k:Nat} (h:(D4.limN a).length<=k):dAt a k=0:=by
 rcases Nat.eq_zero_or_pos (dAt a k) with e|e
 ·exact e
 ·have:=(Aip k a).2 (by omega);omega
theorem Ank {a k:Nat} (h:a<10000 ^ k):(D4.limN a).length<=k:=D4.limN_len h
theorem Ang {T b e:Nat} (hb:0<b):dAt T e / (dAt b e+1)<=T / b:=by
 rw [Nat.le_div_iff_mul_le hb]
 have hX:0<10000 ^ e:=Nat.pow_pos (by decide)
 have h1:dAt T e / (dAt b e+1)*(dAt b e+1)<=dAt T e:=Nat.div_mul_le_self _ _
 have h2:b<=(dAt b e+1)*10000 ^ e:=by
  have:=Nat.lt_div_mul_add hX (a:=b);unfold dAt;rw [Nat.add_mul];omega
 have h3:dAt T e*10000 ^ e<=T:=Nat.div_mul_le_self _ _
 calc dAt T e / (dAt b e+1)*b<=dAt T e / (dAt b e+1)*((dAt b e+1)*10000 ^ e):=Nat.mul_le_mul_left _ h2
  _=dAt T e / (dAt b e+1)*(dAt b e+1)*10000 ^ e:=by rw [Nat.mul_assoc]
  _<=dAt T e*10000 ^ e:=Nat.mul_le_mul_right _ h1
  _<=T:=h3
theorem Amo {T b e:Nat} (htop:dAt b e≠0):T / b<=dAt T e / dAt b e:=by
 rw [Nat.le_div_iff_mul_le (by omega)]
 unfold dAt at *
 have hX:0<10000 ^ e:=Nat.pow_pos (by decide)
 rw [Nat.le_div_iff_mul_le hX,Nat.mul_assoc]
 exact Nat.le_trans (Nat.mul_le_mul_left _ (Nat.div_mul_le_self _ _)) (Nat.div_mul_le_self _ _)
theorem Anh {T b:Nat} (hT:T<10000*b) (hb:0<b):dAt T ((D4.limN b).length-1-1) / dAt b ((D4.limN b).length-1-1)<=10000:=by
 have hne:D4.limN b≠[]:=by rw [Ne,D4.limN_nil];omega
 have hlp:=List.length_pos_iff.2 hne
 have htop:=dAt_top (b:=b) (by omega)
 generalize he:(D4.limN b).length-1-1=e
 have hX:0<10000 ^ e:=Nat.pow_pos (by decide)
 by_cases h1:(D4.limN b).length=1
 ·have:e=0:=by omega
  subst this
  rw [Ais,Ais]
  have:T / b<10000:=by rw [Nat.div_lt_iff_lt_mul hb];exact hT
  omega
 ·have h2:dAt b (e+1)≠0:=by rw [show e+1=(D4.limN b).length-1 by omega];exact htop
  rw [Ah8] at h2
  have h3:10000<=dAt b e:=by
   rcases Nat.lt_or_ge (dAt b e) 10000 with h|h
   ·rw [Nat.div_eq_of_lt h] at h2;exact absurd rfl h2
   ·exact h
  have h4:dAt T e<10000*(dAt b e+1):=by
   unfold dAt
   rw [Nat.div_lt_iff_lt_mul hX]
   have h5:b<(b / 10000 ^ e+1)*10000 ^ e:=by have:=Nat.lt_div_mul_add hX (a:=b);rw [Nat.add_mul];omega
   calc T<10000*b:=hT
    _<=10000*((b / 10000 ^ e+1)*10000 ^ e):=Nat.mul_le_mul_left _ (Nat.le_of_lt h5)
    _=10000*(b / 10000 ^ e+1)*10000 ^ e:=by rw [Nat.mul_assoc]
  have h6:dAt T e<10001*dAt b e:=by omega
  have:dAt T e / dAt b e<10001:=by rw [Nat.div_lt_iff_lt_mul (by omega)];exact h6
  omega
def Ai7 (x L i:Nat):List Int:=(List.range L).map fun j=>if j<i then 0 else ((dAt x j % 10000:Nat):Int)
theorem Akn (x L i:Nat):(Ai7 x L i).length=L:=by simp [Ai7]
theorem digs_all (x L:Nat):Ai7 x L L=List.replicate L 0:=by
 unfold Ai7
 apply List.ext_getElem
 ·simp
 ·intro i h1 h2
  simp at h1
  simp [h1]
theorem digs_set {x L i:Nat} (h:i<L):(Ai7 x L (i+1)).set i ((dAt x i % 10000:Nat):Int)=Ai7 x L i:=by
 unfold Ai7
 apply List.ext_getElem
 ·simp
 ·intro j h1 h2
  simp at h1
  rw [List.getElem_set]
  by_cases e:i=j
  ·subst e;simp
  ·rw [if_neg e];simp
   by_cases h3:j<i
   ·rw [if_pos h3,if_pos (by omega)]
   ·rw [if_neg h3,if_neg (by omega)]
theorem Alx (x:Nat):∀ L,D4.valL (Ai7 x L 0)=((x % 10000 ^ L:Nat):Int)
 |0=>by simp [Ai7,D4.valL,Nat.mod_one]
 |L+1=>by
  have h:=Alx x L
  have e:Ai7 x (L+1) 0=Ai7 x L 0++[((dAt x L % 10000:Nat):Int)]:=by unfold Ai7;rw [List.range_succ,List.map_append];simp
  rw [e,D4.valL_append,h,Akn]
  simp only [D4.valL]
  rw [Nat.pow_succ,Nat.mod_mul]
  unfold dAt
  rw [Int.natCast_add,Int.natCast_mul,Int.natCast_pow]
  simp only [Int.mul_zero,Int.add_zero]
  rfl
theorem digs_ok (x L i:Nat):∀ z∈Ai7 x L i,D4.limbOk z:=by
 intro z hz
 obtain ⟨j,_,rfl⟩:=List.mem_map.1 hz
 split
 ·exact ⟨by omega,by omega⟩
 ·exact ⟨by omega,by omega⟩
theorem Am8 {x L:Nat} (h:x<10000 ^ L):D4.trimL (Ai7 x L 0)=D4.limN x:=by
 rw [D4.trimL_eq (digs_ok _ _ _),Alx,Nat.mod_eq_of_lt h];rfl
theorem quot_lt {a b L:Nat} (hb:0<b) (h:(D4.limN a).length=L+((D4.limN b).length-1)):a / b<10000 ^ L:=by
 rw [Nat.div_lt_iff_lt_mul hb]
 have h1:=Ak8 a
 have h2:=D4.limN_low (n:=b) (by omega)
 rw [h,Nat.pow_add] at h1
 exact Nat.lt_of_lt_of_le h1 (Nat.mul_le_mul_left _ h2)
theorem An2 (a b i:Nat) (hb:0<b):(dAt a i % 10000+10000*(dAt a (i+1) % b)) % b=dAt a i % b/\(dAt a i % 10000+10000*(dAt a (i+1) % b)) / b=dAt (a / b) i % 10000/\dAt a i % 10000+10000*(dAt a (i+1) % b)<10000*b:=by
 have h1:dAt a i=dAt a i % 10000+10000*dAt a (i+1):=by rw [Ah8];omega
 have h2:dAt a (i+1) % b<b:=Nat.mod_lt _ hb
 have h3:dAt (a / b) i=dAt a i / b:=by unfold dAt;rw [Nat.div_div_eq_div_mul,Nat.div_div_eq_div_mul,Nat.mul_comm]
 have h4:dAt a (i+1)=b*(dAt a (i+1) / b)+dAt a (i+1) % b:=(Nat.div_add_mod _ _).symm
 have h5:dAt a i=(dAt a i % 10000+10000*(dAt a (i+1) % b))+b*(10000*(dAt a (i+1) / b)):=by
  rw [Nat.mul_left_comm]
  omega
 have h6:dAt a i % 10000+10000*(dAt a (i+1) % b)<10000*b:=by omega
 generalize dAt a i % 10000+10000*(dAt a (i+1) % b)=T at *
 refine ⟨?_,?_,h6⟩
 ·rw [h5,Nat.add_mul_mod_self_left]
 ·rw [h3,h5,Nat.add_mul_div_left _ _ hb,Nat.add_mul_mod_self_left,Nat.mod_eq_of_lt]
  rw [Nat.div_lt_iff_lt_mul hb];exact h6
section
variable {N:Nat} {ops:Array Oper} {rest:List Oper} {o:Oper} {F:Nat->PV} {S S':PS} {q:WRes->Prop}
theorem wrowL {t:TypeId} {len:Nat} {ps:Array (Nat×Operand)} {p:PV} (kk:WK Tryz.prog N ops rest (Cd N o.dst p F) S' q) (hg:Al ops F o=some true:=by exact rfl) (ho:o.op = .buildSlice t len ps:=by exact rfl) (h:Ajl tyi Ba F S t len ps=some (True,p,S'):=by exact rfl):WK Tryz.prog N ops (o::rest) F S q:=Eo hg (Ajd Fj ho h) kk
end
theorem Am9 (a b:Nat) (ha:(D4.limN a).length<=1000000) (hb:(D4.limN b).length<=1000000):Aw 165 [Dv (D4.limN a),Dv (D4.limN b)] ⟨[],[]⟩ (.ret (Dv (D4.limN (a*b)))) ⟨[],[]⟩:=by
 have h:=Akd _ _ (D4.limN_ok a) (Anc b) ha hb
 rw [Alz (D4.limN_ok a) (Anc b),D4.limN_val,D4.limN_val] at h
 exact h
theorem Akc (a y:Nat) (ha:(D4.limN a).length<=1000000) (hy:y<=10000):Aw 165 [Dv (D4.limN a),Dv [(y:Int)]] ⟨[],[]⟩ (.ret (Dv (D4.limN (a*y)))) ⟨[],[]⟩:=by
 have hf:=fac_one (y:=(y:Int)) (by omega) (by omega)
 have h:=Akd _ _ (D4.limN_ok a) hf ha (by simp)
 rw [Alz (D4.limN_ok a) hf,D4.limN_val] at h
 rw [show ((a:Int)*D4.valL [(y:Int)]).toNat=a*y by simp only [D4.valL];rw [Int.mul_zero,Int.add_zero,<- Int.natCast_mul,Int.toNat_natCast]] at h
 exact h
theorem An9 (d R:Nat) (hd:d<10000):D4.trimL ((d:Int)::D4.limN R)=D4.limN (d+10000*R):=by
 have hok:∀ z∈((d:Int)::D4.limN R),D4.limbOk z:=fun z hz=>by
  rcases List.mem_cons.1 hz with rfl|hz
  ·exact ⟨by omega,by omega⟩
  ·exact D4.limN_ok R z hz
 rw [D4.trimL_eq hok,D4.valL,D4.limN_val]
 congr 1
theorem Akr:∀ (L a:Nat),(D4.limN a).drop L=D4.limN (dAt a L)
 |0,a=>by rw [Ais];rfl
 |L+1,a=>by
  by_cases h:a=0
  ·subst h;rw [D4.limN_zero];simp [dAt,D4.limN_zero]
  ·rw [D4.limN_pos h,List.drop_succ_cons,Akr L,Ali]
theorem Anm {n m:Nat}:∀ l:List Int,PV.ltL n m (inC l)=true
 |[]=>rfl
 |x::l=>by
  show (true&&PV.ltL n m (inC l))=true
  rw [Anm l];rfl
set_option maxHeartbeats 8000000 in
theorem Aka (a b:Nat) (hb:0<b) (hal:(D4.limN a).length<=100000) (hbl:(D4.limN b).length<=100000) :
  Aw 161 [Dv (D4.limN a),Dv (D4.limN b)] ⟨[],[]⟩ (.ret (.tup [Dv (D4.limN (a / b)),Dv (D4.limN (a % b))])) ⟨[],[]⟩:=by
 have ea:((D4.limN a).map fun n=>[DV.v (.int .i64 n)]).length=(D4.limN a).length:=by simp
 have eb:((D4.limN b).map fun n=>[DV.v (.int .i64 n)]).length=(D4.limN b).length:=by simp
 have hbne:D4.limN b≠[]:=by rw [Ne,D4.limN_nil];omega
 have hbp:=List.length_pos_iff.2 hbne
 refine Dl Tryz.func161 rfl rfl (Nat.le_of_ble_eq_true rfl) (fun _=>?_)
 refine C2 ?_
 repeat' (first|refine rl3 ?_|refine rs3 ?_ ?_<;>intro h|fail)
 refine C2 ?_
 repeat' (first|refine rl3 ?_|refine rs3 ?_ ?_<;>intro h|fail)
 refine C2 ?_
 refine rl3 ?_
 refine rs3 (fun h=>?_) (fun h=>?_)
 ·have hlt:(D4.limN a).length<=(D4.limN b).length-1:=by have:=of_decide_eq_true h;omega
  have hab:a<b:=Nat.lt_of_lt_of_le (Ak8 a) (Nat.le_trans (Nat.pow_le_pow_right (by decide) hlt) (D4.limN_low (by omega)))
  rw [Nat.div_eq_of_lt hab,Nat.mod_eq_of_lt hab,D4.limN_zero]
  refine Co ?_
  refine Bf ?_
  refine wrowL ?_
  repeat' (first|refine rl3 ?_|refine rs3 ?_ ?_<;>intro h|fail)
  refine Ww (news:=(D4.limN a).map inE) (S':=⟨[],[⟨1,1,(D4.limN a).map inE,3⟩]⟩) rfl rfl rfl rfl rfl rfl ?_ ?_ (by simp [PS.setTok,PS.addTok];exact ⟨rfl,rfl,rfl⟩) ?_
  ·simp only [List.length_map];show (0+_)*8<=_;omega
  ·simp only [List.length_map];show 0+_<=_;omega
  repeat' (first|refine rl3 ?_|refine rs3 ?_ ?_<;>intro h|fail)
  exact Zk (.inr rfl) rfl rfl (Ag9 (B7 (Jy Er) (B7 (Jy (Ki (Fc rfl))) Gl)))
 ·have hlt:¬ (D4.limN a).length<=(D4.limN b).length-1:=by have:=of_decide_eq_false h;omega
  obtain ⟨L,hL⟩:∃ L,(D4.limN a).length=L+((D4.limN b).length-1):=⟨(D4.limN a).length-((D4.limN b).length-1),by omega⟩
  have hL0:0<L:=by omega
  have hsub:((D4.limN a).map fun n=>[DV.v (.int .i64 n)]).length-(((D4.limN b).map fun n=>[DV.v (.int .i64 n)]).length-1:Int)=(L:Int):=by omega
  refine Ev ?_
  refine C2 ?_
  repeat' (first|refine rl3 ?_|refine rs3 ?_ ?_<;>intro h|fail)
  refine Abc (n:=L) (.int .i64 0) rfl rfl rfl rfl rfl (by show PV.d (.v (.int .i64 (_-(_-1))))=_;rw [hsub]) (by show PV.d (.v (.int .i64 (_-(_-1))))=_;rw [hsub]) (by show 8*_<=_;omega) (by omega) ?_
  repeat' (first|refine rl3 ?_|refine rs3 ?_ ?_<;>intro h|fail)
  refine C2 ?_
  refine Bf ?_
  refine wrowL ?_
  repeat' (first|refine rl3 ?_|refine rs3 ?_ ?_<;>intro h|fail)
  have hR0:dAt a L<b:=by
   have h1:=Ak8 a
   rw [hL,Nat.pow_add] at h1
   have h2:=D4.limN_low (n:=b) (by omega)
   refine Nat.lt_of_lt_of_le ?_ h2
   unfold dAt
   rw [Nat.div_lt_iff_lt_mul (Nat.pow_pos (by decide)),Nat.mul_comm];exact h1
  have hdrop:(((D4.limN a).map fun n=>[DV.v (.int .i64 n)]).take (((D4.limN a).map fun n=>[DV.v (.int .i64 n)]).length:Int).toNat).drop ((((D4.limN a).map fun n=>[DV.v (.int .i64 n)]).length:Int)-((((D4.limN b).map fun n=>[DV.v (.int .i64 n)]).length:Int)-1)).toNat=(D4.limN (dAt a L % b)).map inE:=by
   rw [hsub,Int.toNat_natCast,Int.toNat_natCast,List.take_length,<- List.map_drop,Akr,Nat.mod_eq_of_lt hR0]
  have hrl:(D4.limN (dAt a L % b)).length<=100000:=by
   rw [Nat.mod_eq_of_lt hR0,<- Akr];simp;omega
  refine Ww (news:=(D4.limN (dAt a L % b)).map inE) (S':=⟨[inC (Ai7 (a / b) L L)],[⟨1,1,(D4.limN (dAt a L % b)).map inE,3⟩]⟩) rfl rfl rfl rfl rfl (congrArg some hdrop) ?_ ?_ (by simp [PS.setTok,PS.addTok,digs_all];first|rfl|exact ⟨rfl,rfl,rfl⟩|exact ⟨rfl,rfl⟩) ?_
  ·simp only [List.length_map];show (0+_)*8<=_;omega
  ·simp only [List.length_map];show 0+_<=_;omega
  repeat' (first|refine rl3 ?_|refine rs3 ?_ ?_<;>intro h|fail)
  generalize hT0:(⟨1,1,(D4.limN (dAt a L % b)).map inE,3⟩:RTok)=T0
  refine C2 ?_
  refine Co ?_
  repeat' (first|refine rl3 ?_|refine rs3 ?_ ?_<;>intro h|fail)
  refine C7 ?_
  refine pw_coe 8 rfl (Ki (l:=(D4.limN (dAt a L % b)).map inE) (k:=1) (by rw [<- hT0];exact Fc rfl)) ?_
  refine Ai6 (ι := Nat) (ok:=fun i=>i<=L) (L:=fun i=>[(0,Dv (D4.limN a)),(1,Dv (D4.limN b)),(6,An (((D4.limN b).length-1:Nat):Int)),(7,.bsl 1 0 0 L L),(8,Dv (D4.limN (dAt a i % b))),(9,An ((i:Int)-1))]) (Sx:=fun i=>⟨[inC (Ai7 (a / b) L i)],[T0]⟩) (μ := fun i=>i) L (Nat.le_refl _) (Aa rfl (Aa rfl (Aa (by show An _=An _;exact congrArg An (by omega)) (Aa rfl (Aa rfl (Aa rfl Ag)))))) rfl ?_
  rintro i hi
  repeat' (first|refine rl3 ?_|refine rs3 ?_ ?_<;>intro h|fail)
  ·obtain ⟨j,rfl⟩:∃ j,i=j+1:=⟨i-1,by have:=of_decide_eq_true h;omega⟩
   have ej:(((j+1:Nat):Int)-1)=(j:Nat):=by omega
   rw [ej]
   have hga:=Ajf j a
   obtain ⟨hr1,hr2,hr3⟩:=An2 a b j hb
   have hRb:dAt a (j+1) % b<b:=Nat.mod_lt _ hb
   have hRl:(D4.limN (dAt a (j+1) % b)).length<=100000:=Nat.le_trans (Ank (Nat.lt_trans hRb (Ak8 b))) hbl
   have htc:=An9 (dAt a j % 10000) (dAt a (j+1) % b) (Nat.mod_lt _ (by decide))
   generalize hTT:dAt a j % 10000+10000*(dAt a (j+1) % b)=T at *
   refine C7 ?_
   refine Co ?_
   refine Bf ?_
   refine wst rfl rfl trivial ?_
   refine wst rfl rfl trivial ?_
   refine wix (inE ((dAt a j % 10000:Nat):Int)) rfl rfl rfl rfl rfl (by rw [<- hga];exact Aij (by omega)) (by omega) ?_
   refine wst rfl rfl trivial ?_
   refine wrowL ?_
   repeat' (first|refine rl3 ?_|refine rs3 ?_ ?_<;>intro h|fail)
   refine Ww (news:=(D4.limN (dAt a (j+1) % b)).map inE) (S':=⟨[inC (Ai7 (a / b) L (j+1))],[T0,⟨1,1,(((dAt a j % 10000:Nat):Int)::D4.limN (dAt a (j+1) % b)).map inE,3⟩]⟩) rfl rfl rfl rfl rfl rfl ?_ ?_ (by simp [PS.setTok,PS.addTok];first|rfl|exact ⟨rfl,rfl,rfl⟩|exact ⟨rfl,rfl⟩) ?_
   ·simp only [List.length_map];show (1+_)*8<=_;omega
   ·simp only [List.length_map];show 1+_<=_;omega
   refine wp1 (Ajt (((dAt a j % 10000:Nat):Int)::D4.limN (dAt a (j+1) % b))) ?_ rfl rfl rfl rfl rfl (Ab (Ki (Fc rfl)) Ae)
   rw [htc]
   repeat' (first|refine rl3 ?_|refine rs3 ?_ ?_<;>intro h|fail)
   obtain ⟨n,hn⟩:∃ n,(D4.limN b).length=n+1:=⟨(D4.limN b).length-1,by omega⟩
   obtain ⟨e,he⟩:∃ e,e=n-1:=⟨_,rfl⟩
   have hnn:(D4.limN b).length-1=n:=by omega
   have hbT:b<10000 ^ (n+1):=by have:=Ak8 b;rw [hn] at this;exact this
   have hTn:T<10000 ^ (n+2):=by rw [Nat.pow_succ];omega
   have hTl:(D4.limN T).length<=n+2:=Ank hTn
   have bT:∀ k,n<=k->dAt T k<100000000:=fun k hk=>by
    have h1:dAt T k<=T / 10000 ^ n:=Nat.div_le_div_left (Nat.pow_le_pow_right (by decide) hk) (Nat.pow_pos (by decide))
    have h2:T / 10000 ^ n<100000000:=by rw [Nat.div_lt_iff_lt_mul (Nat.pow_pos (by decide))];rw [show n+2=n+1+1 from rfl,Nat.pow_succ,Nat.pow_succ] at hTn;omega
    omega
   have bb:∀ k,n<=k->dAt b k<10000:=fun k hk=>by
    have h1:dAt b k<=b / 10000 ^ n:=Nat.div_le_div_left (Nat.pow_le_pow_right (by decide) hk) (Nat.pow_pos (by decide))
    have h2:b / 10000 ^ n<10000:=by rw [Nat.div_lt_iff_lt_mul (Nat.pow_pos (by decide))];rw [Nat.pow_succ] at hbT;omega
    omega
   have hmx:(if (0:Int)<(n:Int)-1 then (n:Int)-1 else 0)=(e:Int):=by split<;>omega
   have hnb:n<=100000:=by omega
   rw [hnn]
   generalize hT1:(⟨1,1,(((dAt a j % 10000:Nat):Int)::D4.limN (dAt a (j+1) % b)).map inE,3⟩:RTok)=T1
   refine V8 (ι := Unit) (ok:=fun _=>True) (L:=fun _=>[(0,Dv (D4.limN a)),(1,Dv (D4.limN b)),(6,An (n:Int)),(7,.bsl 1 0 0 L L),(8,Dv (D4.limN T)),(9,An (j:Int)),(10,An (dAt b e:Int)),(11,An (dAt T e:Int))]) (Sx:=fun _=>⟨[inC (Ai7 (a / b) L (j+1))],[T0,T1]⟩) ?_ ?_
   ·refine C7 ?_
    refine Ca (ι := Nat) (ok:=fun k=>e<=k/\k<=n+2) (L:=fun k=>[(0,Dv (D4.limN a)),(1,Dv (D4.limN b)),(6,An (n:Int)),(7,.bsl 1 0 0 L L),(8,Dv (D4.limN T)),(9,An (j:Int)),(10,An (dAt b k:Int)),(11,An (dAt T k:Int)),(12,An ((k:Int)-1))]) (Sx:=fun _=>⟨[inC (Ai7 (a / b) L (j+1))],[T0,T1]⟩) (μ := fun k=>k) (n+2) ⟨by omega,Nat.le_refl _⟩ (Aa rfl (Aa rfl (Aa rfl (Aa rfl (Aa rfl (Aa rfl (Aa (by rw [Ai0 (a:=b) (k:=n+2) (by omega)];rfl) (Aa (by rw [Ai0 (a:=T) (k:=n+2) hTl];rfl) (Aa (by show An _=An _;exact congrArg An (by omega)) Ag))))))))) rfl ?_
    rintro k ⟨hk1,hk2⟩
    have et:((D4.limN T).map fun n=>[DV.v (.int .i64 n)]).length=(D4.limN T).length:=by simp
    repeat' (first|refine rl3 ?_|refine rs3 ?_ ?_<;>intro h|fail)
    ·rw [hmx] at h
     have hk:=of_decide_eq_true h
     obtain ⟨c,rfl⟩:∃ c,k=c+1:=⟨k-1,by omega⟩
     have hce:e<=c:=by omega
     have ek:(((c+1:Nat):Int)-1)=(c:Nat):=by omega
     rw [ek]
     have g1:=Ajf c T
     have g2:=Ajf c b
     have i1:=Aip c T
     have i2:=Aip c b
     have t1:=bT (c+1) (by omega)
     have t2:=bb (c+1) (by omega)
     rw [Ah8] at t1 t2
     rw [Ah8,Ah8]
     refine C7 ?_
     repeat' (first|refine rl3 ?_|refine rs3 ?_ ?_<;>intro h|fail)
     ·have h1:=of_decide_eq_true h
      refine wix (inE ((dAt T c % 10000:Nat):Int)) rfl rfl rfl rfl rfl (by rw [<- g1];exact Aij (by omega)) (by omega) ?_
      repeat' (first|refine rl3 ?_|refine rs3 ?_ ?_<;>intro h|fail)
      ·have h2:=of_decide_eq_true h
       refine wix (inE ((dAt b c % 10000:Nat):Int)) rfl rfl rfl rfl rfl (by rw [<- g2];exact Aij (by omega)) (by omega) ?_
       repeat' (first|refine rl3 ?_|refine rs3 ?_ ?_<;>intro h|fail)
       exact ⟨c,⟨hce,by omega⟩,by omega,Aa rfl (Aa rfl (Aa rfl (Aa rfl (Aa rfl (Aa rfl (Aa (by show An _=An _;exact congrArg An (by omega)) (Aa (by show An _=An _;exact congrArg An (by omega)) (Aa rfl Ag)))))))),rfl⟩
      ·have h2:=of_decide_eq_false h
       have z2:dAt b c=0:=Ai0 (by omega)
       exact ⟨c,⟨hce,by omega⟩,by omega,Aa rfl (Aa rfl (Aa rfl (Aa rfl (Aa rfl (Aa rfl (Aa (by show An _=An _;exact congrArg An (by omega)) (Aa (by show An _=An _;exact congrArg An (by omega)) (Aa rfl Ag)))))))),rfl⟩
     ·rename_i h'
      have h1:=of_decide_eq_false h'
      have z1:dAt T c=0:=Ai0 (by omega)
      have h2:=of_decide_eq_true h
      refine wix (inE ((dAt b c % 10000:Nat):Int)) rfl rfl rfl rfl rfl (by rw [<- g2];exact Aij (by omega)) (by omega) ?_
      repeat' (first|refine rl3 ?_|refine rs3 ?_ ?_<;>intro h|fail)
      exact ⟨c,⟨hce,by omega⟩,by omega,Aa rfl (Aa rfl (Aa rfl (Aa rfl (Aa rfl (Aa rfl (Aa (by show An _=An _;exact congrArg An (by omega)) (Aa (by show An _=An _;exact congrArg An (by omega)) (Aa rfl Ag)))))))),rfl⟩
     ·rename_i h'
      have h1:=of_decide_eq_false h'
      have z1:dAt T c=0:=Ai0 (by omega)
      have h2:=of_decide_eq_false h
      have z2:dAt b c=0:=Ai0 (by omega)
      exact ⟨c,⟨hce,by omega⟩,by omega,Aa rfl (Aa rfl (Aa rfl (Aa rfl (Aa rfl (Aa rfl (Aa (by show An _=An _;exact congrArg An (by omega)) (Aa (by show An _=An _;exact congrArg An (by omega)) (Aa rfl Ag)))))))),rfl⟩
    ·rw [hmx] at h
     have hk:=of_decide_eq_false h
     obtain rfl:k=e:=by omega
     exact ⟨(),trivial,(by repeat (first|exact Ag|refine Aa rfl ?_)),rfl⟩
   rintro _ _
   have htop:dAt b e≠0:=by
    have h1:dAt b n≠0:=(Aip n b).1 (by omega)
    have h2:dAt b n<=dAt b e:=Nat.div_le_div_left (Nat.pow_le_pow_right (by decide) (by omega)) (Nat.pow_pos (by decide))
    omega
   have bTe:dAt T e<1000000000000:=by
    rcases Nat.eq_zero_or_pos n with h0|h0
    ·have:=bT e (by omega);omega
    ·have h1:=bT n (Nat.le_refl _)
     obtain rfl:n=e+1:=by omega
     rw [Ah8] at h1;omega
   have bbe:dAt b e<100000000:=by
    rcases Nat.eq_zero_or_pos n with h0|h0
    ·have:=bb e (by omega);omega
    ·have h1:=bb n (Nat.le_refl _)
     obtain rfl:n=e+1:=by omega
     rw [Ah8] at h1;omega
   have gl1:=Ang (T:=T) (b:=b) (e:=e) hb
   have gl2:=Amo (T:=T) (b:=b) (e:=e) htop
   have gl3:=Anh hr3 hb
   rw [hn,show n+1-1-1=e by omega] at gl3
   have hqd:T / b<10000:=by rw [hr2];exact Nat.mod_lt _ (by decide)
   generalize hlo:dAt T e / (dAt b e+1)=lo0 at gl1
   generalize hhi:dAt T e / dAt b e=hi0 at gl2 gl3
   refine Co ?_
   refine V8 (ι := Unit) (ok:=fun _=>True) (L:=fun _=>[(0,Dv (D4.limN a)),(1,Dv (D4.limN b)),(6,An (n:Int)),(7,.bsl 1 0 0 L L),(8,Dv (D4.limN T)),(9,An (j:Int)),(13,An (lo0:Int)),(14,An (hi0:Int))]) (Sx:=fun _=>⟨[inC (Ai7 (a / b) L (j+1))],[T0,T1]⟩) ?_ ?_
   ·refine Eu chN [] [] rfl (by kernel_rfl) ?_
    repeat' (first|refine rl3 ?_|refine rs3 ?_ ?_<;>intro h|fail)
    exact ⟨(),trivial,Aa rfl (Aa rfl (Aa rfl (Aa rfl (Aa rfl (Aa rfl (Aa (by rw [<- hlo];rfl) (Aa (by rw [<- hhi];rfl) Ag))))))),rfl⟩
   rintro _ _
   refine Co ?_
   refine V8 (ι := Unit) (ok:=fun _=>True) (L:=fun _=>[(0,Dv (D4.limN a)),(1,Dv (D4.limN b)),(6,An (n:Int)),(7,.bsl 1 0 0 L L),(8,Dv (D4.limN T)),(9,An (j:Int)),(13,An ((T / b:Nat):Int))]) (Sx:=fun _=>⟨[inC (Ai7 (a / b) L (j+1))],[T0,T1]⟩) ?_ ?_
   ·refine C7 ?_
    refine Ca (ι := Nat×Nat) (ok:=fun q=>q.1<=T / b/\T / b<=q.2/\q.2<=10000) (L:=fun q=>[(0,Dv (D4.limN a)),(1,Dv (D4.limN b)),(6,An (n:Int)),(7,.bsl 1 0 0 L L),(8,Dv (D4.limN T)),(9,An (j:Int)),(13,An (q.1:Int)),(14,An (q.2:Int))]) (Sx:=fun _=>⟨[inC (Ai7 (a / b) L (j+1))],[T0,T1]⟩) (μ := fun q=>q.2-q.1) (lo0,hi0) ⟨gl1,gl2,gl3⟩ (by exact (by repeat (first|exact Ag|refine Aa rfl ?_))) rfl ?_
    rintro ⟨lo,hh⟩ ⟨p1,p2,p3⟩
    dsimp only at p1 p2 p3 |-
    repeat' (first|refine rl3 ?_|refine rs3 ?_ ?_<;>intro h|fail)
    ·have hlh:=of_decide_eq_true h
     refine C7 ?_
     repeat' (first|refine rl3 ?_|refine rs3 ?_ ?_<;>intro h|fail)
     obtain ⟨mid,hmid⟩:∃ mid,mid=(lo+hh+1) / 2:=⟨_,rfl⟩
     have em:((lo:Int)+hh+1) / 2=(mid:Nat):=by omega
     rw [em]
     refine wp1 (Akc b mid (by omega) (by omega)) ?_
     repeat' (first|refine rl3 ?_|refine rs3 ?_ ?_<;>intro h|fail)
     refine wp1 (Akm (b*mid) T) ?_
     have hcm:Cx ((b*mid:Nat):Int) T<=0<->mid<=T / b:=by
      rw [Nat.le_div_iff_mul_le hb,Nat.mul_comm mid b]
      unfold Cx
      split
      ·omega
      ·split<;>omega
     repeat' (first|refine rl3 ?_|refine rs3 ?_ ?_<;>intro h|fail)
     ·have h1:=hcm.1 (of_decide_eq_true h)
      exact ⟨(mid,hh),⟨h1,p2,p3⟩,by show hh-mid<hh-lo;omega,(by repeat (first|exact Ag|refine Aa rfl ?_)),rfl⟩
     ·have h1:¬ mid<=T / b:=fun h2=>of_decide_eq_false h (hcm.2 h2)
      exact ⟨(lo,mid-1),⟨p1,by show T / b<=mid-1;omega,by show mid-1<=10000;omega⟩,by show mid-1-lo<hh-lo;omega,Aa rfl (Aa rfl (Aa rfl (Aa rfl (Aa rfl (Aa rfl (Aa rfl (Aa (by show An _=An ((mid-1:Nat):Int);exact congrArg An (by omega)) Ag))))))),rfl⟩
    ·have hlh:=of_decide_eq_false h
     obtain rfl:lo=T / b:=by omega
     exact ⟨(),trivial,(by repeat (first|exact Ag|refine Aa rfl ?_)),rfl⟩
   rintro _ _
   have hdl:=Akn (a / b) L (j+1)
   have hset:(inC (Ai7 (a / b) L (j+1))).set j (.d (.v (.int .i64 ((T / b:Nat):Int))))=inC (Ai7 (a / b) L j):=by rw [All,hr2,digs_set (by omega)]
   refine Co ?_
   refine V8 (ι := Unit) (ok:=fun _=>True) (L:=fun _=>[(0,Dv (D4.limN a)),(1,Dv (D4.limN b)),(6,An (n:Int)),(7,.bsl 1 0 0 L L),(8,Dv (D4.limN T)),(9,An (j:Int)),(13,An ((T / b:Nat):Int))]) (Sx:=fun _=>⟨[inC (Ai7 (a / b) L j)],[T0,T1]⟩) ?_ ?_
   ·repeat' (first|refine rl3 ?_|refine rs3 ?_ ?_<;>intro h|fail)
    refine Adh (id:=0) j rfl rfl rfl (by show PV.ptr 0 (0+(j:Int).toNat*1)=_;congr 1;omega) rfl rfl (by rw [List.length_map,hdl];omega) rfl ?_
    repeat' (first|refine rl3 ?_|refine rs3 ?_ ?_<;>intro h|fail)
    exact ⟨(),trivial,(by repeat (first|exact Ag|refine Aa rfl ?_)),congrArg (fun q=>(⟨[q],[T0,T1]⟩:PS)) hset⟩
   rintro _ _
   repeat' (first|refine rl3 ?_|refine rs3 ?_ ?_<;>intro h|fail)
   ·have hq:=of_decide_eq_true h
    refine wp1 (Akc b (T / b) (by omega) (by omega)) ?_
    repeat' (first|refine rl3 ?_|refine rs3 ?_ ?_<;>intro h|fail)
    have hmod:T-b*(T / b)=T % b:=by have:=Nat.div_add_mod T b;omega
    refine wp1 (Ajw T (b*(T / b)) (Nat.mul_div_le T b) (by omega)) ?_
    rw [hmod,hr1]
    repeat' (first|refine rl3 ?_|refine rs3 ?_ ?_<;>intro h|fail)
    exact ⟨j,by omega,by omega,(by repeat (first|exact Ag|refine Aa rfl ?_)),rfl,(by show (PV.ltL 1 1 (inC (Ai7 (a / b) L j))&&true)=true;rw [Anm];rfl),(by exact rfl),Nat.le_refl _,Nat.le_refl _⟩
   ·have hq:=of_decide_eq_false h
    have hT0':T / b=0:=by omega
    have hTm:T % b=T:=by have:=Nat.div_add_mod T b;rw [hT0',Nat.mul_zero] at this;omega
    rw [hTm] at hr1
    exact ⟨j,by omega,by omega,Aa rfl (Aa rfl (Aa rfl (Aa rfl (Aa (by rw [<- hr1];rfl) (Aa rfl Ag))))),rfl,(by show (PV.ltL 1 1 (inC (Ai7 (a / b) L j))&&true)=true;rw [Anm];rfl),(by exact rfl),Nat.le_refl _,Nat.le_refl _⟩
  ·obtain rfl:i=0:=by have:=of_decide_eq_false h;omega
   refine On 0 0 [(7,Dv (Ai7 (a / b) L 0)),(8,Dv (D4.limN (dAt a 0 % b)))] (Nat.zero_le _) (Nat.zero_le _) rfl ?_ ?_
   ·refine Eg ?_ (Eg K9 Si)
    have hlen:L=((Ai7 (a / b) L 0).map fun x=>DV.v (.int .i64 x)).length:=by simp [Akn]
    have h:=Ox (S:=⟨[inC (Ai7 (a / b) L 0)],[T0]⟩) (n:=0) (m:=0) (k:=1) (id:=0) (cap:=L) (ds:=(Ai7 (a / b) L 0).map fun x => .v (.int .i64 x)) (by simp [inC]) (Nat.le_refl _) (by rw [<- hlen];exact Nat.le_refl _) (by omega)
    rw [<- hlen] at h
    show Ret _ _ _ (.bsl 1 0 0 L L) _
    simpa [Function.comp_def] using h
   ·refine Sb ?_
    have e:PS.cut (⟨[inC (Ai7 (a / b) L 0)],[T0]⟩:PS) 0 0=⟨[],[]⟩:=rfl
    rw [e]
    repeat' (first|refine rl1 ?_|refine rs1 ?_ ?_<;>intro h|fail)
    refine wp1 (Ajt (Ai7 (a / b) L 0)) ?_
    rw [Am8 (quot_lt hb hL),Ais]
    repeat' (first|refine rl1 ?_|refine rs1 ?_ ?_<;>intro h|fail)
    exact Zk (.inr rfl) rfl rfl (Ag9 (B7 K9 (B7 K9 Gl)))
def PS.more (S:PS) (bs:List (List PV)):PS:={ S with boxes:=S.boxes++bs }
def Kx.more (K:Kx) (l:List Nat):Kx:={ K with β := K.β ++ l }
section
variable {P:Program} {S:PS} {K K0':Kx} {w w':World} {bs:List (List PV)}
theorem Vg (hI:Inv K S w) (hs:Step (Hf K [] []) K0' w w'):Step K (K.more K0'.β) w w'/\(∀ b,b<w.heap.size->w'.heap[b]? = w.heap[b]?)/\∀ b∈K0'.β,w.heap.size<=b:=by
 have hold:∀ b,b<w.heap.size->w'.heap[b]? = w.heap[b]? := fun b hb=>hs.blocks b hb (by simp [Hf]) (fun t c lo ht=>by simp [Hf] at ht)
 have hnew:∀ b∈K0'.β,w.heap.size<=b:=fun b hb=>(hs.βnew b hb).resolve_left (by simp [Hf])
 refine ⟨⟨hs.os,hs.tape,hs.output,hs.size,fun i b h=>?_,fun b h=>?_,rfl,rfl,fun t c h=>⟨c,h,List.prefix_rfl⟩,fun t c g lo h h' => .inr ⟨t,c,lo,h,h',Nat.le_refl _⟩,fun b hb _ _=>hold b hb,fun t c g lo i ht hc _ _=>A4 (hold g (hI.tokLt ht hc))⟩,hold,hnew⟩
 ·show (K.β ++ K0'.β)[i]? = _
  rw [List.getElem?_append_left (List.getElem?_eq_some_iff.1 h).1];exact h
 ·rcases List.mem_append.1 h with h|h
  ·exact .inl h
  ·exact .inr (hnew b h)
theorem Vf (hs:Step (Hf K [] []) K0' w w') {b hi:Nat} (hg:K0'.good w' b hi):(K.more K0'.β).good w' b hi:=by
 obtain ⟨h1,h2,h3,h4,h5⟩:=hg
 rw [hs.M] at h3
 rw [hs.T] at h4
 refine ⟨h1,fun hm=>?_,fun hm=>h3 (.inl hm),fun lo hm=>h4 lo (.inl hm),fun t c lo ht hc=>h4 lo (.inr ⟨t,c,by simp,ht,hc⟩)⟩
 rcases List.mem_append.1 hm with hm|hm
 ·exact h3 (.inr ⟨hm,by simp⟩)
 ·exact h2 hm
theorem Z6 (hI:Inv K S w) (hs:Step (Hf K [] []) K0' w w') (hI':Inv K0' ⟨bs,[]⟩ w'):(∀ p u,Rep K0' w' p u->Rep (K.more K0'.β) w' (p.ren (fun i=>S.boxes.length+i) id) u)/\(∀ l us,Ap K0' w' l us->Ap (K.more K0'.β) w' (PV.renL (fun i=>S.boxes.length+i) id l) us):=by
 have hβ : ∀ i b,K0'.β[i]? = some b->(K.more K0'.β).β[S.boxes.length+i]? = some b:=fun i b h=>by
  show (K.β ++ K0'.β)[_]? = _
  rw [<- hI.lenβ,List.getElem?_append_right (Nat.le_add_right _ _),Nat.add_sub_cancel_left];exact h
 have hτ : ∀ (t:Nat) (c:TokC),K0'.τ[t]? = some c->(K.more K0'.β).τ[id t]? = some c:=fun t c h=>by
  have:=hI'.lenτ
  simp at this
  rw [this] at h;simp at h
 exact ⟨Rep.ren hβ hτ fun b hi hg=>Vf hs hg,Ap.ren hβ hτ fun b hi hg=>Vf hs hg⟩
theorem newB_inv (hI:Inv K S w) (hs:Step (Hf K [] []) K0' w w') (hI':Inv K0' ⟨bs,[]⟩ w') (hl:bs.all (PV.ltL 0 0)=true):Inv (K.more K0'.β) (S.more bs) w':=by
 obtain ⟨hst,hold,hnew⟩:=Vg hI hs
 have hlen:K0'.β.length=bs.length:=hI'.lenβ
 refine ⟨by show (K.β ++ K0'.β).length=(S.boxes++bs).length;simp [hI.lenβ,hlen],hI.lenτ,fun i b c h1 h2=>?_,?_,fun b hb=>?_,fun t T c h1 h2=>?_,fun t c g lo h1 h2=>?_,hI.tokI,hI.tokH,fun b hm=>Nat.lt_of_lt_of_le (hI.Mlt b hm) hs.size,fun b lo hm=>Nat.lt_of_lt_of_le (hI.Tlt b lo hm) hs.size,hI.fz.step hst⟩
 ·change (K.β ++ K0'.β)[i]? = _ at h1
  change (S.boxes++bs)[i]? = _ at h2
  by_cases hi:i<K.β.length
  ·rw [List.getElem?_append_left hi] at h1
   rw [List.getElem?_append_left (by rw [<- hI.lenβ];exact hi)] at h2
   exact (hI.box i b c h1 h2).step hst (hold b (hI.boxMem (List.mem_of_getElem? h1)))
  ·rw [List.getElem?_append_right (by omega)] at h1
   rw [List.getElem?_append_right (by rw [<- hI.lenβ];omega),<- hI.lenβ] at h2
   obtain ⟨C,ty,h3,h4,h5⟩:=hI'.box _ b c h1 h2
   refine ⟨C,ty,h3,?_,h5⟩
   have h6:=(Z6 hI hs hI').2 _ _ h4
   rwa [Gw c (List.all_eq_true.1 hl c (List.mem_of_getElem? h2))] at h6
 ·refine List.nodup_append.2 ⟨hI.nodup,hI'.nodup,fun a ha b hb e=>?_⟩
  subst e
  have:=hI.boxMem ha
  have:=hnew a hb
  omega
 ·rcases List.mem_append.1 hb with hb|hb
  ·exact hI.βM b hb
  ·obtain ⟨h1,h2⟩:=hI'.βM b hb
   rw [hs.M] at h1
   rw [hs.T] at h2
   exact ⟨fun hm=>h1 (.inl hm),fun lo hm=>h2 lo (.inl hm)⟩
 ·obtain ⟨h5,u,h6,h7⟩:=hI.tok t T c h1 h2
  exact ⟨h5,u,h6,h7.step hst fun g lo hg=>hold g (hI.tokLt h2 hg)⟩
 ·obtain ⟨h3,h4,h5⟩:=hI.tokF t c g lo h1 h2
  refine ⟨fun hm=>?_,h4,h5⟩
  rcases List.mem_append.1 hm with hm|hm
  ·exact h3 hm
  ·have:=hI.tokLt h1 h2
   have:=hnew g hm
   omega
theorem ops_new {o:Oper} {F:Nat->PV} {c:Operand} {al0:Array Operand} {ats:Array TypeId} {f:Nat} {caps args:List PV} {r:PV} (ho:o.op = .call { callee := .value c,args:=al0,argTypes:=ats }) (he:Ent P f) (hc:evP F c = .fn f caps) (hlt:PV.ltL 0 0 args=true)
  (ha:F7 S (al0.toList.map (evP F)++caps) args) (hl:bs.all (PV.ltL 0 0)=true) (hev:EvC P f args ⟨[],[]⟩ (.ret r) ⟨bs,[]⟩):OpS P o F S (r.ren (fun i=>S.boxes.length+i) id) (S.more bs):=by
 intro ro mm K w a next Q hI hx hn
 obtain ⟨vs,h1,h2⟩:=La ho he hc hx
 have h3:=Jq (ids:=[]) (tids:=[]) hI Hv hlt (by rw [Gw args hlt];exact F7.rep hI ha h2)
 refine Lm h1 ((hev (Hf K [] []) w vs (hI.sub Hv) h3).mono ?_)
 rintro e w' ⟨K0',hs,hI',v,rfl,hr⟩
 exact hn v w' (K.more K0'.β) (Vg hI hs).1 (newB_inv hI hs hI' hl) ((Z6 hI hs hI').1 r v hr)
end
theorem M3 {P:Program} (w:World) (t ty e ty':TypeId) (i:TypeInfo) (ht:P.underlying t=some (.slice e)) (hi:P.info? e=some i)
  (g sLen sCap:Nat) (cur:Array Value) (hg:w.heap[g]? = some (.cells cur ty' (0,0)))
  (a:Addr) (m c:Nat) (news:List Value) (hl:news.length=m*i.size) (hnews:∀ j u,news[j]? = some u->w.cell? (a.add j)=some u) (h1:∀ u∈news,u.oneCell'=true)
  (hroom:sLen+m<=sCap) (hfit:sLen*i.size+news.length<=cur.size) :
  (Builtin.append_ #[t,t] ty #[.slice (some ⟨g,0,none⟩) sLen sCap,.slice (some a) m c]).run P w =
   .ok (.slice (some ⟨g,0,none⟩) (sLen+m) sCap) (w.setRow g (cur.toList.take (sLen*i.size)++news++cur.toList.drop (sLen*i.size+news.length)).toArray):=by
 have hf:=run_firstCells_some (P:=P) w i.size m a m c news hl hnews
 have hst:=run_storeCells_at P g (sLen*i.size) ty' news 0 cur w hg (by simpa using hfit) h1
 simp only [Nat.add_zero] at hst
 simp [Builtin.append_,run_underlying ht,sizeOf,typeInfo,hi,Builtin.lenOf,hroom,hf,Addr.add_lit,hst]
theorem X7 {P:Program} {o:Oper} {F:Nat->PV} {S:PS} {x y:Operand} {ty:TypeId} {I:TyI} {id n cap:Nat} {c:List PV} {dv:DV} (ho:o.op = .call { callee := .builtin .append,args := #[x,y],argTypes := #[ty,ty] }) (hI:TyI.of P ty=some I) (hk:I.kind=2) (hek:I.ek=1)
  (hx:evP F x = .bsl 1 id 0 n cap) (hy:evP F y = .d (.sl 1 [[dv]])) (hc:S.boxes[id]? = some c) (hn:n<cap) (hcap:cap<=c.length):OpS P o F S (.bsl 1 id 0 (n+1) cap) (S.setBox id (c.set n (.d dv))) :=
 OpS.val fun K w ρ hInv h=>by
  have h1:=h x (by simp [ho,Op.operands,Call.operands])
  have h2:=h y (by simp [ho,Op.operands,Call.operands])
  rw [hx] at h1
  rw [hy] at h2
  simp only [Rep] at h1
  obtain ⟨b,hb,hu1⟩:=h1
  simp only [Rep,Cj] at h2
  obtain ⟨p,cap2,hu2,_,_,h3⟩:=h2
  obtain ⟨b',o',rfl,hg,hrows⟩:=h3 (by simp)
  obtain ⟨vs,hvl,hvr,hvR⟩:=Sm hrows
  obtain ⟨i,d,zz,hi,hu,hz,_,hzz,hd⟩:=TyI.inv hI
  rw [hk] at hd;simp at hd
  obtain ⟨rfl,ie,hie,ze,hze,hzs,hek2,heb,hez2⟩:=hd
  have hsz:ie.size=1:=by rw [<- hek];first|exact hek2|exact hek2.symm
  obtain ⟨C,tyb,h4,h5,h6⟩:=hInv.box id b c hb hc
  have hCl:C.toList.length=c.length:=h5.length.symm▸rfl
  have hv1:=Sh hvR
  have hl1:vs.length=1:=by simpa using hvl
  have hrun:=M3 (P:=P) w ty o.type I.elem tyb ie hu hie b n cap C h4 ⟨b',o',none⟩ 1 cap2 vs (by rw [hl1,hsz]) (fun j v hj=>by rw [Addr.add_mid];exact hvr j v hj) hv1 (by omega) (by rw [hsz,hl1];simp at hCl;omega)
  rw [hsz,Nat.mul_one] at hrun
  have hnew:=setRow_heap w b C (C.toList.take n++vs++C.toList.drop (n+vs.length)).toArray tyb (0,0) h4
  obtain ⟨h9,h10⟩:=hInv.setBox (w':=w.setRow b (C.toList.take n++vs++C.toList.drop (n+vs.length)).toArray) (c':=putAt c n [.d dv]) hb (ty:=tyb) (Ap.putAt n h5 (by simpa using hvR)) (by
   intro v hv
   simp only [List.append_assoc,List.mem_append] at hv
   rcases hv with hv|hv|hv
   ·exact h6 v (List.mem_of_mem_take hv)
   ·exact hv1 v hv
   ·exact h6 v (List.mem_of_mem_drop hv)) rfl rfl rfl (by simp [World.setRow]) hnew (fun k hk=>setRow_other w b k _ hk)
  rw [V7 (by omega)] at h9
  refine ⟨_,_,K,Fp ho (by rw [hu1,hu2];exact hrun),h10,h9,?_⟩
  simp only [Rep]
  exact ⟨b,hb,rfl⟩
theorem Ab9 {P:Program} {o:Oper} {F:Nat->PV} {S:PS} {t:TypeId} {x:Operand} {low high:Option Operand} {I:TyI} {id off n cap:Nat} {j h:Int} (ho:o.op = .slice t x low high none) (hI:TyI.of P t=some I) (hk:I.kind=2) (hek:I.ek=1) (hx:evP F x = .bsl 1 id off n cap) (hlo:loN F low=some j) (hhi:hiN F n high=some h) (h0:0<=j) (h1:j<=h) (h2:h<=n) (hcap:n<=cap) (hlt:j<cap) :
  OpS P o F S (.bsl 1 id (off+j.toNat) (h.toNat-j.toNat) (cap-j.toNat)) S :=
 OpS.pure fun K w ρ hInv hr=>by
  have h3:=hr x (by simp [ho,Op.operands])
  rw [hx] at h3
  simp only [Rep] at h3
  obtain ⟨b,hb,h4⟩:=h3
  obtain ⟨i,d,z,hi,hu,hz,_,_,hd⟩:=TyI.inv hI
  rw [hk] at hd;simp at hd
  obtain ⟨rfl,ie,hie,ze,hze,hzs,hek2,_⟩:=hd
  have hsz:ie.size=1:=by rw [<- hek];first|exact hek2|exact hek2.symm
  have hbd:=L6 (P:=P) (w:=w) (b:=true) (cap:=cap) (Xx hlo (fun y hy=>hr y (by rw [ho];simp only [Op.operands];simp at hy;simp [hy]))) (Xv hhi (fun y hy=>hr y (by rw [ho];simp only [Op.operands];simp at hy;simp [hy]))) h0 h1 h2 hcap
  refine ⟨.slice (if cap=j.toNat then some ⟨b,off,none⟩ else (some ⟨b,off,none⟩:Option Addr).map (·.add (j.toNat*ie.size))) (h.toNat-j.toNat) (cap-j.toNat),?_,?_⟩
  ·simp only [execOp,ho,h4,Instr.sliceAt,Sem.run_bind,run_underlying hu,Result.andThen_ok,Instr.slice,Option.map_none,hbd]
   simp [sizeOf,typeInfo,hie,go_sem]
  ·rw [if_neg (by omega)]
   simp only [Rep]
   refine ⟨b,hb,?_⟩
   rw [hsz,Nat.mul_one]
   simp only [Option.map_some,Addr.add_mid]
theorem Ab8 {P:Program} {o:Oper} {F:Nat->PV} {S:PS} {t:TypeId} {x y:Operand} {I:TyI} {n:Nat} {z:Value} {kx ky:IntKind} (ho:o.op = .makeSlice t x y) (hI:TyI.of P t=some I) (hk:I.kind=2) (hek:I.ek=1) (hez:I.ez=[z]) (hz1:z.oneCell'=true) (hx:evP F x = .d (.v (.int kx 0))) (hy:evP F y = .d (.v (.int ky n)))
  (hn:I.eb*n<=281474976710656) (h63:n<=9223372036854775807):OpS P o F S (.bsl 1 S.boxes.length 0 0 n) (S.addBox (List.replicate n (.d (.v z)))) :=
 OpS.val fun K w ρ hInv h=>by
  have h1:=h x (by simp [ho,Op.operands])
  have h2:=h y (by simp [ho,Op.operands])
  rw [hx] at h1
  rw [hy] at h2
  have h1:=Cb h1
  have h2:=Cb h2
  obtain ⟨i,d,zz,hi,hu,hz,_,hzz,hd⟩:=TyI.inv hI
  rw [hk] at hd;simp at hd
  obtain ⟨rfl,ie,hie,ze,hze,hzs,hek2,heb,hez2⟩:=hd
  have hsz:ie.size=1:=by rw [<- hek];first|exact hek2|exact hek2.symm
  have hcl:ze.cells.toList=[z]:=by rw [<- hez];first|exact hez2.1|exact hez2.1.symm
  have hrun:=run_make (P:=P) w t I.elem ie ze hu hie hze kx ky 0 n (Int.le_refl _) (by omega) (by have hb:ie.bytes=I.eb:=(by first|exact heb|exact heb.symm);rw [hb];omega) (by omega)
  simp only [Int.toNat_natCast,hsz,Nat.mul_one,Int.toNat_zero] at hrun
  have hm:(madeCells ze.cells n).toList=List.replicate n z:=Ni hcl n
  obtain ⟨g1,g2⟩:=hInv.newBox (c:=List.replicate n (.d (.v z))) (C:=madeCells ze.cells n) (ty:=I.elem) (by rw [hm];exact No hz1 n) (by rw [hm];intro v hv;rw [List.eq_of_mem_replicate hv];exact hz1)
  refine ⟨_,_,_,by simp only [execOp,ho,h1,h2,Sem.run_bind,hrun];rfl,g2,g1,?_⟩
  simp only [Rep]
  exact ⟨w.heap.size,by show (K.β ++ [_])[_]? = _;rw [<- hInv.lenβ];simp,rfl⟩
section
variable {N:Nat} {ops:Array Oper} {rest:List Oper} {o:Oper} {F:Nat->PV} {S S':PS} {q:WRes->Prop}
theorem wmakeB0 {t:TypeId} {x y:Operand} {n:Nat} {kx ky:IntKind} (z:Value) (hg:Al ops F o=some true) (ho:o.op = .makeSlice t x y) (hk:(Ba t&&Nat.beq (tyi t).kind 2&&Nat.beq (tyi t).ek 1)=true) (hez:(tyi t).ez=[z]) (hz1:z.oneCell'=true) (hx:evP F x = .d (.v (.int kx 0))) (hn:(tyi t).eb*n<=281474976710656) (h63:n<=9223372036854775807) (hy:evP F y = .d (.v (.int ky n))) (kk:WK Tryz.prog N ops rest (Cd N o.dst (.bsl 1 S.boxes.length 0 0 n) F) (S.addBox (List.replicate n (.d (.v z)))) q):WK Tryz.prog N ops (o::rest) F S q:=by
 simp only [Bool.and_eq_true] at hk
 exact Eo hg (Ab8 ho (Fj t hk.1.1) (Nat.eq_of_beq_eq_true hk.1.2) (Nat.eq_of_beq_eq_true hk.2) hez hz1 hx hy hn h63) kk
theorem wappB {x y:Operand} {ty:TypeId} {id n cap:Nat} {c:List PV} {dv:DV} (hg:Al ops F o=some true) (ho:o.op = .call { callee := .builtin .append,args := #[x,y],argTypes := #[ty,ty] }) (hk:(Ba ty&&Nat.beq (tyi ty).kind 2&&Nat.beq (tyi ty).ek 1)=true) (hx:evP F x = .bsl 1 id 0 n cap) (hy:evP F y = .d (.sl 1 [[dv]])) (hc:S.boxes[id]? = some c) (hn:n<cap) (hcap:cap<=c.length) (hS:S.setBox id (c.set n (.d dv))=S') (kk:WK Tryz.prog N ops rest (Cd N o.dst (.bsl 1 id 0 (n+1) cap) F) S' q):WK Tryz.prog N ops (o::rest) F S q:=by
 simp only [Bool.and_eq_true] at hk
 subst hS
 exact Eo hg (X7 ho (Fj ty hk.1.1) (Nat.eq_of_beq_eq_true hk.1.2) (Nat.eq_of_beq_eq_true hk.2) hx hy hc hn hcap) kk
theorem wslB {t:TypeId} {x:Operand} {low high:Option Operand} {id off n cap:Nat} {j h:Int} (hg:Al ops F o=some true) (ho:o.op = .slice t x low high none) (hk:(Ba t&&Nat.beq (tyi t).kind 2&&Nat.beq (tyi t).ek 1)=true) (hx:evP F x = .bsl 1 id off n cap) (hlo:loN F low=some j) (hhi:hiN F n high=some h) (h0:0<=j) (h1:j<=h) (h2:h<=n) (hcap:n<=cap) (hlt:j<cap) (kk:WK Tryz.prog N ops rest (Cd N o.dst (.bsl 1 id (off+j.toNat) (h.toNat-j.toNat) (cap-j.toNat)) F) S q):WK Tryz.prog N ops (o::rest) F S q:=by
 simp only [Bool.and_eq_true] at hk
 exact Eo hg (Ab9 ho (Fj t hk.1.1) (Nat.eq_of_beq_eq_true hk.1.2) (Nat.eq_of_beq_eq_true hk.2) hx hlo hhi h0 h1 h2 hcap hlt) kk
variable {c:Operand} {al:Array Operand} {ats:Array TypeId} {f:Nat} {caps args:List PV} {r r':PV} {bs:List (List PV)} {ch:Nat->Bool} {us:List (Nat×List Nat)} {k:Nat} {bm:Bool} {D:List Nat}
theorem bnew (hD:Aw f args ⟨[],[]⟩ (.ret r) ⟨bs,[]⟩) (hl:bs.all (PV.ltL 0 0)=true) (hr:r.ren (fun i=>S.boxes.length+i) id=r') (hA:AgK ops k us S (S.more bs)) (kk:Bw.WB Tryz.prog N ops ch (Ck us) (fun _=>[]) (k+1) rest (Cd N o.dst r' F) (S.more bs) false D q)
  (hg:Al ops F o=some true:=by exact rfl) (ho:o.op = .call { callee := .value c,args:=al,argTypes:=ats }:=by exact rfl) (hv:evP F c = .fn f caps:=by exact rfl) (hlt:PV.ltL 0 0 args=true:=by exact rfl) (ha:F7 S (al.toList.map (evP F)++caps) args:=by repeat (first|exact Ae|refine Ab (Ac _) ?_)) (hc:ch k=true:=by first|exact rfl|kernel_rfl):Bw.WB Tryz.prog N ops ch (Ck us) (fun _=>[]) k (o::rest) F S false D q:=by
 subst hr
 exact Aj7 (ops_new ho hD.1 hv hlt ha hl hD.2) kk hg hc hA
end
theorem E7 {l:List Int} {i:Nat} (h:i<l.length):(l.map B8)[((i:Nat):Int).toNat]? = some (B8 (l.getD i 0)):=by
 rw [List.getD_eq_getElem?_getD];simp [h]
theorem Hp {l:List Int} {i:Nat} (h:l.length<=i):l.getD i 0=0:=by
 rw [List.getD_eq_getElem?_getD,List.getElem?_eq_none h];rfl
@[reducible] def D7 (v:Nat) (l:List Int):PS:=⟨[],[⟨v,1,l.map B8,148⟩]⟩
def Acd (a b:List Int):List Int:=if a.length<b.length then M0 b a else M0 a b
set_option maxHeartbeats 1000000 in
theorem plus_do (a b:List Int) (ha:∀ z∈a,limbOk z) (hb:∀ z∈b,limbOk z) (hal:a.length<=1000000) (hbl:b.length<=1000000):Aw 113 [B3 a,B3 b] ⟨[],[]⟩ (.ret (B3 (Acd a b))) ⟨[],[]⟩:=by
 by_cases hc:a.length<b.length
 ·have hm:=hb
  have ho:=ha
  have hres:Acd a b=M0 b a:=if_pos hc
  refine Dl Tryz.func113 rfl rfl (Nat.le_of_ble_eq_true rfl) (fun _=>Sb ?_)
  repeat' (first|refine rl1 ?_|refine rs1 ?_ ?_<;>intro h|fail)
  ·have hlm:((b.map B8).length:Int)=b.length:=by simp
   repeat' (first|refine rl1 ?_|refine rs1 ?_ ?_<;>intro h|fail)
   refine Abd (n:=b.length+1) rfl rfl rfl rfl rfl (by show PV.d (.v (.int .i64 (_+_)))=_;rw [hlm];rfl) (by show 4*(b.length+1)<=_;omega) ?_
   repeat' (first|refine rl1 ?_|refine rs1 ?_ ?_<;>intro h|fail)
   refine Ca (ι := Nat) (ok:=fun i=>i<=b.length) (L:=fun i=>[(1,B3 a),(5,.hd 0 i),(6,.d (.v (.int .u32 (Bo b a i).2))),(21,B3 b),(22,An (b.map B8).length),(23,An i)]) (Sx:=fun i=>D7 i (Bo b a i).1) (μ := fun i=>b.length-i) 0 (Nat.zero_le _) (by exact (by repeat (first|exact Ag|refine Aa rfl ?_))) rfl ?_
   rintro i hi
   obtain ⟨hk1,hk2,hk3⟩:=Nl hm ho i
   obtain ⟨hx1,hx2⟩:=getD_ok hm i
   obtain ⟨hy1,hy2⟩:=getD_ok ho i
   repeat' (first|refine rl1 ?_|refine rs1 ?_ ?_<;>intro h|fail)
   ·have hlt:i<b.length:=by simpa using h
    refine wix (B8 (b.getD i 0)) rfl rfl rfl rfl rfl (E7 hlt) (by omega) ?_
    repeat' (first|refine rl1 ?_|refine rs1 ?_ ?_<;>intro h|fail)
    ·have hlo:i<a.length:=by simpa using h
     refine wix (B8 (a.getD i 0)) rfl rfl rfl rfl rfl (E7 hlo) (by omega) ?_
     repeat' (first|refine rl1 ?_|refine rs1 ?_ ?_<;>intro h|fail)
     refine Ww (news:=[B8 ((b.getD i 0+(Bo b a i).2+a.getD i 0) % 1000000000)]) (S':=D7 (i+1) ((Bo b a i).1++[(b.getD i 0+(Bo b a i).2+a.getD i 0) % 1000000000])) rfl rfl rfl rfl rfl rfl ?_ ?_ (by rw [D7,List.map_append];rfl) ?_
     ·rw [List.length_map,Ci];show (i+1)*4<=_;omega
     ·rw [List.length_map,Ci];show i+1<=_;omega
     repeat' (first|refine rl1 ?_|refine rs1 ?_ ?_<;>intro h|fail)
     exact ⟨i+1,hlt,by omega,(by repeat (first|exact Ag|refine Aa rfl ?_)),rfl⟩
    ·have hlo:a.length<=i:=by simpa using h
     have hz:=Hp hlo
     refine Ww (news:=[B8 ((b.getD i 0+(Bo b a i).2) % 1000000000)]) (S':=D7 (i+1) ((Bo b a i).1++[(b.getD i 0+(Bo b a i).2) % 1000000000])) rfl rfl rfl rfl rfl rfl ?_ ?_ (by rw [D7,List.map_append];rfl) ?_
     ·rw [List.length_map,Ci];show (i+1)*4<=_;omega
     ·rw [List.length_map,Ci];show i+1<=_;omega
     repeat' (first|refine rl1 ?_|refine rs1 ?_ ?_<;>intro h|fail)
     have e:b.getD i 0+(Bo b a i).2+a.getD i 0=b.getD i 0+(Bo b a i).2:=by rw [hz];omega
     refine ⟨i+1,hlt,by omega,?_,?_⟩
     ·refine Aa rfl (Aa rfl (Aa ?_ (by repeat (first|exact Ag|refine Aa rfl ?_))))
      show _=PV.d (.v (.int .u32 ((b.getD i 0+(Bo b a i).2+a.getD i 0) / 1000000000)))
      rw [e];rfl
     ·show _=D7 (i+1) ((Bo b a i).1++[(b.getD i 0+(Bo b a i).2+a.getD i 0) % 1000000000])
      rw [e]
   ·rename_i g
    obtain rfl:i=b.length:=by simp at g;omega
    have hpos:0<(Bo b a b.length).2:=by simpa using h
    refine Ww (news:=[B8 (Bo b a b.length).2]) (S':=D7 (b.length+1) ((Bo b a b.length).1++[(Bo b a b.length).2])) rfl rfl rfl rfl rfl rfl ?_ ?_ (by rw [D7,List.map_append];rfl) ?_
    ·rw [List.length_map,Ci];show (b.length+1)*4<=_;omega
    ·rw [List.length_map,Ci];show b.length+1<=_;omega
    repeat' (first|refine rl1 ?_|refine rs1 ?_ ?_<;>intro h|fail)
    rw [hres,show M0 b a=(Bo b a b.length).1++[(Bo b a b.length).2] from if_pos hpos]
    exact Zk (.inr rfl) rfl rfl (Jy (Ki (Fc rfl)))
   ·rename_i g
    obtain rfl:i=b.length:=by simp at g;omega
    have hpos:¬ 0<(Bo b a b.length).2:=by simpa using h
    rw [hres,show M0 b a=(Bo b a b.length).1 from if_neg hpos]
    exact Zk (.inr rfl) rfl rfl (Jy (Ki (Fc rfl)))
  ·exfalso;simp at h;omega
 ·have hm:=ha
  have ho:=hb
  have hres:Acd a b=M0 a b:=if_neg hc
  refine Dl Tryz.func113 rfl rfl (Nat.le_of_ble_eq_true rfl) (fun _=>Sb ?_)
  repeat' (first|refine rl1 ?_|refine rs1 ?_ ?_<;>intro h|fail)
  ·exfalso;simp at h;omega
  ·have hlm:((a.map B8).length:Int)=a.length:=by simp
   repeat' (first|refine rl1 ?_|refine rs1 ?_ ?_<;>intro h|fail)
   refine Abd (n:=a.length+1) rfl rfl rfl rfl rfl (by show PV.d (.v (.int .i64 (_+_)))=_;rw [hlm];rfl) (by show 4*(a.length+1)<=_;omega) ?_
   repeat' (first|refine rl1 ?_|refine rs1 ?_ ?_<;>intro h|fail)
   refine Ca (ι := Nat) (ok:=fun i=>i<=a.length) (L:=fun i=>[(1,B3 b),(5,.hd 0 i),(6,.d (.v (.int .u32 (Bo a b i).2))),(21,B3 a),(22,An (a.map B8).length),(23,An i)]) (Sx:=fun i=>D7 i (Bo a b i).1) (μ := fun i=>a.length-i) 0 (Nat.zero_le _) (by exact (by repeat (first|exact Ag|refine Aa rfl ?_))) rfl ?_
   rintro i hi
   obtain ⟨hk1,hk2,hk3⟩:=Nl hm ho i
   obtain ⟨hx1,hx2⟩:=getD_ok hm i
   obtain ⟨hy1,hy2⟩:=getD_ok ho i
   repeat' (first|refine rl1 ?_|refine rs1 ?_ ?_<;>intro h|fail)
   ·have hlt:i<a.length:=by simpa using h
    refine wix (B8 (a.getD i 0)) rfl rfl rfl rfl rfl (E7 hlt) (by omega) ?_
    repeat' (first|refine rl1 ?_|refine rs1 ?_ ?_<;>intro h|fail)
    ·have hlo:i<b.length:=by simpa using h
     refine wix (B8 (b.getD i 0)) rfl rfl rfl rfl rfl (E7 hlo) (by omega) ?_
     repeat' (first|refine rl1 ?_|refine rs1 ?_ ?_<;>intro h|fail)
     refine Ww (news:=[B8 ((a.getD i 0+(Bo a b i).2+b.getD i 0) % 1000000000)]) (S':=D7 (i+1) ((Bo a b i).1++[(a.getD i 0+(Bo a b i).2+b.getD i 0) % 1000000000])) rfl rfl rfl rfl rfl rfl ?_ ?_ (by rw [D7,List.map_append];rfl) ?_
     ·rw [List.length_map,Ci];show (i+1)*4<=_;omega
     ·rw [List.length_map,Ci];show i+1<=_;omega
     repeat' (first|refine rl1 ?_|refine rs1 ?_ ?_<;>intro h|fail)
     exact ⟨i+1,hlt,by omega,(by repeat (first|exact Ag|refine Aa rfl ?_)),rfl⟩
    ·have hlo:b.length<=i:=by simpa using h
     have hz:=Hp hlo
     refine Ww (news:=[B8 ((a.getD i 0+(Bo a b i).2) % 1000000000)]) (S':=D7 (i+1) ((Bo a b i).1++[(a.getD i 0+(Bo a b i).2) % 1000000000])) rfl rfl rfl rfl rfl rfl ?_ ?_ (by rw [D7,List.map_append];rfl) ?_
     ·rw [List.length_map,Ci];show (i+1)*4<=_;omega
     ·rw [List.length_map,Ci];show i+1<=_;omega
     repeat' (first|refine rl1 ?_|refine rs1 ?_ ?_<;>intro h|fail)
     have e:a.getD i 0+(Bo a b i).2+b.getD i 0=a.getD i 0+(Bo a b i).2:=by rw [hz];omega
     refine ⟨i+1,hlt,by omega,?_,?_⟩
     ·refine Aa rfl (Aa rfl (Aa ?_ (by repeat (first|exact Ag|refine Aa rfl ?_))))
      show _=PV.d (.v (.int .u32 ((a.getD i 0+(Bo a b i).2+b.getD i 0) / 1000000000)))
      rw [e];rfl
     ·show _=D7 (i+1) ((Bo a b i).1++[(a.getD i 0+(Bo a b i).2+b.getD i 0) % 1000000000])
      rw [e]
   ·rename_i g
    obtain rfl:i=a.length:=by simp at g;omega
    have hpos:0<(Bo a b a.length).2:=by simpa using h
    refine Ww (news:=[B8 (Bo a b a.length).2]) (S':=D7 (a.length+1) ((Bo a b a.length).1++[(Bo a b a.length).2])) rfl rfl rfl rfl rfl rfl ?_ ?_ (by rw [D7,List.map_append];rfl) ?_
    ·rw [List.length_map,Ci];show (a.length+1)*4<=_;omega
    ·rw [List.length_map,Ci];show a.length+1<=_;omega
    repeat' (first|refine rl1 ?_|refine rs1 ?_ ?_<;>intro h|fail)
    rw [hres,show M0 a b=(Bo a b a.length).1++[(Bo a b a.length).2] from if_pos hpos]
    exact Zk (.inr rfl) rfl rfl (Jy (Ki (Fc rfl)))
   ·rename_i g
    obtain rfl:i=a.length:=by simp at g;omega
    have hpos:¬ 0<(Bo a b a.length).2:=by simpa using h
    rw [hres,show M0 a b=(Bo a b a.length).1 from if_neg hpos]
    exact Zk (.inr rfl) rfl rfl (Jy (Ki (Fc rfl)))
def Mo (m o:List Int) (i:Nat):Int:=m.getD i 0-(minusK m o i).2-o.getD i 0
theorem Qf {m o:List Int} {i:Nat} (h:Mo m o i<0):minusK m o (i+1)=((minusK m o i).1++[Mo m o i+1000000000],1):=by
 rw [minusK];unfold Mo at h |-;rw [if_pos h,if_pos h]
theorem Qg {m o:List Int} {i:Nat} (h:¬ Mo m o i<0):minusK m o (i+1)=((minusK m o i).1++[Mo m o i],0):=by
 rw [minusK];unfold Mo at h |-;rw [if_neg h,if_neg h]
set_option maxHeartbeats 1000000 in
theorem Z5 (m o:List Int) (hm:∀ z∈m,limbOk z) (ho:∀ z∈o,limbOk z) (hml:m.length<=1000000):Aw 115 [B3 m,B3 o] ⟨[],[]⟩ (.ret (B3 (minusL m o))) ⟨[],[]⟩:=by
 refine Dl Tryz.func115 rfl rfl (Nat.le_of_ble_eq_true rfl) (fun _=>Sb ?_)
 have hlm:((m.map B8).length:Int)=m.length:=by simp
 repeat' (first|refine rl1 ?_|refine rs1 ?_ ?_<;>intro h|fail)
 refine Abd (n:=m.length) rfl rfl rfl rfl rfl (by show PV.d (.v (.int .i64 _))=_;rw [hlm]) (by show 4*m.length<=_;omega) ?_
 repeat' (first|refine rl1 ?_|refine rs1 ?_ ?_<;>intro h|fail)
 refine Ca (ι := Nat) (ok:=fun i=>i<=m.length) (L:=fun i=>[(1,B3 o),(5,.hd 0 i),(6,.d (.v (.int .i64 (minusK m o i).2))),(13,B3 m),(14,An (m.map B8).length),(15,An i)]) (Sx:=fun i=>D7 i (minusK m o i).1) (μ := fun i=>m.length-i) 0 (Nat.zero_le _) (by exact (by repeat (first|exact Ag|refine Aa rfl ?_))) rfl ?_
 rintro i hi
 obtain ⟨hk1,hk2,hk3⟩:=minusK_ok hm ho i
 obtain ⟨hx1,hx2⟩:=getD_ok hm i
 obtain ⟨hy1,hy2⟩:=getD_ok ho i
 repeat' (first|refine rl1 ?_|refine rs1 ?_ ?_<;>intro h|fail)
 ·have hlt:i<m.length:=by simpa using h
  refine wix (B8 (m.getD i 0)) rfl rfl rfl rfl rfl (E7 hlt) (by omega) ?_
  repeat' (first|refine rl1 ?_|refine rs1 ?_ ?_<;>intro h|fail)
  refine J9 (.d (.v (.int .i64 (m.getD i 0)))) rfl rfl rfl ⟨by show (-9223372036854775808:Int)<=_;omega,by show _<=(9223372036854775807:Int);omega⟩ ?_
  repeat' (first|refine rl1 ?_|refine rs1 ?_ ?_<;>intro h|fail)
  ·have hlo:i<o.length:=by simpa using h
   refine wix (B8 (o.getD i 0)) rfl rfl rfl rfl rfl (E7 hlo) (by omega) ?_
   repeat' (first|refine rl1 ?_|refine rs1 ?_ ?_<;>intro h|fail)
   refine J9 (.d (.v (.int .i64 (o.getD i 0)))) rfl rfl rfl ⟨by show (-9223372036854775808:Int)<=_;omega,by show _<=(9223372036854775807:Int);omega⟩ ?_
   repeat' (first|refine rl1 ?_|refine rs1 ?_ ?_<;>intro h|fail)
   ·have hneg:Mo m o i<0:=by have h':=of_decide_eq_true h;unfold Mo;omega
    have hk:=Qf hneg
    refine wst rfl rfl ⟨by show (0:Int)<=_;unfold Mo at hneg;omega,by show _<=(4294967295:Int);unfold Mo at hneg;omega⟩ ?_
    repeat' (first|refine rl1 ?_|refine rs1 ?_ ?_<;>intro h|fail)
    refine Ww (news:=[B8 ((m.getD i 0-(minusK m o i).2-o.getD i 0)+1000000000)]) (S':=D7 (i+1) ((minusK m o i).1++[((m.getD i 0-(minusK m o i).2-o.getD i 0)+1000000000)])) rfl rfl rfl rfl rfl rfl ?_ ?_ (by rw [D7,List.map_append];rfl) ?_
    ·rw [List.length_map,minusK_len];show (i+1)*4<=_;omega
    ·rw [List.length_map,minusK_len];show i+1<=_;omega
    repeat' (first|refine rl1 ?_|refine rs1 ?_ ?_<;>intro h|fail)
    refine ⟨i+1,hlt,by omega,?_,?_⟩
    ·refine Aa rfl (Aa rfl (Aa ?_ (by repeat (first|exact Ag|refine Aa rfl ?_))))
     rw [hk];rfl
    ·rw [hk];unfold Mo;rfl
   ·have hpos:¬ Mo m o i<0:=by have h':=of_decide_eq_false h;unfold Mo;omega
    have hk:=Qg hpos
    refine wst rfl rfl ⟨by show (0:Int)<=_;unfold Mo at hpos;omega,by show _<=(4294967295:Int);unfold Mo at hpos;omega⟩ ?_
    repeat' (first|refine rl1 ?_|refine rs1 ?_ ?_<;>intro h|fail)
    refine Ww (news:=[B8 (m.getD i 0-(minusK m o i).2-o.getD i 0)]) (S':=D7 (i+1) ((minusK m o i).1++[(m.getD i 0-(minusK m o i).2-o.getD i 0)])) rfl rfl rfl rfl rfl rfl ?_ ?_ (by rw [D7,List.map_append];rfl) ?_
    ·rw [List.length_map,minusK_len];show (i+1)*4<=_;omega
    ·rw [List.length_map,minusK_len];show i+1<=_;omega
    repeat' (first|refine rl1 ?_|refine rs1 ?_ ?_<;>intro h|fail)
    refine ⟨i+1,hlt,by omega,?_,?_⟩
    ·refine Aa rfl (Aa rfl (Aa ?_ (by repeat (first|exact Ag|refine Aa rfl ?_))))
     rw [hk];rfl
    ·rw [hk];unfold Mo;rfl
  ·rename_i g
   have hlo:o.length<=i:=by simpa using g
   have hz:=Hp hlo
   have hneg:Mo m o i<0:=by have h':=of_decide_eq_true h;unfold Mo;omega
   have hk:=Qf hneg
   refine wst rfl rfl ⟨by show (0:Int)<=_;unfold Mo at hneg;omega,by show _<=(4294967295:Int);unfold Mo at hneg;omega⟩ ?_
   repeat' (first|refine rl1 ?_|refine rs1 ?_ ?_<;>intro h|fail)
   refine Ww (news:=[B8 ((m.getD i 0-(minusK m o i).2)+1000000000)]) (S':=D7 (i+1) ((minusK m o i).1++[((m.getD i 0-(minusK m o i).2)+1000000000)])) rfl rfl rfl rfl rfl rfl ?_ ?_ (by rw [D7,List.map_append];rfl) ?_
   ·rw [List.length_map,minusK_len];show (i+1)*4<=_;omega
   ·rw [List.length_map,minusK_len];show i+1<=_;omega
   repeat' (first|refine rl1 ?_|refine rs1 ?_ ?_<;>intro h|fail)
   refine ⟨i+1,hlt,by omega,?_,?_⟩
   ·refine Aa rfl (Aa rfl (Aa ?_ (by repeat (first|exact Ag|refine Aa rfl ?_))))
    rw [hk];rfl
   ·rw [hk];unfold Mo;(rw [hz,Int.sub_zero])
  ·rename_i g
   have hlo:o.length<=i:=by simpa using g
   have hz:=Hp hlo
   have hpos:¬ Mo m o i<0:=by have h':=of_decide_eq_false h;unfold Mo;omega
   have hk:=Qg hpos
   refine wst rfl rfl ⟨by show (0:Int)<=_;unfold Mo at hpos;omega,by show _<=(4294967295:Int);unfold Mo at hpos;omega⟩ ?_
   repeat' (first|refine rl1 ?_|refine rs1 ?_ ?_<;>intro h|fail)
   refine Ww (news:=[B8 (m.getD i 0-(minusK m o i).2)]) (S':=D7 (i+1) ((minusK m o i).1++[(m.getD i 0-(minusK m o i).2)])) rfl rfl rfl rfl rfl rfl ?_ ?_ (by rw [D7,List.map_append];rfl) ?_
   ·rw [List.length_map,minusK_len];show (i+1)*4<=_;omega
   ·rw [List.length_map,minusK_len];show i+1<=_;omega
   repeat' (first|refine rl1 ?_|refine rs1 ?_ ?_<;>intro h|fail)
   refine ⟨i+1,hlt,by omega,?_,?_⟩
   ·refine Aa rfl (Aa rfl (Aa ?_ (by repeat (first|exact Ag|refine Aa rfl ?_))))
    rw [hk];rfl
   ·rw [hk];unfold Mo;(rw [hz,Int.sub_zero])
 ·obtain rfl:i=m.length:=by simp at h;omega
  repeat' (first|refine rl1 ?_|refine rs1 ?_ ?_<;>intro h|fail)
  exact Zk (.inr rfl) rfl rfl (Jy (Ki (Fc rfl)))
set_option maxHeartbeats 1000000 in
theorem Ahf (m:List Int) (b:Int) (hm:∀ z∈m,limbOk z) (hb:limbOk b) (hml:m.length<=1000000):Aw 177 [B3 m,.d (.v (.int .u32 b))] ⟨[],[]⟩ (.ret (B3 (D1 m b))) ⟨[],[]⟩:=by
 refine Dl Tryz.func177 rfl rfl (Nat.le_of_ble_eq_true rfl) (fun _=>Sb ?_)
 have hlm:((m.map B8).length:Int)=m.length:=by simp
 repeat' (first|refine rl1 ?_|refine rs1 ?_ ?_<;>intro h|fail)
 refine Abd (n:=m.length+1) rfl rfl rfl rfl rfl (by show PV.d (.v (.int .i64 (_+_)))=_;rw [hlm];rfl) (by show 4*(m.length+1)<=_;omega) ?_
 repeat' (first|refine rl1 ?_|refine rs1 ?_ ?_<;>intro h|fail)
 refine Ca (ι := Nat) (ok:=fun i=>i<=m.length) (L:=fun i=>[(1,.d (.v (.int .u32 b))),(5,.hd 0 i),(6,.d (.v (.int .u64 (Dh b m i).2))),(14,B3 m),(15,An (m.map B8).length),(16,An i)]) (Sx:=fun i=>D7 i (Dh b m i).1) (μ := fun i=>m.length-i) 0 (Nat.zero_le _) (by exact (by repeat (first|exact Ag|refine Aa rfl ?_))) rfl ?_
 rintro i hi
 obtain ⟨hk1,hk2,hk3⟩:=Np hb hm i
 have hx:=getD_ok hm i
 obtain ⟨hn1,hn2,hn3⟩:=Ip hx hb ⟨hk2,hk3⟩
 obtain ⟨hx1,hx2⟩:=hx
 have hb':=hb
 obtain ⟨hb1,hb2⟩:=hb'
 have hp1:0<=m.getD i 0*b:=Int.mul_nonneg hx1 hb1
 repeat' (first|refine rl1 ?_|refine rs1 ?_ ?_<;>intro h|fail)
 ·have hlt:i<m.length:=by simpa using h
  refine wix (B8 (m.getD i 0)) rfl rfl rfl rfl rfl (E7 hlt) (by omega) ?_
  repeat' (first|refine rl1 ?_|refine rs1 ?_ ?_<;>intro h|fail)
  refine J9 (.d (.v (.int .u64 (m.getD i 0)))) rfl rfl rfl ⟨by show (0:Int)<=_;omega,by show _<=(18446744073709551615:Int);omega⟩ ?_
  repeat' (first|refine rl1 ?_|refine rs1 ?_ ?_<;>intro h|fail)
  refine J9 (.d (.v (.int .u64 (b)))) rfl rfl rfl ⟨by show (0:Int)<=_;omega,by show _<=(18446744073709551615:Int);omega⟩ ?_
  repeat' (first|refine rl1 ?_|refine rs1 ?_ ?_<;>intro h|fail)
  refine J9 (.d (.v (.int .u32 ((m.getD i 0*b+(Dh b m i).2) % 1000000000)))) rfl rfl rfl ⟨by show (0:Int)<=_;omega,by show _<=(4294967295:Int);omega⟩ ?_
  repeat' (first|refine rl1 ?_|refine rs1 ?_ ?_<;>intro h|fail)
  refine Ww (news:=[B8 ((m.getD i 0*b+(Dh b m i).2) % 1000000000)]) (S':=D7 (i+1) ((Dh b m i).1++[(m.getD i 0*b+(Dh b m i).2) % 1000000000])) rfl rfl rfl rfl rfl rfl ?_ ?_ (by rw [D7,List.map_append];rfl) ?_
  ·rw [List.length_map,Ei];show (i+1)*4<=_;omega
  ·rw [List.length_map,Ei];show i+1<=_;omega
  repeat' (first|refine rl1 ?_|refine rs1 ?_ ?_<;>intro h|fail)
  exact ⟨i+1,hlt,by omega,(by repeat (first|exact Ag|refine Aa rfl ?_)),rfl⟩
 ·obtain rfl:i=m.length:=by simp at h;omega
  repeat' (first|refine rl1 ?_|refine rs1 ?_ ?_<;>intro h|fail)
  refine J9 (.d (.v (.int .u32 ((Dh b m m.length).2)))) rfl rfl rfl ⟨by show (0:Int)<=_;omega,by show _<=(4294967295:Int);omega⟩ ?_
  repeat' (first|refine rl1 ?_|refine rs1 ?_ ?_<;>intro h|fail)
  refine Ww (news:=[B8 (Dh b m m.length).2]) (S':=D7 (m.length+1) ((Dh b m m.length).1++[(Dh b m m.length).2])) rfl rfl rfl rfl rfl rfl ?_ ?_ (by rw [D7,List.map_append];rfl) ?_
  ·rw [List.length_map,Ei];show (m.length+1)*4<=_;omega
  ·rw [List.length_map,Ei];show m.length+1<=_;omega
  repeat' (first|refine rl1 ?_|refine rs1 ?_ ?_<;>intro h|fail)
  exact Zk (.inr rfl) rfl rfl (Jy (Ki (Fc rfl)))
def Po (l:List Int) (k:Nat):List PV:=Dw (l++List.replicate k 0)
theorem fill_set (l:List Int) (k:Nat) (x:Int):(Po l (k+1)).set l.length (.d (.v (.int .u32 x)))=Po (l++[x]) k:=by
 unfold Po Dw
 rw [List.map_append,List.set_append_right _ _ (by simp),List.length_map,Nat.sub_self,List.replicate_succ,List.map_cons,List.set_cons_zero,List.append_assoc,List.map_append]
 rfl
theorem Zj (l:List Int) (k:Nat):(Po l k).length=l.length+k:=by simp [Po,Dw]
@[reducible] def boxL (c:List PV):PS:=⟨[c],[]⟩
set_option maxHeartbeats 1000000 in
theorem Acn (m:List Int) (b:Int) (hm:∀ z∈m,limbOk z) (hb:limbOk b) (hml:m.length<=1000000):Aw 177 [B3 m,.d (.v (.int .u32 b))] ⟨[],[]⟩ (.ret (.bsl 1 0 0 (m.length+1) (m.length+1))) ⟨[Dw (D1 m b)],[]⟩:=by
 refine ⟨enters_of Tryz.func177 rfl rfl,Nb Tryz.func177 rfl (Nat.le_of_ble_eq_true rfl) ?_⟩
 have hlm:((m.map B8).length:Int)=m.length:=by simp
 repeat' (first|refine rl1 ?_|refine rs1 ?_ ?_<;>intro h|fail)
 refine wmakeB0 (n:=m.length+1) (.int .u32 0) rfl rfl rfl rfl rfl rfl (by show 4*(m.length+1)<=_;omega) (by omega) (by show PV.d (.v (.int .i64 (_+_)))=_;rw [hlm];rfl) ?_
 repeat' (first|refine rl1 ?_|refine rs1 ?_ ?_<;>intro h|fail)
 refine Ca (ι := Nat) (ok:=fun i=>i<=m.length) (L:=fun i=>[(1,.d (.v (.int .u32 b))),(5,.bsl 1 0 0 i (m.length+1)),(6,.d (.v (.int .u64 (Dh b m i).2))),(14,B3 m),(15,An (m.map B8).length),(16,An i)]) (Sx:=fun i=>boxL (Po (Dh b m i).1 (m.length+1-i))) (μ := fun i=>m.length-i) 0 (Nat.zero_le _) (by exact (by repeat (first|exact Ag|refine Aa rfl ?_))) ?_ ?_
 ·simp [boxL,PS.addBox,Po,Dw,Dh]
 rintro i hi
 obtain ⟨hk1,hk2,hk3⟩:=Np hb hm i
 have hkl:(Dh b m i).1.length=i:=Ei b m i
 have hx:=getD_ok hm i
 obtain ⟨hn1,hn2,hn3⟩:=Ip hx hb ⟨hk2,hk3⟩
 obtain ⟨hx1,hx2⟩:=hx
 have hb':=hb
 obtain ⟨hb1,hb2⟩:=hb'
 have hp1:0<=m.getD i 0*b:=Int.mul_nonneg hx1 hb1
 have hset:∀ x,(Po (Dh b m i).1 (m.length+1-i)).set i (.d (.v (.int .u32 x)))=Po ((Dh b m i).1++[x]) (m.length-i):=fun x=>by
  rw [show m.length+1-i=(m.length-i)+1 by omega]
  have:=fill_set (Dh b m i).1 (m.length-i) x
  rwa [hkl] at this
 repeat' (first|refine rl1 ?_|refine rs1 ?_ ?_<;>intro h|fail)
 ·have hlt:i<m.length:=by simpa using h
  refine wix (B8 (m.getD i 0)) rfl rfl rfl rfl rfl (E7 hlt) (by omega) ?_
  repeat' (first|refine rl1 ?_|refine rs1 ?_ ?_<;>intro h|fail)
  refine J9 (.d (.v (.int .u64 (m.getD i 0)))) rfl rfl rfl ⟨by show (0:Int)<=_;omega,by show _<=(18446744073709551615:Int);omega⟩ ?_
  repeat' (first|refine rl1 ?_|refine rs1 ?_ ?_<;>intro h|fail)
  refine J9 (.d (.v (.int .u64 (b)))) rfl rfl rfl ⟨by show (0:Int)<=_;omega,by show _<=(18446744073709551615:Int);omega⟩ ?_
  repeat' (first|refine rl1 ?_|refine rs1 ?_ ?_<;>intro h|fail)
  refine J9 (.d (.v (.int .u32 ((m.getD i 0*b+(Dh b m i).2) % 1000000000)))) rfl rfl rfl ⟨by show (0:Int)<=_;omega,by show _<=(4294967295:Int);omega⟩ ?_
  repeat' (first|refine rl1 ?_|refine rs1 ?_ ?_<;>intro h|fail)
  refine wappB rfl rfl rfl rfl rfl rfl (by omega) (by rw [Zj,hkl];omega) (by rw [PS.setBox,hset]) ?_
  repeat' (first|refine rl1 ?_|refine rs1 ?_ ?_<;>intro h|fail)
  refine ⟨i+1,hlt,by omega,(by repeat (first|exact Ag|refine Aa rfl ?_)),?_⟩
  rw [show m.length+1-(i+1)=m.length-i by omega]
  rfl
 ·obtain rfl:i=m.length:=by simp at h;omega
  repeat' (first|refine rl1 ?_|refine rs1 ?_ ?_<;>intro h|fail)
  refine J9 (.d (.v (.int .u32 ((Dh b m m.length).2)))) rfl rfl rfl ⟨by show (0:Int)<=_;omega,by show _<=(4294967295:Int);omega⟩ ?_
  repeat' (first|refine rl1 ?_|refine rs1 ?_ ?_<;>intro h|fail)
  refine wappB rfl rfl rfl rfl rfl rfl (by omega) (by rw [Zj,hkl];omega) (by rw [PS.setBox,hset]) ?_
  repeat' (first|refine rl1 ?_|refine rs1 ?_ ?_<;>intro h|fail)
  refine ⟨.inr rfl,?_,_,B5 rfl,rfl⟩
  simp [D1,Po,Dw]
def As (u o:List Int) (t:Int):Nat->List Int×Int×Int
 |0=>(u,0,0)
 |k+1=>((As u o t k).1.set k (if (As u o t k).1.getD k 0-((As u o t k).2.1+t*o.getD k 0) % 1000000000-(As u o t k).2.2<0 then (As u o t k).1.getD k 0-((As u o t k).2.1+t*o.getD k 0) % 1000000000-(As u o t k).2.2+1000000000 else (As u o t k).1.getD k 0-((As u o t k).2.1+t*o.getD k 0) % 1000000000-(As u o t k).2.2),
   ((As u o t k).2.1+t*o.getD k 0) / 1000000000,if (As u o t k).1.getD k 0-((As u o t k).2.1+t*o.getD k 0) % 1000000000-(As u o t k).2.2<0 then 1 else 0)
theorem Ch (u o:List Int) (t:Int):∀ k,(As u o t k).1.length=u.length
 |0=>rfl
 |k+1=>by simp [As,Ch u o t k]
theorem Ym {l:List Int} {i:Nat} {v:Int} (h:∀ z∈l,limbOk z) (hv:limbOk v):∀ z∈l.set i v,limbOk z:=fun x hx=>by
 rcases List.mem_or_eq_of_mem_set hx with h1|rfl
 ·exact h x h1
 ·exact hv
theorem Jd {u o:List Int} {t:Int} (hu:∀ z∈u,limbOk z) (ho:∀ z∈o,limbOk z) (ht:limbOk t):∀ k,(∀ z∈(As u o t k).1,limbOk z)/\limbOk (As u o t k).2.1/\0<=(As u o t k).2.2/\(As u o t k).2.2<=1
 |0=>⟨hu,by simp [As,limbOk],by simp [As],by simp [As]⟩
 |k+1=>by
  obtain ⟨h1,h2,h3,h4⟩:=Jd hu ho ht k
  have h5:=Ip ht (getD_ok ho k) h2
  obtain ⟨h6,h7⟩:=getD_ok h1 k
  simp only [As]
  rw [Int.add_comm] at h5
  have h8:=Int.emod_nonneg ((As u o t k).2.1+t*o.getD k 0) (b:=1000000000) (by decide)
  have h9:=Int.emod_lt_of_pos ((As u o t k).2.1+t*o.getD k 0) (b:=1000000000) (by decide)
  refine ⟨Ym h1 ?_,?_,by split<;>omega,by split<;>omega⟩
  ·unfold limbOk;split<;>omega
  ·unfold limbOk;omega
theorem Qd (u o:List Int) (t:Int):∀ (k j:Nat),k<=j->(As u o t k).1.getD j 0=u.getD j 0
 |0,_,_=>rfl
 |k+1,j,h=>by rw [As,Kp (by omega),Qd u o t k j (by omega)]
theorem U9 {u o:List Int} {t:Int}:∀ k,k<=u.length->valL (As u o t k).1=valL u-t*valL (o.take k)+1000000000 ^ k*((As u o t k).2.1+(As u o t k).2.2)
 |0,_=>by simp [As,valL]
 |k+1,hk=>by
  have h:=U9 (u:=u) (o:=o) (t:=t) k (by omega)
  have hd:=Int.mul_ediv_add_emod ((As u o t k).2.1+t*o.getD k 0) 1000000000
  rw [As,H0 (by rw [Ch];omega),Bc,Int.pow_succ]
  simp only []
  split<;>grind
theorem Im {l:List Int} (h:∀ z∈l,limbOk z) {n:Nat} (hv:valL l<1000000000 ^ n):∀ j,n<=j->l.getD j 0=0:=by
 induction l generalizing n with
 |nil=>intro j _;simp
 |cons x r ih =>
  intro j hj
  have hr:=A1 (l:=r) fun z hz=>h z (List.mem_cons_of_mem _ hz)
  obtain ⟨h1,h2⟩:=h x List.mem_cons_self
  cases n with
  |zero =>
   simp only [valL,Int.pow_zero] at hv
   cases j with
   |zero=>simp;omega
   |succ j=>rw [List.getD_cons_succ];exact ih (fun z hz=>h z (List.mem_cons_of_mem _ hz)) (n:=0) (by simp;omega) j (Nat.zero_le _)
  |succ n =>
   cases j with
   |zero=>omega
   |succ j =>
    rw [List.getD_cons_succ]
    refine ih (fun z hz=>h z (List.mem_cons_of_mem _ hz)) (n:=n) ?_ j (by omega)
    simp only [valL,Int.pow_succ] at hv
    omega
theorem Nt {l:List Int}:∀ {n:Nat},(∀ j,n<=j->l.getD j 0=0)->valL l=valL (l.take n):=by
 induction l with
 |nil=>intro n _;simp
 |cons x r ih =>
  intro n h
  cases n with
  |zero =>
   have h0:=h 0 (Nat.zero_le _)
   simp only [List.getD_cons_zero] at h0
   have:=ih (n:=0) fun j _=>by have:=h (j+1) (Nat.zero_le _);rwa [List.getD_cons_succ] at this
   simp only [List.take_zero,valL] at this |-;rw [this,h0];simp
  |succ n =>
   have:=ih (n:=n) fun j hj=>by have:=h (j+1) (by omega);rwa [List.getD_cons_succ] at this
   rw [List.take_succ_cons,valL,valL,this]
theorem Nu {l:List Int} (hl:∀ z∈l,limbOk z) {n:Nat} (h:∀ j,n<=j->l.getD j 0=0):valL l<1000000000 ^ n:=by
 rw [Nt h]
 refine Int.lt_of_lt_of_le (Cn fun z hz=>hl z (List.mem_of_mem_take hz)) (Gv ?_)
 rw [List.length_take];omega
def Dm (u o:List Int) (t:Int):List Int:=(As u o t (o.length+1)).1
def Ku (u o:List Int) (t:Int):Bool:=decide (0<(As u o t (o.length+1)).2.2)
theorem Afn {u o:List Int} {t:Int} (hu:∀ z∈u,limbOk z) (ho:∀ z∈o,limbOk z) (ht:limbOk t) (hl:o.length<u.length) (hz:∀ j,o.length+1<=j->u.getD j 0=0) :
  (Dm u o t).length=u.length/\(∀ z∈Dm u o t,limbOk z)/\valL (Dm u o t)<1000000000 ^ (o.length+1) /\
   ((Ku u o t=true/\valL (Dm u o t)=valL u-t*valL o+1000000000 ^ (o.length+1))\/(Ku u o t=false/\valL (Dm u o t)=valL u-t*valL o)):=by
 have hv:=U9 (u:=u) (o:=o) (t:=t) (o.length+1) (by omega)
 obtain ⟨h1,h2,h3,h4⟩:=Jd hu ho ht (o.length+1)
 have hc:(As u o t (o.length+1)).2.1=0:=by
  obtain ⟨_,⟨h5,h6⟩,_⟩:=Jd hu ho ht o.length
  simp only [As]
  rw [show o.getD o.length 0=0 by simp,Int.mul_zero,Int.add_zero];omega
 rw [hc,List.take_of_length_le (by omega),Int.zero_add] at hv
 refine ⟨Ch _ _ _ _,h1,Nu h1 fun j hj=>by rw [Qd _ _ _ _ _ hj];exact hz j hj,?_⟩
 unfold Ku Dm
 rcases (show (As u o t (o.length+1)).2.2=0\/(As u o t (o.length+1)).2.2=1 by omega) with e|e
 ·right;rw [e] at hv |-;exact ⟨rfl,by rw [hv];simp⟩
 ·left;rw [e] at hv |-;exact ⟨rfl,by rw [hv];simp⟩
def B0 (u o:List Int):Nat->List Int×Int
 |0=>(u,0)
 |k+1=>((B0 u o k).1.set k (((B0 u o k).1.getD k 0+(B0 u o k).2+o.getD k 0) % 1000000000),((B0 u o k).1.getD k 0+(B0 u o k).2+o.getD k 0) / 1000000000)
theorem G2 (u o:List Int):∀ k,(B0 u o k).1.length=u.length
 |0=>rfl
 |k+1=>by simp [B0,G2 u o k]
theorem Rj {u o:List Int} (hu:∀ z∈u,limbOk z) (ho:∀ z∈o,limbOk z):∀ k,(∀ z∈(B0 u o k).1,limbOk z)/\0<=(B0 u o k).2/\(B0 u o k).2<=1
 |0=>⟨hu,by simp [B0],by simp [B0]⟩
 |k+1=>by
  obtain ⟨h1,h3,h4⟩:=Rj hu ho k
  obtain ⟨h6,h7⟩:=getD_ok h1 k
  obtain ⟨h8,h9⟩:=getD_ok ho k
  simp only [B0]
  refine ⟨Ym h1 ?_,by omega,by omega⟩
  unfold limbOk;omega
theorem P8 (u o:List Int):∀ (k j:Nat),k<=j->(B0 u o k).1.getD j 0=u.getD j 0
 |0,_,_=>rfl
 |k+1,j,h=>by rw [B0,Kp (by omega),P8 u o k j (by omega)]
theorem Uq {u o:List Int}:∀ k,k<=u.length->valL (B0 u o k).1=valL u+valL (o.take k)-1000000000 ^ k*(B0 u o k).2
 |0,_=>by simp [B0,valL]
 |k+1,hk=>by
  have h:=Uq (u:=u) (o:=o) k (by omega)
  have hd:=Int.mul_ediv_add_emod ((B0 u o k).1.getD k 0+(B0 u o k).2+o.getD k 0) 1000000000
  rw [B0,H0 (by rw [G2];omega),Bc,Int.pow_succ]
  simp only []
  grind
def Il (u o:List Int):List Int:=(B0 u o (o.length+1)).1
theorem Ae6 {u o:List Int} (hu:∀ z∈u,limbOk z) (ho:∀ z∈o,limbOk z) (hl:o.length<u.length) (hz:∀ j,o.length+1<=j->u.getD j 0=0) :
  (Il u o).length=u.length/\(∀ z∈Il u o,limbOk z)/\valL (Il u o)<1000000000 ^ (o.length+1)/\(valL (Il u o)=valL u+valL o\/valL (Il u o)=valL u+valL o-1000000000 ^ (o.length+1)):=by
 have hv:=Uq (u:=u) (o:=o) (o.length+1) (by omega)
 obtain ⟨h1,h3,h4⟩:=Rj hu ho (o.length+1)
 rw [List.take_of_length_le (by omega)] at hv
 refine ⟨G2 _ _ _,h1,Nu h1 fun j hj=>by rw [P8 _ _ _ _ hj];exact hz j hj,?_⟩
 unfold Il
 rcases (show (B0 u o (o.length+1)).2=0\/(B0 u o (o.length+1)).2=1 by omega) with e|e
 ·left;rw [e] at hv;rw [hv];simp
 ·right;rw [e] at hv;rw [hv];simp
theorem Aek {u o:List Int} {g:Int} (hu:∀ z∈u,limbOk z) (ho:∀ z∈o,limbOk z) (hg:limbOk g) (hl:o.length<u.length) (hD:valL u<1000000000*valL o) (h1:valL u<(g+1)*valL o) (h2:(g-1)*valL o<=valL u) :
  let r:=if Ku u o g=true then (g-1,Il (Dm u o g) o) else (g,Dm u o g)
  limbOk r.1/\r.2.length=u.length/\(∀ z∈r.2,limbOk z)/\valL r.2=valL u-r.1*valL o/\valL r.2<valL o/\(Ku u o g=true->1<=g):=by
 have hV:=Cn ho
 have hB:valL u<1000000000 ^ (o.length+1):=by rw [Int.pow_succ];omega
 have hz:=Im hu hB
 obtain ⟨a1,a2,a3,a4⟩:=Afn hu ho hg hl hz
 have a5:=A1 a2
 obtain ⟨b1,b2,b3,b4⟩:=Ae6 a2 ho (by rw [a1];exact hl) (Im a2 a3)
 have b5:=A1 b2
 have hV0:=A1 ho
 have hu0:=A1 hu
 obtain ⟨g1,g2⟩:=hg
 intro r
 rcases a4 with ⟨e,hv⟩|⟨e,hv⟩
 ·have hlt:valL u<g*valL o:=by omega
  have hg1:1<=g:=by
   by_cases h0:g=0
   ·subst h0;omega
   ·omega
  have er:r=(g-1,Il (Dm u o g) o):=if_pos e
  rw [er]
  have hv':valL (Il (Dm u o g) o)=valL u-(g-1)*valL o:=by
   rw [Int.sub_mul,Int.one_mul] at h2 |-
   rcases b4 with h|h
   ·exfalso;omega
   ·omega
  refine ⟨⟨by omega,by omega⟩,by rw [b1,a1],b2,hv',?_,fun _=>hg1⟩
  rw [hv',Int.sub_mul,Int.one_mul];omega
 ·have er:r=(g,Dm u o g):=if_neg (by rw [e];simp)
  rw [er]
  refine ⟨⟨g1,g2⟩,a1,a2,hv,?_,fun h=>by rw [e] at h;cases h⟩
  rw [hv];rw [Int.add_mul,Int.one_mul] at h1;omega
theorem Qz (l:List Int) (n:Nat):valL l=valL (l.take n)+1000000000 ^ n*valL (l.drop n):=by
 by_cases h:n<=l.length
 ·have:=valL_append (l.take n) (l.drop n)
  rw [List.take_append_drop,List.length_take,Nat.min_eq_left h] at this;exact this
 ·rw [List.take_of_length_le (by omega),List.drop_of_length_le (by omega)];simp [valL]
theorem Od {D V top a3 b1 b2 P ld lv g:Int} (hP:0<P) (hV:V=(b1*1000000000+b2)*P+lv) (hDe:D=(top*1000000000+a3)*P+ld) (hlv:0<=lv) (hld:ld<P) (ha:a3<1000000000) (hb2:0<=b2) (hb1:0<b1)
  (hg:g=999999999/\D<1000000000*V\/g=top / b1) (hg0:0<=g):D<(g+1)*V:=by
 rcases hg with ⟨rfl,h⟩|rfl
 ·exact h
 ·have h1:top+1<=(top / b1+1)*b1:=by
   have:=Int.lt_mul_ediv_self_add (x:=top) hb1
   rw [Int.add_mul,Int.one_mul,Int.mul_comm];omega
  have h2:(top+1)*(1000000000*P)<=(top / b1+1)*b1*(1000000000*P):=Int.mul_le_mul_of_nonneg_right h1 (by omega)
  have h3:0<=(top / b1+1)*(b2*P+lv):=Int.mul_nonneg (by omega) (Int.add_nonneg (Int.mul_nonneg hb2 (by omega)) hlv)
  have h4:(a3+1)*P<=1000000000*P:=Int.mul_le_mul_of_nonneg_right (by omega) (by omega)
  have e1:(top / b1+1)*V=(top / b1+1)*b1*(1000000000*P)+(top / b1+1)*(b2*P+lv):=by rw [hV];grind
  have e2:(top+1)*(1000000000*P)=(top*1000000000)*P+1000000000*P:=by grind
  have e3:(top*1000000000+a3)*P=(top*1000000000)*P+a3*P:=by grind
  have e4:(a3+1)*P=a3*P+P:=by grind
  omega
theorem Abv {D V top a3 b1 b2 P ld lv g:Int} (hP:0<P) (hV:V=(b1*1000000000+b2)*P+lv) (hDe:D=(top*1000000000+a3)*P+ld) (hlv:0<=lv) (hld:ld<P) (hg0:0<=g)
  (h:(top-g*b1)*1000000000+a3<g*b2):D<g*V:=by
 have h1:(top*1000000000+a3+1)*P<=(g*(b1*1000000000+b2))*P:=Int.mul_le_mul_of_nonneg_right (by grind) (by omega)
 have h2:=Int.mul_nonneg hg0 hlv
 have e1:g*V=(g*(b1*1000000000+b2))*P+g*lv:=by rw [hV];grind
 have e2:(top*1000000000+a3+1)*P=(top*1000000000+a3)*P+P:=by grind
 omega
theorem Qa {D V top a3 b1 b2 P ld lv g:Int} (hP:0<P) (hV:V=(b1*1000000000+b2)*P+lv) (hDe:D=(top*1000000000+a3)*P+ld) (hlv0:0<=lv) (hlv:lv<P) (hld:0<=ld) (ha:0<=a3) (hb2:0<=b2) (hb2':b2<1000000000) (hb1:0<b1) (hg0:0<=g) (hg1:g<=999999999)
  (h:g*b2<=(top-g*b1)*1000000000+a3\/1000000000<=top-g*b1):(g-1)*V<=D:=by
 have hV0:1000000000*P<=V:=by
  have:1*(1000000000*P)<=b1*(1000000000*P):=Int.mul_le_mul_of_nonneg_right hb1 (by omega)
  have h2:0<=b2*P:=Int.mul_nonneg hb2 (by omega)
  have e:V=b1*(1000000000*P)+b2*P+lv:=by rw [hV];grind
  omega
 rcases h with h|h
 ·have h1:(g*(b1*1000000000+b2))*P<=(top*1000000000+a3)*P:=Int.mul_le_mul_of_nonneg_right (by grind) (by omega)
  have h2:g*lv<=999999999*P:=Int.mul_le_mul hg1 (by omega) hlv0 (by decide)
  have e1:(g-1)*V=(g*(b1*1000000000+b2))*P+g*lv-V:=by rw [Int.sub_mul,Int.one_mul];rw [hV];grind
  omega
 ·have h1:(g*b1)*(1000000000*P)<=(top-1000000000)*(1000000000*P):=Int.mul_le_mul_of_nonneg_right (by omega) (by omega)
  have h5:(b2+1)*P<=1000000000*P:=Int.mul_le_mul_of_nonneg_right (by omega) (by omega)
  have e5:(b2+1)*P=b2*P+P:=by grind
  have h6:0<=b2*P:=Int.mul_nonneg hb2 (by omega)
  have h2:g*(b2*P+lv)<=999999999*(1000000000*P):=Int.mul_le_mul hg1 (by omega) (by omega) (by decide)
  have e1:(g-1)*V=(g*b1)*(1000000000*P)+g*(b2*P+lv)-V:=by rw [Int.sub_mul,Int.one_mul];rw [hV];grind
  have e2:(top-1000000000)*(1000000000*P)=(top*1000000000)*P-1000000000*(1000000000*P):=by grind
  have e3:(top*1000000000+a3)*P=(top*1000000000)*P+a3*P:=by grind
  have h7:0<=a3*P:=Int.mul_nonneg ha (by omega)
  omega
theorem top_two {o:List Int} (ho:∀ z∈o,limbOk z) {n:Nat} (h:o.length=n+2):∃ lv,valL o=(o.getD (n+1) 0*1000000000+o.getD n 0)*1000000000 ^ n+lv/\0<=lv/\lv<1000000000 ^ n:=by
 have h1:=Bc o n
 have h2:=Bc o (n+1)
 rw [List.take_of_length_le (l:=o) (by omega)] at h2
 have h3:∀ z∈o.take n,limbOk z:=fun z hz=>ho z (List.mem_of_mem_take hz)
 have h4:=Cn h3
 rw [List.length_take,Nat.min_eq_left (by omega)] at h4
 refine ⟨valL (o.take n),?_,A1 h3,h4⟩
 rw [h2,h1,Int.pow_succ];grind
theorem Ahz {u:List Int} (hu:∀ z∈u,limbOk z) {n:Nat} (h:n+2<u.length) (hz:∀ j,n+3<=j->u.getD j 0=0):∃ ld,valL u=((u.getD (n+2) 0*1000000000+u.getD (n+1) 0)*1000000000+u.getD n 0)*1000000000 ^ n+ld/\0<=ld/\ld<1000000000 ^ n:=by
 have h0:=Nt hz
 have h1:=Bc u n
 have h2:=Bc u (n+1)
 have h3:=Bc u (n+2)
 have h5:∀ z∈u.take n,limbOk z:=fun z hz=>hu z (List.mem_of_mem_take hz)
 have h4:=Cn h5
 rw [List.length_take,Nat.min_eq_left (by omega)] at h4
 refine ⟨valL (u.take n),?_,A1 h5,h4⟩
 rw [h0,h3,h2,h1,Int.pow_succ,Int.pow_succ];grind
theorem Wp {o:List Int} (ho:∀ z∈o,limbOk z) {n:Nat} (h:o.length=n+1) (h0:0<o.getD n 0):1<=1000000000 / (o.getD n 0+1)/\1000000000 / (o.getD n 0+1)<1000000000/\1000000000 / (o.getD n 0+1)*valL o<1000000000 ^ o.length:=by
 obtain ⟨h1,h2⟩:=getD_ok ho n
 have h3:1000000000 / (o.getD n 0+1)*(o.getD n 0+1)<=1000000000:=Int.ediv_mul_le _ (by omega)
 have h5:1<=1000000000 / (o.getD n 0+1):=(Int.le_ediv_iff_mul_le (by omega)).2 (by omega)
 have h6:1000000000 / (o.getD n 0+1)<1000000000:=Int.ediv_lt_of_lt_mul (by omega) (by omega)
 refine ⟨h5,h6,?_⟩
 have h7:=Bc o n
 rw [List.take_of_length_le (l:=o) (by omega)] at h7
 have h8:=Cn (l:=o.take n) fun z hz=>ho z (List.mem_of_mem_take hz)
 rw [List.length_take,Nat.min_eq_left (by omega)] at h8
 have h9:=Jl n
 have h10:valL o<(o.getD n 0+1)*1000000000 ^ n:=by rw [h7,Int.add_mul,Int.one_mul,Int.mul_comm];omega
 have h11:1000000000 / (o.getD n 0+1)*valL o<1000000000 / (o.getD n 0+1)*((o.getD n 0+1)*1000000000 ^ n):=Int.mul_lt_mul_of_pos_left h10 (by omega)
 have h12:1000000000 / (o.getD n 0+1)*(o.getD n 0+1)*1000000000 ^ n<=1000000000*1000000000 ^ n:=Int.mul_le_mul_of_nonneg_right h3 (by omega)
 rw [Int.mul_assoc] at h12
 rw [h,Int.pow_succ];omega
theorem scal_top {m o:List Int} {t:Int} (hm:∀ z∈m,limbOk z) (ho:∀ z∈o,limbOk z) (ht:limbOk t) {n:Nat} (h:o.length=n+1) (h0:0<o.getD n 0) (hl:n<=m.length) (h1:1<=t):valL ((D1 m t).drop (m.length-n))<t*valL o:=by
 have hs:=So ht hm
 have hlen:=Lb m t
 have h2:=Cn hm
 have h3:t*valL m<t*1000000000 ^ m.length:=Int.mul_lt_mul_of_pos_left h2 (by omega)
 have h4:=Qz (D1 m t) (m.length-n)
 rw [Lc] at h4
 have h5:=A1 (l:=(D1 m t).take (m.length-n)) fun z hz=>hs z (List.mem_of_mem_take hz)
 have h6:(1000000000:Int) ^ m.length=1000000000 ^ (m.length-n)*1000000000 ^ n:=by rw [<- Int.pow_add];congr 1;omega
 have h7:1000000000 ^ (m.length-n)*valL ((D1 m t).drop (m.length-n))<1000000000 ^ (m.length-n)*(t*1000000000 ^ n):=by
  rw [h6] at h3
  have e:t*(1000000000 ^ (m.length-n)*1000000000 ^ n)=1000000000 ^ (m.length-n)*(t*1000000000 ^ n):=by grind
  rw [e] at h3;omega
 have h8:=Int.lt_of_mul_lt_mul_left h7 (Int.le_of_lt (Jl _))
 have h9:=Bc o n
 rw [List.take_of_length_le (l:=o) (by omega)] at h9
 have h10:=A1 (l:=o.take n) fun z hz=>ho z (List.mem_of_mem_take hz)
 have h11:(1000000000:Int) ^ n*1<=1000000000 ^ n*o.getD n 0:=Int.mul_le_mul_of_nonneg_left h0 (Int.le_of_lt (Jl _))
 have h12:t*1000000000 ^ n<=t*valL o:=Int.mul_le_mul_of_nonneg_left (by omega) (by omega)
 omega
theorem Lq (p X:List Int) (i:Nat) (v:Int):(Dw (p++X)).set (p.length+i) (.d (.v (.int .u32 v)))=Dw (p++X.set i v):=by
 unfold Dw
 rw [List.map_append,List.set_append_right _ _ (by simp),List.length_map,Nat.add_sub_cancel_left,List.map_append,List.map_set]
theorem Xc {p X:List Int} {i:Nat} (h:i<X.length):(Dw (p++X))[p.length+i]? = some (.d (.v (.int .u32 (X.getD i 0)))):=by
 unfold Dw
 rw [List.map_append,List.getElem?_append_right (by simp),List.length_map,Nat.add_sub_cancel_left,List.getD_eq_getElem?_getD]
 simp [h]
theorem E1 (l:List Int):(Dw l).length=l.length:=by simp [Dw]
def G4 (u o:List Int) (t:Int) (k:Nat):Int:=(As u o t k).1.getD k 0-((As u o t k).2.1+t*o.getD k 0) % 1000000000-(As u o t k).2.2
theorem U7 {u o:List Int} {t:Int} {k:Nat} (h:G4 u o t k<0):As u o t (k+1)=((As u o t k).1.set k (G4 u o t k+1000000000),((As u o t k).2.1+t*o.getD k 0) / 1000000000,1):=by
 rw [As];unfold G4 at h |-;rw [if_pos h,if_pos h]
theorem U8 {u o:List Int} {t:Int} {k:Nat} (h:¬ G4 u o t k<0):As u o t (k+1)=((As u o t k).1.set k (G4 u o t k),((As u o t k).2.1+t*o.getD k 0) / 1000000000,0):=by
 rw [As];unfold G4 at h |-;rw [if_neg h,if_neg h]
set_option maxHeartbeats 1000000 in
theorem Afm (p u o:List Int) (t:Int) (cap:Nat) (hu:∀ z∈u,limbOk z) (ho:∀ z∈o,limbOk z) (ht:limbOk t) (hl:o.length<u.length) (hm:p.length+u.length<=1000002) :
  Aw 178 [.bsl 1 0 p.length u.length cap,B3 o,.d (.v (.int .u64 t))] ⟨[Dw (p++u)],[]⟩ (.ret (At (Ku u o t))) ⟨[Dw (p++Dm u o t)],[]⟩:=by
 refine Af Tryz.func178 rfl rfl (Nat.le_of_ble_eq_true rfl) rfl (Nat.le_refl _) ?_
 have hlo:((o.map B8).length:Int)=o.length:=by simp
 repeat' (first|refine rl1 ?_|refine rs1 ?_ ?_<;>intro h|fail)
 refine Ca (ι := Nat) (ok:=fun i=>i<=o.length+1) (L:=fun i=>[(0,.bsl 1 0 p.length u.length cap),(1,B3 o),(2,.d (.v (.int .u64 t))),(7,.d (.v (.int .u64 (As u o t i).2.1))),(8,.d (.v (.int .i64 (As u o t i).2.2))),(14,An ((o.map B8).length+1)),(15,An i)]) (Sx:=fun i=>⟨[Dw (p++(As u o t i).1)],[]⟩) (μ := fun i=>o.length+1-i) 0 (Nat.zero_le _) (by exact (by repeat (first|exact Ag|refine Aa rfl ?_))) rfl ?_
 rintro i hi
 obtain ⟨hk1,hk2,hk3,hk4⟩:=Jd hu ho ht i
 obtain ⟨hx1,hx2⟩:=getD_ok hk1 i
 obtain ⟨hn1,hn2,hn3⟩:=Ip ht (getD_ok ho i) hk2
 obtain ⟨hy1,hy2⟩:=getD_ok ho i
 obtain ⟨hc1,hc2⟩:=hk2
 obtain ⟨ht1,ht2⟩:=ht
 have hp1:0<=t*o.getD i 0:=Int.mul_nonneg ht1 hy1
 repeat' (first|refine rl1 ?_|refine rs1 ?_ ?_<;>intro h|fail)
 ·have hlt:i<o.length:=by have h1 := ‹decide ((i:Int)<((o.map B8).length:Int))=true›;simpa using h1
  refine wix (B8 (o.getD i 0)) rfl rfl rfl rfl rfl (E7 hlt) (by omega) ?_
  repeat' (first|refine rl1 ?_|refine rs1 ?_ ?_<;>intro h|fail)
  refine J9 (.d (.v (.int .u64 (o.getD i 0)))) rfl rfl rfl ⟨by show (0:Int)<=_;omega,by show _<=(18446744073709551615:Int);omega⟩ ?_
  have he:(As u o t i).2.1+t*o.getD i 0=(As u o t i).2.1+t*o.getD i 0:=rfl
  repeat' (first|refine rl1 ?_|refine rs1 ?_ ?_<;>intro h|fail)
  have hdd:G4 u o t i=(As u o t i).1.getD i 0-(((As u o t i).2.1+t*o.getD i 0)) % 1000000000-(As u o t i).2.2:=by unfold G4;rw [<- he]
  refine wsld (id:=0) (p.length+i) rfl rfl rfl (by show PV.ptr 0 (p.length+((i:Int)).toNat*1)=_;simp) rfl (Xc (p:=p) (X:=(As u o t i).1) (by rw [Ch];omega)) ?_
  repeat' (first|refine rl1 ?_|refine rs1 ?_ ?_<;>intro h|fail)
  refine J9 (.d (.v (.int .i64 ((As u o t i).1.getD i 0)))) rfl rfl rfl ⟨by show (-9223372036854775808:Int)<=_;omega,by show _<=(9223372036854775807:Int);omega⟩ ?_
  repeat' (first|refine rl1 ?_|refine rs1 ?_ ?_<;>intro h|fail)
  refine J9 (.d (.v (.int .i64 ((((As u o t i).2.1+t*o.getD i 0)) % 1000000000)))) rfl rfl rfl ⟨by show (-9223372036854775808:Int)<=_;omega,by show _<=(9223372036854775807:Int);omega⟩ ?_
  repeat' (first|refine rl1 ?_|refine rs1 ?_ ?_<;>intro h|fail)
  ·have hneg:G4 u o t i<0:=by have h':=of_decide_eq_true h;omega
   have hk:=U7 hneg
   have hlo:0<=G4 u o t i+1000000000:=by omega
   refine J9 (.d (.v (.int .u32 ((As u o t i).1.getD i 0-(((As u o t i).2.1+t*o.getD i 0)) % 1000000000-(As u o t i).2.2+1000000000)))) rfl rfl rfl ⟨by show (0:Int)<=_;omega,by show _<=(4294967295:Int);omega⟩ ?_
   repeat' (first|refine rl1 ?_|refine rs1 ?_ ?_<;>intro h|fail)
   refine Adh (id:=0) (S':=⟨[Dw (p++(As u o t i).1.set i ((As u o t i).1.getD i 0-(((As u o t i).2.1+t*o.getD i 0)) % 1000000000-(As u o t i).2.2+1000000000))],[]⟩) (p.length+i) rfl rfl rfl (by show PV.ptr 0 (p.length+((i:Int)).toNat*1)=_;simp) rfl rfl (by rw [E1,List.length_append,Ch];omega) (by show (⟨[(Dw (p++(As u o t i).1)).set (p.length+i) _],[]⟩:PS)=_;rw [Lq]) ?_
   repeat' (first|refine rl1 ?_|refine rs1 ?_ ?_<;>intro h|fail)
   refine ⟨i+1,by omega,by omega,?_,?_⟩
   ·rw [hk]
    refine Aa rfl (Aa rfl (Aa rfl (Aa ?_ (by repeat (first|exact Ag|refine Aa rfl ?_)))))
    show _=PV.d (.v (.int .u64 (((As u o t i).2.1+t*o.getD i 0) / 1000000000)))
    rw [<- he];rfl
   ·rw [hk,hdd]
  ·have hpos:¬ G4 u o t i<0:=by have h':=of_decide_eq_false h;omega
   have hk:=U8 hpos
   have hlo:0<=G4 u o t i:=by omega
   have hup:G4 u o t i<1000000000:=by omega
   refine J9 (.d (.v (.int .u32 ((As u o t i).1.getD i 0-(((As u o t i).2.1+t*o.getD i 0)) % 1000000000-(As u o t i).2.2)))) rfl rfl rfl ⟨by show (0:Int)<=_;omega,by show _<=(4294967295:Int);omega⟩ ?_
   repeat' (first|refine rl1 ?_|refine rs1 ?_ ?_<;>intro h|fail)
   refine Adh (id:=0) (S':=⟨[Dw (p++(As u o t i).1.set i ((As u o t i).1.getD i 0-(((As u o t i).2.1+t*o.getD i 0)) % 1000000000-(As u o t i).2.2))],[]⟩) (p.length+i) rfl rfl rfl (by show PV.ptr 0 (p.length+((i:Int)).toNat*1)=_;simp) rfl rfl (by rw [E1,List.length_append,Ch];omega) (by show (⟨[(Dw (p++(As u o t i).1)).set (p.length+i) _],[]⟩:PS)=_;rw [Lq]) ?_
   repeat' (first|refine rl1 ?_|refine rs1 ?_ ?_<;>intro h|fail)
   refine ⟨i+1,by omega,by omega,?_,?_⟩
   ·rw [hk]
    refine Aa rfl (Aa rfl (Aa rfl (Aa ?_ (by repeat (first|exact Ag|refine Aa rfl ?_)))))
    show _=PV.d (.v (.int .u64 (((As u o t i).2.1+t*o.getD i 0) / 1000000000)))
    rw [<- he];rfl
   ·rw [hk,hdd]
 ·have hlt:¬ i<o.length:=by have h1 := ‹decide ((i:Int)<((o.map B8).length:Int))=false›;simpa using h1
  have hi':i<o.length+1:=by have h1 := ‹decide ((i:Int)<((o.map B8).length:Int)+1)=true›;simp at h1;omega
  have he:(As u o t i).2.1=(As u o t i).2.1+t*o.getD i 0:=by rw [Hp (by omega)];simp
  repeat' (first|refine rl1 ?_|refine rs1 ?_ ?_<;>intro h|fail)
  have hdd:G4 u o t i=(As u o t i).1.getD i 0-(((As u o t i).2.1)) % 1000000000-(As u o t i).2.2:=by unfold G4;rw [<- he]
  refine wsld (id:=0) (p.length+i) rfl rfl rfl (by show PV.ptr 0 (p.length+((i:Int)).toNat*1)=_;simp) rfl (Xc (p:=p) (X:=(As u o t i).1) (by rw [Ch];omega)) ?_
  repeat' (first|refine rl1 ?_|refine rs1 ?_ ?_<;>intro h|fail)
  refine J9 (.d (.v (.int .i64 ((As u o t i).1.getD i 0)))) rfl rfl rfl ⟨by show (-9223372036854775808:Int)<=_;omega,by show _<=(9223372036854775807:Int);omega⟩ ?_
  repeat' (first|refine rl1 ?_|refine rs1 ?_ ?_<;>intro h|fail)
  refine J9 (.d (.v (.int .i64 ((((As u o t i).2.1)) % 1000000000)))) rfl rfl rfl ⟨by show (-9223372036854775808:Int)<=_;omega,by show _<=(9223372036854775807:Int);omega⟩ ?_
  repeat' (first|refine rl1 ?_|refine rs1 ?_ ?_<;>intro h|fail)
  ·have hneg:G4 u o t i<0:=by have h':=of_decide_eq_true h;omega
   have hk:=U7 hneg
   have hlo:0<=G4 u o t i+1000000000:=by omega
   refine J9 (.d (.v (.int .u32 ((As u o t i).1.getD i 0-(((As u o t i).2.1)) % 1000000000-(As u o t i).2.2+1000000000)))) rfl rfl rfl ⟨by show (0:Int)<=_;omega,by show _<=(4294967295:Int);omega⟩ ?_
   repeat' (first|refine rl1 ?_|refine rs1 ?_ ?_<;>intro h|fail)
   refine Adh (id:=0) (S':=⟨[Dw (p++(As u o t i).1.set i ((As u o t i).1.getD i 0-(((As u o t i).2.1)) % 1000000000-(As u o t i).2.2+1000000000))],[]⟩) (p.length+i) rfl rfl rfl (by show PV.ptr 0 (p.length+((i:Int)).toNat*1)=_;simp) rfl rfl (by rw [E1,List.length_append,Ch];omega) (by show (⟨[(Dw (p++(As u o t i).1)).set (p.length+i) _],[]⟩:PS)=_;rw [Lq]) ?_
   repeat' (first|refine rl1 ?_|refine rs1 ?_ ?_<;>intro h|fail)
   refine ⟨i+1,by omega,by omega,?_,?_⟩
   ·rw [hk]
    refine Aa rfl (Aa rfl (Aa rfl (Aa ?_ (by repeat (first|exact Ag|refine Aa rfl ?_)))))
    show _=PV.d (.v (.int .u64 (((As u o t i).2.1+t*o.getD i 0) / 1000000000)))
    rw [<- he];rfl
   ·rw [hk,hdd]
  ·have hpos:¬ G4 u o t i<0:=by have h':=of_decide_eq_false h;omega
   have hk:=U8 hpos
   have hlo:0<=G4 u o t i:=by omega
   have hup:G4 u o t i<1000000000:=by omega
   refine J9 (.d (.v (.int .u32 ((As u o t i).1.getD i 0-(((As u o t i).2.1)) % 1000000000-(As u o t i).2.2)))) rfl rfl rfl ⟨by show (0:Int)<=_;omega,by show _<=(4294967295:Int);omega⟩ ?_
   repeat' (first|refine rl1 ?_|refine rs1 ?_ ?_<;>intro h|fail)
   refine Adh (id:=0) (S':=⟨[Dw (p++(As u o t i).1.set i ((As u o t i).1.getD i 0-(((As u o t i).2.1)) % 1000000000-(As u o t i).2.2))],[]⟩) (p.length+i) rfl rfl rfl (by show PV.ptr 0 (p.length+((i:Int)).toNat*1)=_;simp) rfl rfl (by rw [E1,List.length_append,Ch];omega) (by show (⟨[(Dw (p++(As u o t i).1)).set (p.length+i) _],[]⟩:PS)=_;rw [Lq]) ?_
   repeat' (first|refine rl1 ?_|refine rs1 ?_ ?_<;>intro h|fail)
   refine ⟨i+1,by omega,by omega,?_,?_⟩
   ·rw [hk]
    refine Aa rfl (Aa rfl (Aa rfl (Aa ?_ (by repeat (first|exact Ag|refine Aa rfl ?_)))))
    show _=PV.d (.v (.int .u64 (((As u o t i).2.1+t*o.getD i 0) / 1000000000)))
    rw [<- he];rfl
   ·rw [hk,hdd]
 ·obtain rfl:i=o.length+1:=by simp at h;omega
  repeat' (first|refine rl1 ?_|refine rs1 ?_ ?_<;>intro h|fail)
  refine fin ?_ rfl (.inr rfl) rfl rfl rfl rfl
  show (PV.ltL 1 0 (Dw _)&&true)=true
  rw [Ee];rfl
set_option maxHeartbeats 1000000 in
theorem Ae5 (p u o:List Int) (cap:Nat) (hu:∀ z∈u,limbOk z) (ho:∀ z∈o,limbOk z) (hl:o.length<u.length) (hm:p.length+u.length<=1000002) :
  Aw 179 [.bsl 1 0 p.length u.length cap,B3 o] ⟨[Dw (p++u)],[]⟩ (.ret (Tp [])) ⟨[Dw (p++Il u o)],[]⟩:=by
 refine Af Tryz.func179 rfl rfl (Nat.le_of_ble_eq_true rfl) rfl (Nat.le_refl _) ?_
 have hlo:((o.map B8).length:Int)=o.length:=by simp
 repeat' (first|refine rl1 ?_|refine rs1 ?_ ?_<;>intro h|fail)
 refine Ca (ι := Nat) (ok:=fun i=>i<=o.length+1) (L:=fun i=>[(0,.bsl 1 0 p.length u.length cap),(1,B3 o),(4,.d (.v (.int .u32 (B0 u o i).2))),(9,An ((o.map B8).length+1)),(10,An i)]) (Sx:=fun i=>⟨[Dw (p++(B0 u o i).1)],[]⟩) (μ := fun i=>o.length+1-i) 0 (Nat.zero_le _) (by exact (by repeat (first|exact Ag|refine Aa rfl ?_))) rfl ?_
 rintro i hi
 obtain ⟨hk1,hk3,hk4⟩:=Rj hu ho i
 obtain ⟨hx1,hx2⟩:=getD_ok hk1 i
 obtain ⟨hy1,hy2⟩:=getD_ok ho i
 repeat' (first|refine rl1 ?_|refine rs1 ?_ ?_<;>intro h|fail)
 ·have hi':i<o.length+1:=by simp at h;omega
  repeat' (first|refine rl1 ?_|refine rs1 ?_ ?_<;>intro h|fail)
  refine wsld (id:=0) (p.length+i) rfl rfl rfl (by show PV.ptr 0 (p.length+((i:Int)).toNat*1)=_;simp) rfl (Xc (p:=p) (X:=(B0 u o i).1) (by rw [G2];omega)) ?_
  repeat' (first|refine rl1 ?_|refine rs1 ?_ ?_<;>intro h|fail)
  ·have hlt:i<o.length:=by have h1 := ‹decide ((i:Int)<((o.map B8).length:Int))=true›;simpa using h1
   refine wix (B8 (o.getD i 0)) rfl rfl rfl rfl rfl (E7 hlt) (by omega) ?_
   repeat' (first|refine rl1 ?_|refine rs1 ?_ ?_<;>intro h|fail)
   have he:(B0 u o i).1.getD i 0+(B0 u o i).2+o.getD i 0=(B0 u o i).1.getD i 0+(B0 u o i).2+o.getD i 0:=rfl
   refine Adh (id:=0) (S':=⟨[Dw (p++(B0 u o i).1.set i ((((B0 u o i).1.getD i 0+(B0 u o i).2+o.getD i 0)) % 1000000000))],[]⟩) (p.length+i) rfl rfl rfl (by show PV.ptr 0 (p.length+((i:Int)).toNat*1)=_;simp) rfl rfl (by rw [E1,List.length_append,G2];omega) (by show (⟨[(Dw (p++(B0 u o i).1)).set (p.length+i) _],[]⟩:PS)=_;rw [Lq]) ?_
   repeat' (first|refine rl1 ?_|refine rs1 ?_ ?_<;>intro h|fail)
   refine ⟨i+1,by omega,by omega,?_,?_⟩
   ·refine Aa rfl (Aa rfl (Aa ?_ (by repeat (first|exact Ag|refine Aa rfl ?_))))
    show _=PV.d (.v (.int .u32 (((B0 u o i).1.getD i 0+(B0 u o i).2+o.getD i 0) / 1000000000)))
    rw [he];rfl
   ·show _=(⟨[Dw (p++(B0 u o i).1.set i (((B0 u o i).1.getD i 0+(B0 u o i).2+o.getD i 0) % 1000000000))],[]⟩:PS)
    rw [he]
  ·have hlt:¬ i<o.length:=by have h1 := ‹decide ((i:Int)<((o.map B8).length:Int))=false›;simpa using h1
   have he:(B0 u o i).1.getD i 0+(B0 u o i).2+o.getD i 0=(B0 u o i).1.getD i 0+(B0 u o i).2:=by rw [Hp (l:=o) (by omega)];omega
   refine Adh (id:=0) (S':=⟨[Dw (p++(B0 u o i).1.set i ((((B0 u o i).1.getD i 0+(B0 u o i).2)) % 1000000000))],[]⟩) (p.length+i) rfl rfl rfl (by show PV.ptr 0 (p.length+((i:Int)).toNat*1)=_;simp) rfl rfl (by rw [E1,List.length_append,G2];omega) (by show (⟨[(Dw (p++(B0 u o i).1)).set (p.length+i) _],[]⟩:PS)=_;rw [Lq]) ?_
   repeat' (first|refine rl1 ?_|refine rs1 ?_ ?_<;>intro h|fail)
   refine ⟨i+1,by omega,by omega,?_,?_⟩
   ·refine Aa rfl (Aa rfl (Aa ?_ (by repeat (first|exact Ag|refine Aa rfl ?_))))
    show _=PV.d (.v (.int .u32 (((B0 u o i).1.getD i 0+(B0 u o i).2+o.getD i 0) / 1000000000)))
    rw [he];rfl
   ·show _=(⟨[Dw (p++(B0 u o i).1.set i (((B0 u o i).1.getD i 0+(B0 u o i).2+o.getD i 0) % 1000000000))],[]⟩:PS)
    rw [he]
 ·obtain rfl:i=o.length+1:=by simp at h;omega
  repeat' (first|refine rl1 ?_|refine rs1 ?_ ?_<;>intro h|fail)
  refine fin ?_ rfl (.inl rfl) rfl rfl rfl rfl
  show (PV.ltL 1 0 (Dw _)&&true)=true
  rw [Ee];rfl
theorem Xl {l:List Int} {j:Nat} {v:Int} (h:j<l.length):(l.set j v).drop j=v::l.drop (j+1):=by
 rw [List.set_eq_take_append_cons_drop,if_pos h,List.drop_left' (by simp;omega)]
theorem drop_atL {l:List Int} {j:Nat} (h:j<l.length):l.drop j=l.getD j 0::l.drop (j+1):=by
 rw [List.drop_eq_getElem_cons h,List.getD_eq_getElem?_getD,List.getElem?_eq_getElem h];rfl
structure DivOk (m B:List Int) (n:Nat) (t:Int) (A Q:List Int) (j:Nat):Prop where
 la:A.length=m.length+1
 oka:∀ z∈A,limbOk z
 lq:Q.length=m.length-(n+1)
 okq:∀ z∈Q,limbOk z
 hj:j<=m.length-(n+1)
 top:valL (A.drop j)<valL B
 eq:t*valL m=valL B*(1000000000 ^ j*valL (Q.drop j))+valL A
theorem DivOk.dlt {m B:List Int} {n:Nat} {t:Int} {A Q:List Int} {j:Nat} (h:DivOk m B n t A Q (j+1)):valL (A.drop j)<1000000000*valL B:=by
 have h1:=h.hj
 have h2:=h.la
 have h3:=h.top
 have h4:=getD_ok h.oka j
 have h5:=h4.2
 rw [drop_atL (l:=A) (j:=j) (by omega),valL]
 omega
theorem DivOk.step {m B:List Int} {n:Nat} {t:Int} {A Q:List Int} {j:Nat} (h:DivOk m B n t A Q (j+1)) (hB:∀ z∈B,limbOk z) (hBl:B.length=n+2) {g:Int} (hg:limbOk g)
  (h1:valL (A.drop j)<(g+1)*valL B) (h2:(g-1)*valL B<=valL (A.drop j)) {r:Int×List Int} (hr:(if Ku (A.drop j) B g=true then (g-1,Il (Dm (A.drop j) B g) B) else (g,Dm (A.drop j) B g))=r) :
  DivOk m B n t (A.take j++r.2) (Q.set j r.1) j/\limbOk r.1/\(Ku (A.drop j) B g=true->1<=g):=by
 have k1:=h.hj
 have k2:=h.la
 have k3:=h.lq
 have hok:∀ z∈A.drop j,limbOk z:=fun z hz=>h.oka z (List.mem_of_mem_drop hz)
 have hd:=Aek hok hB hg (by rw [List.length_drop];omega) h.dlt h1 h2
 dsimp only at hd
 rw [hr] at hd
 obtain ⟨d1,d2,d3,d4,d5,d6⟩:=hd
 have e0:=h.eq
 have e1:=Qz A j
 have e2:=valL_append (A.take j) r.2
 rw [List.length_take,Nat.min_eq_left (by omega)] at e2
 refine ⟨⟨by rw [List.length_append,List.length_take,d2,List.length_drop];omega,fun z hz=>?_,by rw [List.length_set];exact k3,Ym h.okq d1,by omega,?_,?_⟩,d1,d6⟩
 ·rcases List.mem_append.1 hz with hz|hz
  ·exact h.oka z (List.mem_of_mem_take hz)
  ·exact d3 z hz
 ·rw [List.drop_left' (by rw [List.length_take];omega)];exact d5
 ·rw [Xl (by omega),valL,e2,d4]
  rw [e0,e1,Int.pow_succ]
  generalize (1000000000:Int) ^ j=p
  grind
theorem K7 (k:Nat):(0:Int)<1000000000 ^ k:=Int.pow_pos (by decide)
theorem Aej {m o:List Int} {n:Nat} {t:Int} (hm:∀ z∈m,limbOk z) (ho:∀ z∈o,limbOk z) (hl:o.length=n+2) (h0:0<o.getD (n+1) 0) (hlen:n+2<=m.length) (ht:t=1000000000 / (o.getD (n+1) 0+1)) :
  limbOk t/\1<=t/\(∀ z∈(D1 o t).take (n+2),limbOk z)/\((D1 o t).take (n+2)).length=n+2/\valL ((D1 o t).take (n+2))=t*valL o/\0<((D1 o t).take (n+2)).getD (n+1) 0 /\
   DivOk m ((D1 o t).take (n+2)) n t (D1 m t) (List.replicate (m.length-(n+1)) 0) (m.length-(n+1)):=by
 obtain ⟨u1,u2,u3⟩:=Wp ho (n:=n+1) hl h0
 rw [<- ht] at u1 u2 u3
 have hto:limbOk t:=⟨by omega,u2⟩
 have hso:=So hto ho
 have hB:∀ z∈(D1 o t).take (n+2),limbOk z:=fun z hz=>hso z (List.mem_of_mem_take hz)
 have hBl:((D1 o t).take (n+2)).length=n+2:=by rw [List.length_take,Lb];omega
 have hV:valL ((D1 o t).take (n+2))=t*valL o:=by
  have:=Nt (l:=D1 o t) (n:=n+2) (Im hso (by rw [Lc,<- hl];exact u3))
  rw [<- this,Lc]
 refine ⟨hto,u1,hB,hBl,hV,?_,⟨Lb _ _,So hto hm,by simp,fun z hz=>?_,Nat.le_refl _,?_,?_⟩⟩
 ·refine Int.not_le.1 fun hle=>?_
  have hz0:((D1 o t).take (n+2)).getD (n+1) 0=0:=by have:=(getD_ok hB (n+1)).1;omega
  have hlt:=Nu hB (n:=n+1) fun j hj=>by
   rcases Nat.lt_or_ge j (n+2) with h|h
   ·rw [show j=n+1 by omega];exact hz0
   ·rw [List.getD_eq_getElem?_getD,List.getElem?_eq_none (by omega)];rfl
  rw [hV] at hlt
  have h5:=Bc o (n+1)
  rw [List.take_of_length_le (by omega)] at h5
  have h6:=A1 (l:=o.take (n+1)) fun z hz=>ho z (List.mem_of_mem_take hz)
  have hp:=K7 (n+1)
  have h7:(1000000000:Int) ^ (n+1)*1<=1000000000 ^ (n+1)*o.getD (n+1) 0:=Int.mul_le_mul_of_nonneg_left h0 (by omega)
  have h8:1*valL o<=t*valL o:=Int.mul_le_mul_of_nonneg_right u1 (by omega)
  omega
 ·rw [List.eq_of_mem_replicate hz];exact ⟨by decide,by decide⟩
 ·rw [hV]
  exact scal_top hm ho hto (n:=n+1) hl h0 (by omega) u1
 ·rw [List.drop_of_length_le (by simp)]
  simp [valL,Lc]
theorem top_lt {D V top a3 b1 b2 P ld lv:Int} (hP:0<P) (hV:V=(b1*1000000000+b2)*P+lv) (hDe:D=(top*1000000000+a3)*P+ld) (hlv:lv<P) (hld:0<=ld) (ha:0<=a3) (hD:D<1000000000*V):top<b1*1000000000+b2+1:=by
 refine Int.not_le.1 fun hle=>?_
 have h1:((b1*1000000000+b2+1)*1000000000)*P<=(top*1000000000+a3)*P:=Int.mul_le_mul_of_nonneg_right (by omega) (by omega)
 have e:((b1*1000000000+b2+1)*1000000000)*P=1000000000*((b1*1000000000+b2)*P)+1000000000*P:=by grind
 omega
def Xk:Nat->Int->List Int
 |0,_=>[]
 |k+1,v=>v % 1000000000::Xk k (v / 1000000000)
theorem Y6:∀ {l:List Int},(∀ z∈l,limbOk z)->l=Xk l.length (valL l)
 |[],_=>rfl
 |x::r,h=>by
  have h1:=Y6 (l:=r) fun z hz=>h z (List.mem_cons_of_mem _ hz)
  obtain ⟨h2,h3⟩:=h x List.mem_cons_self
  rw [List.length_cons,Xk,valL]
  rw [show (x+1000000000*valL r) % 1000000000=x by omega,show (x+1000000000*valL r) / 1000000000=valL r by omega,<- h1]
theorem Aei {l:List Int} {k:Nat} {v:Int} (h:∀ z∈l,limbOk z) (hl:l.length=k) (hv:valL l=v):l=Xk k v:=by
 rw [<- hl,<- hv];exact Y6 h
def Ff (o:List Int):Int:=1000000000 / (o.getD (o.length-1) 0+1)
def divA (m o:List Int):List Int:=Xk (m.length+1) (Ff o*(valL m % valL o))
def divQ (m o:List Int):List Int:=Xk (m.length-(o.length-1)) (valL m / valL o)
theorem div_ends {m o A Q:List Int} {n:Nat} (ho:∀ z∈o,limbOk z) (hm:∀ z∈m,limbOk z) (hl:o.length=n+2) (h0:0<o.getD (n+1) 0) (hV:valL ((D1 o (Ff o)).take (n+2))=Ff o*valL o) (ht1:1<=Ff o) (h:DivOk m ((D1 o (Ff o)).take (n+2)) n (Ff o) A Q 0) :
  A=divA m o/\Q=divQ m o:=by
 have h1:=h.top
 have h2:=h.eq
 rw [List.drop_zero] at h1
 rw [List.drop_zero,hV,Int.pow_zero,Int.one_mul] at h2
 rw [hV] at h1
 have hA0:=A1 h.oka
 have hvo:0<valL o:=by
  refine Int.not_le.1 fun hle=>?_
  have:=Int.mul_nonpos_of_nonneg_of_nonpos (a:=Ff o) (by omega) hle
  omega
 have h3:valL m=valL o*valL Q+valL A / Ff o/\valL A=Ff o*(valL A / Ff o):=by
  have hd:Ff o∣valL A:=⟨valL m-valL o*valL Q,by rw [Int.mul_sub,h2];grind⟩
  have e:=Int.mul_ediv_cancel' hd
  refine ⟨?_,e.symm⟩
  have:Ff o*valL m=Ff o*(valL o*valL Q+valL A / Ff o):=by rw [Int.mul_add,e,h2];grind
  exact Int.eq_of_mul_eq_mul_left (by omega) this
 obtain ⟨h4,h5⟩:=h3
 generalize valL A / Ff o=R at h4 h5
 have hR0:0<=R:=by
  refine Int.not_lt.1 fun hlt=>?_
  have:Ff o*R<0:=Int.mul_neg_of_pos_of_neg (by omega) hlt
  omega
 have hR1:R<valL o:=by
  rw [h5] at h1
  exact Int.lt_of_mul_lt_mul_left h1 (by omega)
 have hq:valL m / valL o=valL Q:=by rw [h4,Int.mul_add_ediv_left _ _ (by omega),Int.ediv_eq_zero_of_lt hR0 hR1];omega
 have hr:valL m % valL o=R:=by rw [h4,Int.add_comm,Int.add_mul_emod_self_left,Int.emod_eq_of_lt hR0 hR1]
 refine ⟨Aei h.oka h.la (by rw [hr];exact h5),Aei h.okq (by rw [h.lq,hl];omega) (by rw [hq])⟩
end Go.Proofs.YtjagmmmcibdibaaGreatDoor
