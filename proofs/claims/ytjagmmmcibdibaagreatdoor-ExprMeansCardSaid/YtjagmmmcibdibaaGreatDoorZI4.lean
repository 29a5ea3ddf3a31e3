/- A part of the proofs of some statements of this chapter: texts of these claims, merged. -/
import Derived.Below
import Derived.WalkKit
import Derived.BigQuiet
import Derived.Lib.Hide
import Derived.ControlIn
import Derived.OwnWalkIn
import Derived.Lib.ItoaNum
import Derived.OrdersIn
import Derived.TacticsIn
import Derived.Deep.MidRow
import Derived.OpenShut
import Derived.Lib.SmallJoins
import Derived.Laws.Tables
import Derived.Laws.OwnMore
import Derived.Orders
import Derived.Test.YtjagmmmcibdibaaGreatDoorProg
import Derived.Shelf.Abstract
import Derived.Test.YtjagmmmcibdibaaGreatDoorRows
import Derived.Carry
import Derived.Lib.LaidU8
import Derived.Lib.LaidTab
import Derived.Lay
import Derived.MakeChecks
import Derived.RangeFuncLeaves
import Derived.RangeFuncOwn
import Derived.RecoverIn
import Derived.Laws.MakeOwn
import Derived.Laws.Strings
import Derived.WalkSpells
import Derived.WalkLawsBesides
import Derived.Laws.EntriesVeiled
import Derived.Deep.RegionHeld3
import Derived.Deep.QuietTactic
import Derived.Lib.Bytealg
import Derived.Shelf.Strings.Builder1
import Derived.Shelf.Small.Strs
import Derived.Shelf.Small.Wraps
import Derived.Shelf.Strings.BuilderF
import Derived.Shelf.Strings.BuilderK
import Derived.Shelf.Strconv.Atoi
import Derived.Shelf.Strconv.Itoa0
import Derived.Shelf.Strconv.Itoa1
import Derived.Shelf.LaysM
import Derived.Shelf.Strconv.Itoa2
import Derived.Shelf.Strconv.Itoa3
import Derived.Shelf.Strconv.AtoiErrFast
import Derived.Shelf.Strconv.ParseIntEmpty
import Derived.Shelf.Strconv.AtoiFail
import Derived.Shelf.Strconv.Clone
import Derived.Shelf.Strconv.SyntaxError
import Derived.Shelf.LaysC
import Derived.Shelf.Strconv.ToError
import Derived.Shelf.Strconv.AtoiErr
import Derived.Shelf.Strconv.ErrVar
import Derived.Shelf.Strconv.Lower
import Derived.Shelf.Strconv.ParseUint10
import Derived.Shelf.Strconv.ParseUint10Empty
import Derived.Shelf.Strconv.ParseUint10Any
import Derived.Shelf.Strconv.ParseInt10
import Derived.Shelf.Strconv.AtoiLong
import Derived.Shelf.Strconv.AtoiInnerAll
import Derived.Shelf.Strconv.RangeError
import Derived.Shelf.Strconv.ToErrorRange
import Derived.Shelf.Strconv.AtoiAll
import Derived.Shelf.Strconv.ErrVarAll
import Derived.Shelf.Strconv.ParseUintEmpty
import Derived.Shelf.Strconv.ParseUint10b64
import Derived.Shelf.Strconv.ParseUint10b32
import Derived.Shelf.Strconv.ParseUint10b16
import Derived.Shelf.Strconv.ParseUint10b8
import Derived.Shelf.Strconv.ParseUint10At
import Derived.Ground.MpProg
import Derived.Shelf.Pu.ParseUintPublic10
import Derived.Shelf.Pu.ErrVarParseUint
import Derived.Shelf.Strings.Search1
import Derived.Shelf.Strings.Search2
import Derived.Shelf.Strings.Cut
import Derived.Shelf.Strings.Shaped
import Derived.Shelf.Strings.Prefix
import Derived.Shelf.Strings.BuilderCap
import Derived.Shelf.Slices.Turned
import Derived.Ground.Names2Prog
import Derived.Shelf.Slices.SearchI
import Derived.Deep.DeepCutAuto
import Derived.Lib.IndexBytes
import Derived.Deep.LoopGhost
import Derived.StillTail
import Derived.BigRegion
import Derived.Deep.CutBlock
import Derived.RangeFuncBox
import Derived.RangeFuncCalls
import Derived.TacticsInMore
import Derived.LoopNIn
import Derived.LoopIn
import Derived.RangeFuncNested
import Derived.Maps.AppendAt
import Derived.Shelf.RegionOpen
import Derived.Laws.StructEq
import Derived.Lib.Join
import Derived.Deep.AppendLies
import Derived.Deep.RegionLaw
import Derived.Laws.Rows
import Derived.Lib.AppendStr
import Derived.Laws.BytesArg
import Derived.Test.YtjagmmmcibdibaaGreatDoorZI3
set_option linter.unusedVariables false
set_option linter.unusedSimpArgs false
set_option linter.unusedSectionVars false
set_option linter.all false
namespace Go.Proofs.YtjagmmmcibdibaaGreatDoor
open Go.RowKit
section
variable {N:Nat} {ops:Array Oper} {rest:List Oper} {o:Oper} {F:Nat->PV} {S:PS} {q:WRes->Prop}
theorem wremT {k:IntKind} {a b:Int} {ty yt:TypeId} {x y:Operand} (hb:b≠0) (kk:WK Tryz.prog N ops rest (B8 N o.dst (.d (.v (.int k (a.tmod b)))) F) S q) (hg:Ak ops F o=some true:=by exact rfl) (ho:o.op = .binOp .rem ty x y yt:=by exact rfl) (hx:evP F x = .d (.v (.int k a)):=by exact rfl) (hy:evP F y = .d (.v (.int k b)):=by exact rfl):WK Tryz.prog N ops (o::rest) F S q:=D8 hg (Aa8 ho hx hy hb) kk
end
def Aib (a b c:Int):List Int:=[a.tmod 10000,b.tmod 10000,c.tmod 10000]
theorem F9 (a:Int) : -9999<=a.tmod 10000/\a.tmod 10000<=9999:=by
 have h1:=Int.tmod_lt_of_pos a (b:=10000) (by decide)
 have h2:=Int.lt_tmod_of_pos a (b:=10000) (by decide)
 omega
@[reducible] def Nu (a:Int):PV := .d (.v (.int .i16 a))
def rvB (a b c:Int):Nat->List PV
 |0=>[Ah 0,Ah 0,Ah 0]
 |1=>[Ah (a.tmod 10000),Ah 0,Ah 0]
 |2=>[Ah (a.tmod 10000),Ah (b.tmod 10000),Ah 0]
 |_=>[Ah (a.tmod 10000),Ah (b.tmod 10000),Ah (c.tmod 10000)]
set_option maxHeartbeats 1000000 in
theorem rvals_do (a b c:Int) (ha : -32768<=a/\a<=32767) (hb : -32768<=b/\b<=32767) (hc : -32768<=c/\c<=32767):Am 8 [.agg [Nu a,Nu b,Nu c]] ⟨[],[]⟩ (.ret (Cu (Aib a b c))) ⟨[],[]⟩:=by
 refine C5 Tryz.func8 rfl rfl (Nat.le_of_ble_eq_true rfl) (fun _=>?_)
 refine Cl ?_
 repeat' (first|refine rl1 ?_|refine rs1 ?_ ?_<;>intro h|fail)
 refine Cl ?_
 repeat' (first|refine rl1 ?_|refine rs1 ?_ ?_<;>intro h|fail)
 refine Ab2 (n:=3) (.int .i64 0) rfl rfl rfl rfl rfl rfl rfl (by show 8*3<=_;omega) (by omega) ?_
 repeat' (first|refine rl1 ?_|refine rs1 ?_ ?_<;>intro h|fail)
 refine Cl ?_
 refine Cm ?_
 repeat' (first|refine rl1 ?_|refine rs1 ?_ ?_<;>intro h|fail)
 refine B3 (ι := Nat) (ok:=fun i=>i<=3) (L:=fun i=>[(1,.ptr 0 0),(3,.bsl 1 1 0 3 3),(4,Ah i)]) (Sx:=fun i=>⟨[[Nu a,Nu b,Nu c],rvB a b c i],[]⟩) (μ := fun i=>3-i) 0 (Nat.zero_le _) (by repeat (first|exact Ag|refine Aa rfl ?_)) rfl ?_
 rintro i hi
 repeat' (first|refine rl1 ?_|refine rs1 ?_ ?_<;>intro h|fail)
 ·have hlt:i<3:=by have:=of_decide_eq_true h;omega
  have h3:i=0\/i=1\/i=2:=by omega
  have ga:=F9 a
  have gb:=F9 b
  have gc:=F9 c
  rcases h3 with rfl|rfl|rfl
  ·refine wst rfl rfl ⟨by omega,by show _<(3:Int);omega⟩ ?_
   repeat' (first|refine rl1 ?_|refine rs1 ?_ ?_<;>intro h|fail)
   refine wst rfl rfl ⟨by show (-9223372036854775808:Int)<=_;omega,by show _<=(9223372036854775807:Int);omega⟩ ?_
   repeat' (first|refine rl1 ?_|refine rs1 ?_ ?_<;>intro h|fail)
   refine wremT (b:=10000) (by decide) ?_
   repeat' (first|refine rl1 ?_|refine rs1 ?_ ?_<;>intro h|fail)
   exact ⟨1,by omega,by omega,(by repeat (first|exact Ag|refine Aa rfl ?_)),rfl⟩
  ·refine wst rfl rfl ⟨by omega,by show _<(3:Int);omega⟩ ?_
   repeat' (first|refine rl1 ?_|refine rs1 ?_ ?_<;>intro h|fail)
   refine wst rfl rfl ⟨by show (-9223372036854775808:Int)<=_;omega,by show _<=(9223372036854775807:Int);omega⟩ ?_
   repeat' (first|refine rl1 ?_|refine rs1 ?_ ?_<;>intro h|fail)
   refine wremT (b:=10000) (by decide) ?_
   repeat' (first|refine rl1 ?_|refine rs1 ?_ ?_<;>intro h|fail)
   exact ⟨2,by omega,by omega,(by repeat (first|exact Ag|refine Aa rfl ?_)),rfl⟩
  ·refine wst rfl rfl ⟨by omega,by show _<(3:Int);omega⟩ ?_
   repeat' (first|refine rl1 ?_|refine rs1 ?_ ?_<;>intro h|fail)
   refine wst rfl rfl ⟨by show (-9223372036854775808:Int)<=_;omega,by show _<=(9223372036854775807:Int);omega⟩ ?_
   repeat' (first|refine rl1 ?_|refine rs1 ?_ ?_<;>intro h|fail)
   refine wremT (b:=10000) (by decide) ?_
   repeat' (first|refine rl1 ?_|refine rs1 ?_ ?_<;>intro h|fail)
   exact ⟨3,by omega,by omega,(by repeat (first|exact Ag|refine Aa rfl ?_)),rfl⟩
 ·obtain rfl:i=3:=by have:=of_decide_eq_false h;omega
  refine O5 1 0 [(3,Cu (Aib a b c))] (Nat.zero_le _) (Nat.zero_le _) rfl ?_ ?_
  ·refine Eh ?_ S8
   exact Pc (S:=⟨[[Nu a,Nu b,Nu c],rvB a b c 3],[]⟩) (n:=1) (m:=0) (k:=1) (id:=1) (cap:=3) (ds:=(Aib a b c).map fun x => .v (.int .i64 x)) rfl (Nat.le_refl _) (Nat.le_refl _) (by omega)
  ·refine P8 ?_
   repeat' (first|refine rl1 ?_|refine rs1 ?_ ?_<;>intro h|fail)
   exact Xs (.inr rfl) rfl rfl Lm
end Go.Proofs.YtjagmmmcibdibaaGreatDoor
namespace Go.Proofs.YtjagmmmcibdibaaGreatDoor
open Go.RowKit Go.ChangeShapes Go.ChangeAt Go.WideShapes
theorem shp_i16s {n:Nat} {ds:List DV} (h:Shp Tryz.prog n 31 ds):∃ a b c:Int,ds=[.v (.int .i16 a),.v (.int .i16 b),.v (.int .i16 c)]/\(-32768<=a/\a<=32767)/\(-32768<=b/\b<=32767)/\(-32768<=c/\c<=32767):=by
 obtain ⟨k,parts,rfl,rfl,h1,h2⟩:=shp_arr Tryz.underlying31 h
 obtain ⟨x,y,z,rfl⟩:=parts3 h1
 obtain ⟨a,rfl,wa⟩:=Th Tryz.underlying30 (h2 x (by simp))
 obtain ⟨b,rfl,wb⟩:=Th Tryz.underlying30 (h2 y (by simp))
 obtain ⟨c,rfl,wc⟩:=Th Tryz.underlying30 (h2 z (by simp))
 exact ⟨a,b,c,rfl,bounds_i16 wa,bounds_i16 wb,bounds_i16 wc⟩
theorem Y3 {P:Program} {o:Oper} {F:Nat->PV} {S:PS} {t:TypeId} {x y:Operand} {I:TyI} {n:Nat} {kx ky:IntKind} (ho:o.op = .makeSlice t x y) (hI:TyI.of P t=some I) (hk:I.kind=2) (hek:I.ek=1) (hez:I.ez.length=1) (hx:evP F x = .d (.v (.int kx 0))) (hy:evP F y = .d (.v (.int ky n)))
  (hn:I.eb*n<=281474976710656) (h63:n<=9223372036854775807):OpS P o F S (.hd S.toks.length 0) (S.addTok ⟨0,I.ek,[],I.elem⟩) :=
 OpS.val fun K w ρ hInv h=>by
  have h1:=h x (by simp [ho,Op.operands])
  have h2:=h y (by simp [ho,Op.operands])
  rw [hx] at h1
  rw [hy] at h2
  have h1:=Br h1
  have h2:=Br h2
  obtain ⟨i,d,zz,hi,hu,hz,_,hzz,hd⟩:=TyI.inv hI
  rw [hk] at hd;simp at hd
  obtain ⟨rfl,ie,hie,ze,hze,hzs,hek2,heb,hez2⟩:=hd
  have hsz:ie.size=1:=by rw [<- hek];first|exact hek2|exact hek2.symm
  have hrun:=run_make (P:=P) w t I.elem ie ze hu hie hze kx ky 0 n (Int.le_refl _) (by omega) (by have hb:ie.bytes=I.eb:=(by first|exact heb|exact heb.symm);rw [hb];omega) (by omega)
  simp only [Int.toNat_natCast,hsz,Nat.mul_one,Int.toNat_zero] at hrun
  obtain ⟨z,hcl⟩:∃ z,ze.cells.toList=[z]:=by
   have h3:ze.cells.toList.length=1:=by
    have:ze.cells.toList=I.ez:=by first|exact hez2.1|exact hez2.1.symm
    rw [this];exact hez
   match e:ze.cells.toList,h3 with
   |[z],_=>exact ⟨z,rfl⟩
  have hm:(madeCells ze.cells n).toList=List.replicate n z:=Nz hcl n
  have hms:(madeCells ze.cells n).size=n*I.ek:=by
   have:=congrArg List.length hm
   simpa [hek] using this
  obtain ⟨g1,g2,g3⟩:=hInv.addTok (w':=w.alloc (.cells (madeCells ze.cells n) I.elem)) ((Below.refl _ _).alloc (Nat.le_refl _) _) (T:=⟨0,I.ek,[],I.elem⟩) (blk:=some (w.heap.size,0)) (u := .slice (some ⟨w.heap.size,0,none⟩) 0 n) rfl rfl (fun g lo hg=>by cases hg;exact Nat.le_refl _) (fun hs=>by
   refine .inr ⟨w.heap.size,n,madeCells ze.cells n,rfl,by simp,heap_alloc_new w _,Nat.zero_le _,h63,hms,?_,by simp [Bu]⟩
   obtain ⟨f1,f2,f3,f4,f5⟩:=R3 (w':=w.alloc (.cells (madeCells ze.cells n) I.elem)) hInv (by simp) 0
   refine ⟨f1,f2,f3,fun lo hm=>absurd (hInv.Tlt _ lo hm) (Nat.lt_irrefl _),fun t' c' lo ht hc=>?_⟩
   simp)
  exact ⟨_,_,_,by simp only [execOp,ho,h1,h2,Sem.run_bind,hrun];rfl,g2,g1,g3⟩
section
variable {N:Nat} {ops:Array Oper} {rest:List Oper} {o:Oper} {F:Nat->PV} {S S':PS} {q:WRes->Prop}
theorem Ab3 {t:TypeId} {x y:Operand} {n:Nat} {kx ky:IntKind} (hg:Ak ops F o=some true) (ho:o.op = .makeSlice t x y) (hk:(A4 t&&Nat.beq (tyi t).kind 2&&Nat.beq (tyi t).ek 1&&Nat.ble 1 (tyi t).eb)=true) (hez:(tyi t).ez.length=1) (hx:evP F x = .d (.v (.int kx 0))) (hy:evP F y = .d (.v (.int ky n)))
  (hn:(tyi t).eb*n<=281474976710656) (kk:WK Tryz.prog N ops rest (B8 N o.dst (.hd S.toks.length 0) F) (S.addTok ⟨0,(tyi t).ek,[],(tyi t).elem⟩) q):WK Tryz.prog N ops (o::rest) F S q:=by
 simp only [Bool.and_eq_true] at hk
 have h63:n<=9223372036854775807:=by
  have h3:1<=(tyi t).eb:=by simpa using hk.2
  have h4:n<=(tyi t).eb*n:=Nat.le_mul_of_pos_left _ h3
  omega
 exact D8 hg (Y3 ho (Fc t hk.1.1.1) (Nat.eq_of_beq_eq_true hk.1.1.2) (Nat.eq_of_beq_eq_true hk.1.2) hez hx hy hn h63) kk
end
def PS.more (S:PS) (bs:List (List PV)):PS:={ S with boxes:=S.boxes++bs }
def Kx.more (K:Kx) (l:List Nat):Kx:={ K with β := K.β ++ l }
section
variable {P:Program} {S:PS} {K K0':Kx} {w w':World} {bs:List (List PV)}
theorem V2 (hI:Inv K S w) (hs:Step (Hl K [] []) K0' w w'):Step K (K.more K0'.β) w w'/\(∀ b,b<w.heap.size->w'.heap[b]? = w.heap[b]?)/\∀ b∈K0'.β,w.heap.size<=b:=by
 have hold:∀ b,b<w.heap.size->w'.heap[b]? = w.heap[b]? := fun b hb=>hs.blocks b hb (by simp [Hl]) (fun t c lo ht=>by simp [Hl] at ht)
 have hnew:∀ b∈K0'.β,w.heap.size<=b:=fun b hb=>(hs.βnew b hb).resolve_left (by simp [Hl])
 refine ⟨⟨hs.os,hs.tape,hs.output,hs.size,fun i b h=>?_,fun b h=>?_,rfl,rfl,fun t c h=>⟨c,h,List.prefix_rfl⟩,fun t c g lo h h' => .inr ⟨t,c,lo,h,h',Nat.le_refl _⟩,fun b hb _ _=>hold b hb,fun t c g lo i ht hc _ _=>A2 (hold g (hI.tokLt ht hc))⟩,hold,hnew⟩
 ·show (K.β ++ K0'.β)[i]? = _
  rw [List.getElem?_append_left (List.getElem?_eq_some_iff.1 h).1];exact h
 ·rcases List.mem_append.1 h with h|h
  ·exact .inl h
  ·exact .inr (hnew b h)
theorem V1 (hs:Step (Hl K [] []) K0' w w') {b hi:Nat} (hg:K0'.good w' b hi):(K.more K0'.β).good w' b hi:=by
 obtain ⟨h1,h2,h3,h4,h5⟩:=hg
 rw [hs.M] at h3
 rw [hs.T] at h4
 refine ⟨h1,fun hm=>?_,fun hm=>h3 (.inl hm),fun lo hm=>h4 lo (.inl hm),fun t c lo ht hc=>h4 lo (.inr ⟨t,c,by simp,ht,hc⟩)⟩
 rcases List.mem_append.1 hm with hm|hm
 ·exact h3 (.inr ⟨hm,by simp⟩)
 ·exact h2 hm
theorem Aaw (hI:Inv K S w) (hs:Step (Hl K [] []) K0' w w') (hI':Inv K0' ⟨bs,[]⟩ w'):(∀ p u,Rep K0' w' p u->Rep (K.more K0'.β) w' (p.ren (fun i=>S.boxes.length+i) id) u)/\(∀ l us,Ao K0' w' l us->Ao (K.more K0'.β) w' (PV.renL (fun i=>S.boxes.length+i) id l) us):=by
 have hβ : ∀ i b,K0'.β[i]? = some b->(K.more K0'.β).β[S.boxes.length+i]? = some b:=fun i b h=>by
  show (K.β ++ K0'.β)[_]? = _
  rw [<- hI.lenβ,List.getElem?_append_right (Nat.le_add_right _ _),Nat.add_sub_cancel_left];exact h
 have hτ : ∀ (t:Nat) (c:TokC),K0'.τ[t]? = some c->(K.more K0'.β).τ[id t]? = some c:=fun t c h=>by
  have:=hI'.lenτ
  simp at this
  rw [this] at h;simp at h
 exact ⟨Rep.ren hβ hτ fun b hi hg=>V1 hs hg,Ao.ren hβ hτ fun b hi hg=>V1 hs hg⟩
theorem newB_inv (hI:Inv K S w) (hs:Step (Hl K [] []) K0' w w') (hI':Inv K0' ⟨bs,[]⟩ w') (hl:bs.all (PV.ltL 0 0)=true):Inv (K.more K0'.β) (S.more bs) w':=by
 obtain ⟨hst,hold,hnew⟩:=V2 hI hs
 have hlen:K0'.β.length=bs.length:=hI'.lenβ
 refine ⟨by show (K.β ++ K0'.β).length=(S.boxes++bs).length;simp [hI.lenβ,hlen],hI.lenτ,fun i b c h1 h2=>?_,?_,fun b hb=>?_,fun t T c h1 h2=>?_,fun t c g lo h1 h2=>?_,hI.tokI,hI.tokH,fun b hm=>Nat.lt_of_lt_of_le (hI.Mlt b hm) hs.size,fun b lo hm=>Nat.lt_of_lt_of_le (hI.Tlt b lo hm) hs.size,hI.fz.step hst⟩
 ·change (K.β ++ K0'.β)[i]? = _ at h1
  change (S.boxes++bs)[i]? = _ at h2
  by_cases hi:i<K.β.length
  ·rw [List.getElem?_append_left hi] at h1
   rw [List.getElem?_append_left (by rw [<- hI.lenβ];exact hi)] at h2
   exact (hI.box i b c h1 h2).step hst (hold b (hI.boxMem (List.mem_of_getElem? h1)))
  ·rw [List.getElem?_append_right (by omega)] at h1
   rw [List.getElem?_append_right (by rw [<- hI.lenβ];omega),<- hI.lenβ] at h2
   obtain ⟨C,ty,h3,h4,h5⟩:=hI'.box _ b c h1 h2
   refine ⟨C,ty,h3,?_,h5⟩
   have h6:=(Aaw hI hs hI').2 _ _ h4
   rwa [Gx c (List.all_eq_true.1 hl c (List.mem_of_getElem? h2))] at h6
 ·refine List.nodup_append.2 ⟨hI.nodup,hI'.nodup,fun a ha b hb e=>?_⟩
  subst e
  have:=hI.boxMem ha
  have:=hnew a hb
  omega
 ·rcases List.mem_append.1 hb with hb|hb
  ·exact hI.βM b hb
  ·obtain ⟨h1,h2⟩:=hI'.βM b hb
   rw [hs.M] at h1
   rw [hs.T] at h2
   exact ⟨fun hm=>h1 (.inl hm),fun lo hm=>h2 lo (.inl hm)⟩
 ·obtain ⟨h5,u,h6,h7⟩:=hI.tok t T c h1 h2
  exact ⟨h5,u,h6,h7.step hst fun g lo hg=>hold g (hI.tokLt h2 hg)⟩
 ·obtain ⟨h3,h4,h5⟩:=hI.tokF t c g lo h1 h2
  refine ⟨fun hm=>?_,h4,h5⟩
  rcases List.mem_append.1 hm with hm|hm
  ·exact h3 hm
  ·have:=hI.tokLt h1 h2
   have:=hnew g hm
   omega
theorem ops_new {o:Oper} {F:Nat->PV} {c:Operand} {al0:Array Operand} {ats:Array TypeId} {f:Nat} {caps args:List PV} {r:PV} (ho:o.op = .call { callee := .value c,args:=al0,argTypes:=ats }) (he:Ent P f) (hc:evP F c = .fn f caps) (hlt:PV.ltL 0 0 args=true)
  (ha:Ga S (al0.toList.map (evP F)++caps) args) (hl:bs.all (PV.ltL 0 0)=true) (hev:EvC P f args ⟨[],[]⟩ (.ret r) ⟨bs,[]⟩):OpS P o F S (r.ren (fun i=>S.boxes.length+i) id) (S.more bs):=by
 intro ro mm K w a next Q hI hx hn
 obtain ⟨vs,h1,h2⟩:=Lp ho he hc hx
 have h3:=Jw (ids:=[]) (tids:=[]) hI H4 hlt (by rw [Gx args hlt];exact Ga.rep hI ha h2)
 refine L4 h1 ((hev (Hl K [] []) w vs (hI.sub H4) h3).mono ?_)
 rintro e w' ⟨K0',hs,hI',v,rfl,hr⟩
 exact hn v w' (K.more K0'.β) (V2 hI hs).1 (newB_inv hI hs hI' hl) ((Aaw hI hs hI').1 r v hr)
end
theorem Nk {P:Program} (w:World) (t ty e ty':TypeId) (i:TypeInfo) (ht:P.underlying t=some (.slice e)) (hi:P.info? e=some i)
  (g sLen sCap:Nat) (cur:Array Value) (hg:w.heap[g]? = some (.cells cur ty' (0,0)))
  (a:Addr) (m c:Nat) (news:List Value) (hl:news.length=m*i.size) (hnews:∀ j u,news[j]? = some u->w.cell? (a.add j)=some u) (h1:∀ u∈news,u.oneCell'=true)
  (hroom:sLen+m<=sCap) (hfit:sLen*i.size+news.length<=cur.size) :
  (Builtin.append_ #[t,t] ty #[.slice (some ⟨g,0,none⟩) sLen sCap,.slice (some a) m c]).run P w =
   .ok (.slice (some ⟨g,0,none⟩) (sLen+m) sCap) (w.setRow g (cur.toList.take (sLen*i.size)++news++cur.toList.drop (sLen*i.size+news.length)).toArray):=by
 have hf:=run_firstCells_some (P:=P) w i.size m a m c news hl hnews
 have hst:=run_storeCells_at P g (sLen*i.size) ty' news 0 cur w hg (by simpa using hfit) h1
 simp only [Nat.add_zero] at hst
 simp [Builtin.append_,run_underlying ht,sizeOf,typeInfo,hi,Builtin.lenOf,hroom,hf,Addr.add_lit,hst]
theorem Yz {P:Program} {o:Oper} {F:Nat->PV} {S:PS} {x y:Operand} {ty:TypeId} {I:TyI} {id n cap:Nat} {c:List PV} {dv:DV} (ho:o.op = .call { callee := .builtin .append,args := #[x,y],argTypes := #[ty,ty] }) (hI:TyI.of P ty=some I) (hk:I.kind=2) (hek:I.ek=1)
  (hx:evP F x = .bsl 1 id 0 n cap) (hy:evP F y = .d (.sl 1 [[dv]])) (hc:S.boxes[id]? = some c) (hn:n<cap) (hcap:cap<=c.length):OpS P o F S (.bsl 1 id 0 (n+1) cap) (S.setBox id (c.set n (.d dv))) :=
 OpS.val fun K w ρ hInv h=>by
  have h1:=h x (by simp [ho,Op.operands,Call.operands])
  have h2:=h y (by simp [ho,Op.operands,Call.operands])
  rw [hx] at h1
  rw [hy] at h2
  simp only [Rep] at h1
  obtain ⟨b,hb,hu1⟩:=h1
  simp only [Rep,Ci] at h2
  obtain ⟨p,cap2,hu2,_,_,h3⟩:=h2
  obtain ⟨b',o',rfl,hg,hrows⟩:=h3 (by simp)
  obtain ⟨vs,hvl,hvr,hvR⟩:=Td hrows
  obtain ⟨i,d,zz,hi,hu,hz,_,hzz,hd⟩:=TyI.inv hI
  rw [hk] at hd;simp at hd
  obtain ⟨rfl,ie,hie,ze,hze,hzs,hek2,heb,hez2⟩:=hd
  have hsz:ie.size=1:=by rw [<- hek];first|exact hek2|exact hek2.symm
  obtain ⟨C,tyb,h4,h5,h6⟩:=hInv.box id b c hb hc
  have hCl:C.toList.length=c.length:=h5.length.symm▸rfl
  have hv1:=S7 hvR
  have hl1:vs.length=1:=by simpa using hvl
  have hrun:=Nk (P:=P) w ty o.type I.elem tyb ie hu hie b n cap C h4 ⟨b',o',none⟩ 1 cap2 vs (by rw [hl1,hsz]) (fun j v hj=>by rw [Addr.add_mid];exact hvr j v hj) hv1 (by omega) (by rw [hsz,hl1];simp at hCl;omega)
  rw [hsz,Nat.mul_one] at hrun
  have hnew:=setRow_heap w b C (C.toList.take n++vs++C.toList.drop (n+vs.length)).toArray tyb (0,0) h4
  obtain ⟨h9,h10⟩:=hInv.setBox (w':=w.setRow b (C.toList.take n++vs++C.toList.drop (n+vs.length)).toArray) (c':=putAt c n [.d dv]) hb (ty:=tyb) (Ao.putAt n h5 (by simpa using hvR)) (by
   intro v hv
   simp only [List.append_assoc,List.mem_append] at hv
   rcases hv with hv|hv|hv
   ·exact h6 v (List.mem_of_mem_take hv)
   ·exact hv1 v hv
   ·exact h6 v (List.mem_of_mem_drop hv)) rfl rfl rfl (by simp [World.setRow]) hnew (fun k hk=>setRow_other w b k _ hk)
  rw [Ws (by omega)] at h9
  refine ⟨_,_,K,Fo ho (by rw [hu1,hu2];exact hrun),h10,h9,?_⟩
  simp only [Rep]
  exact ⟨b,hb,rfl⟩
theorem Ac1 {P:Program} {o:Oper} {F:Nat->PV} {S:PS} {t:TypeId} {x:Operand} {low high:Option Operand} {I:TyI} {id off n cap:Nat} {j h:Int} (ho:o.op = .slice t x low high none) (hI:TyI.of P t=some I) (hk:I.kind=2) (hek:I.ek=1) (hx:evP F x = .bsl 1 id off n cap) (hlo:loN F low=some j) (hhi:hiN F n high=some h) (h0:0<=j) (h1:j<=h) (h2:h<=n) (hcap:n<=cap) (hlt:j<cap) :
  OpS P o F S (.bsl 1 id (off+j.toNat) (h.toNat-j.toNat) (cap-j.toNat)) S :=
 OpS.pure fun K w ρ hInv hr=>by
  have h3:=hr x (by simp [ho,Op.operands])
  rw [hx] at h3
  simp only [Rep] at h3
  obtain ⟨b,hb,h4⟩:=h3
  obtain ⟨i,d,z,hi,hu,hz,_,_,hd⟩:=TyI.inv hI
  rw [hk] at hd;simp at hd
  obtain ⟨rfl,ie,hie,ze,hze,hzs,hek2,_⟩:=hd
  have hsz:ie.size=1:=by rw [<- hek];first|exact hek2|exact hek2.symm
  have hbd:=Mn (P:=P) (w:=w) (b:=true) (cap:=cap) (Yp hlo (fun y hy=>hr y (by rw [ho];simp only [Op.operands];simp at hy;simp [hy]))) (Yn hhi (fun y hy=>hr y (by rw [ho];simp only [Op.operands];simp at hy;simp [hy]))) h0 h1 h2 hcap
  refine ⟨.slice (if cap=j.toNat then some ⟨b,off,none⟩ else (some ⟨b,off,none⟩:Option Addr).map (·.add (j.toNat*ie.size))) (h.toNat-j.toNat) (cap-j.toNat),?_,?_⟩
  ·simp only [execOp,ho,h4,Instr.sliceAt,Sem.run_bind,run_underlying hu,Result.andThen_ok,Instr.slice,Option.map_none,hbd]
   simp [sizeOf,typeInfo,hie,go_sem]
  ·rw [if_neg (by omega)]
   simp only [Rep]
   refine ⟨b,hb,?_⟩
   rw [hsz,Nat.mul_one]
   simp only [Option.map_some,Addr.add_mid]
theorem Ac0 {P:Program} {o:Oper} {F:Nat->PV} {S:PS} {t:TypeId} {x y:Operand} {I:TyI} {n:Nat} {z:Value} {kx ky:IntKind} (ho:o.op = .makeSlice t x y) (hI:TyI.of P t=some I) (hk:I.kind=2) (hek:I.ek=1) (hez:I.ez=[z]) (hz1:z.oneCell'=true) (hx:evP F x = .d (.v (.int kx 0))) (hy:evP F y = .d (.v (.int ky n)))
  (hn:I.eb*n<=281474976710656) (h63:n<=9223372036854775807):OpS P o F S (.bsl 1 S.boxes.length 0 0 n) (S.addBox (List.replicate n (.d (.v z)))) :=
 OpS.val fun K w ρ hInv h=>by
  have h1:=h x (by simp [ho,Op.operands])
  have h2:=h y (by simp [ho,Op.operands])
  rw [hx] at h1
  rw [hy] at h2
  have h1:=Br h1
  have h2:=Br h2
  obtain ⟨i,d,zz,hi,hu,hz,_,hzz,hd⟩:=TyI.inv hI
  rw [hk] at hd;simp at hd
  obtain ⟨rfl,ie,hie,ze,hze,hzs,hek2,heb,hez2⟩:=hd
  have hsz:ie.size=1:=by rw [<- hek];first|exact hek2|exact hek2.symm
  have hcl:ze.cells.toList=[z]:=by rw [<- hez];first|exact hez2.1|exact hez2.1.symm
  have hrun:=run_make (P:=P) w t I.elem ie ze hu hie hze kx ky 0 n (Int.le_refl _) (by omega) (by have hb:ie.bytes=I.eb:=(by first|exact heb|exact heb.symm);rw [hb];omega) (by omega)
  simp only [Int.toNat_natCast,hsz,Nat.mul_one,Int.toNat_zero] at hrun
  have hm:(madeCells ze.cells n).toList=List.replicate n z:=Nz hcl n
  obtain ⟨g1,g2⟩:=hInv.newBox (c:=List.replicate n (.d (.v z))) (C:=madeCells ze.cells n) (ty:=I.elem) (by rw [hm];exact N6 hz1 n) (by rw [hm];intro v hv;rw [List.eq_of_mem_replicate hv];exact hz1)
  refine ⟨_,_,_,by simp only [execOp,ho,h1,h2,Sem.run_bind,hrun];rfl,g2,g1,?_⟩
  simp only [Rep]
  exact ⟨w.heap.size,by show (K.β ++ [_])[_]? = _;rw [<- hInv.lenβ];simp,rfl⟩
section
variable {N:Nat} {ops:Array Oper} {rest:List Oper} {o:Oper} {F:Nat->PV} {S S':PS} {q:WRes->Prop}
theorem wmakeB0 {t:TypeId} {x y:Operand} {n:Nat} {kx ky:IntKind} (z:Value) (hg:Ak ops F o=some true) (ho:o.op = .makeSlice t x y) (hk:(A4 t&&Nat.beq (tyi t).kind 2&&Nat.beq (tyi t).ek 1)=true) (hez:(tyi t).ez=[z]) (hz1:z.oneCell'=true) (hx:evP F x = .d (.v (.int kx 0))) (hn:(tyi t).eb*n<=281474976710656) (h63:n<=9223372036854775807) (hy:evP F y = .d (.v (.int ky n))) (kk:WK Tryz.prog N ops rest (B8 N o.dst (.bsl 1 S.boxes.length 0 0 n) F) (S.addBox (List.replicate n (.d (.v z)))) q):WK Tryz.prog N ops (o::rest) F S q:=by
 simp only [Bool.and_eq_true] at hk
 exact D8 hg (Ac0 ho (Fc t hk.1.1) (Nat.eq_of_beq_eq_true hk.1.2) (Nat.eq_of_beq_eq_true hk.2) hez hz1 hx hy hn h63) kk
theorem wappB {x y:Operand} {ty:TypeId} {id n cap:Nat} {c:List PV} {dv:DV} (hg:Ak ops F o=some true) (ho:o.op = .call { callee := .builtin .append,args := #[x,y],argTypes := #[ty,ty] }) (hk:(A4 ty&&Nat.beq (tyi ty).kind 2&&Nat.beq (tyi ty).ek 1)=true) (hx:evP F x = .bsl 1 id 0 n cap) (hy:evP F y = .d (.sl 1 [[dv]])) (hc:S.boxes[id]? = some c) (hn:n<cap) (hcap:cap<=c.length) (hS:S.setBox id (c.set n (.d dv))=S') (kk:WK Tryz.prog N ops rest (B8 N o.dst (.bsl 1 id 0 (n+1) cap) F) S' q):WK Tryz.prog N ops (o::rest) F S q:=by
 simp only [Bool.and_eq_true] at hk
 subst hS
 exact D8 hg (Yz ho (Fc ty hk.1.1) (Nat.eq_of_beq_eq_true hk.1.2) (Nat.eq_of_beq_eq_true hk.2) hx hy hc hn hcap) kk
theorem wslB {t:TypeId} {x:Operand} {low high:Option Operand} {id off n cap:Nat} {j h:Int} (hg:Ak ops F o=some true) (ho:o.op = .slice t x low high none) (hk:(A4 t&&Nat.beq (tyi t).kind 2&&Nat.beq (tyi t).ek 1)=true) (hx:evP F x = .bsl 1 id off n cap) (hlo:loN F low=some j) (hhi:hiN F n high=some h) (h0:0<=j) (h1:j<=h) (h2:h<=n) (hcap:n<=cap) (hlt:j<cap) (kk:WK Tryz.prog N ops rest (B8 N o.dst (.bsl 1 id (off+j.toNat) (h.toNat-j.toNat) (cap-j.toNat)) F) S q):WK Tryz.prog N ops (o::rest) F S q:=by
 simp only [Bool.and_eq_true] at hk
 exact D8 hg (Ac1 ho (Fc t hk.1.1) (Nat.eq_of_beq_eq_true hk.1.2) (Nat.eq_of_beq_eq_true hk.2) hx hlo hhi h0 h1 h2 hcap hlt) kk
variable {c:Operand} {al:Array Operand} {ats:Array TypeId} {f:Nat} {caps args:List PV} {r r':PV} {bs:List (List PV)} {ch:Nat->Bool} {us:List (Nat×List Nat)} {k:Nat} {bm:Bool} {D:List Nat}
theorem bnew (hD:Am f args ⟨[],[]⟩ (.ret r) ⟨bs,[]⟩) (hl:bs.all (PV.ltL 0 0)=true) (hr:r.ren (fun i=>S.boxes.length+i) id=r') (hA:AgK ops k us S (S.more bs)) (kk:Bw.WB Tryz.prog N ops ch (Cg us) (fun _=>[]) (k+1) rest (B8 N o.dst r' F) (S.more bs) false D q)
  (hg:Ak ops F o=some true:=by exact rfl) (ho:o.op = .call { callee := .value c,args:=al,argTypes:=ats }:=by exact rfl) (hv:evP F c = .fn f caps:=by exact rfl) (hlt:PV.ltL 0 0 args=true:=by exact rfl) (ha:Ga S (al.toList.map (evP F)++caps) args:=by repeat (first|exact Ae|refine Ab (Ac _) ?_)) (hc:ch k=true:=by first|exact rfl|kernel_rfl):Bw.WB Tryz.prog N ops ch (Cg us) (fun _=>[]) k (o::rest) F S false D q:=by
 subst hr
 exact bchain (ops_new ho hD.1 hv hlt ha hl hD.2) kk hg hc hA
end
def Al (n:Nat):List Int:=if h:n=0 then [] else ((n % 1000000000:Nat):Int)::Al (n / 1000000000)
termination_by n
decreasing_by omega
theorem At:Al 0=[]:=by rw [Al];rfl
theorem Ca {n:Nat} (h:n≠0):Al n=((n % 1000000000:Nat):Int)::Al (n / 1000000000):=by rw [Al,dif_neg h]
theorem Bi (n:Nat):Aj (Al n)=n:=by
 induction n using Nat.strongRecOn with
 |ind n ih =>
  by_cases h:n=0
  ·subst h;rw [At];rfl
  ·rw [Ca h,Aj,ih _ (by omega)];omega
theorem Bq (n:Nat):∀ x∈Al n,Af x:=by
 induction n using Nat.strongRecOn with
 |ind n ih =>
  by_cases h:n=0
  ·subst h;rw [At];simp
  ·rw [Ca h]
   intro x hx
   rcases List.mem_cons.1 hx with rfl|hx
   ·exact ⟨by omega,by omega⟩
   ·exact ih _ (by omega) x hx
theorem C7 {n:Nat}:Al n=[]<->n=0:=by
 constructor
 ·intro h;have:=Bi n;rw [h] at this;simp only [Aj] at this;omega
 ·rintro rfl;exact At
theorem N9:∀ {l:List Int},(∀ x∈l,Af x)->Bs l=Al (Aj l).toNat
 |[],_=>by simp [Bs,Aj,At]
 |x::r,h=>by
  have hr:=fun y hy=>h y (List.mem_cons_of_mem x hy)
  have h1:=N9 hr
  have h0:=Aw hr
  obtain ⟨h2,h3⟩:=h x List.mem_cons_self
  rw [Bs,Aj]
  by_cases hz:Aj r=0
  ·rw [h1,hz]
   simp only [Int.toNat_zero,At]
   split
   ·rename_i e;subst e;simp [At]
   ·rename_i e
    rw [Ca (by omega)]
    simp only [Int.mul_zero,Int.add_zero]
    rw [show x.toNat / 1000000000=0 by omega,At]
    congr 1;omega
  ·rw [h1]
   have hn:Al (Aj r).toNat≠[]:=by rw [Ne,C7];omega
   rw [Ca (n:=(x+1000000000*Aj r).toNat) (by omega),show (x+1000000000*Aj r).toNat / 1000000000=(Aj r).toNat by omega]
   split
   ·rename_i e;exact absurd e hn
   ·rename_i y s e;rw [e];congr 1;omega
theorem Jf {n k:Nat} (h:n<1000000000 ^ k):(Al n).length<=k:=by
 induction k generalizing n with
 |zero=>simp at h;subst h;rw [At];exact Nat.le_refl _
 |succ k ih =>
  by_cases hn:n=0
  ·subst hn;rw [At];simp
  ·rw [Ca hn]
   have:=ih (n:=n / 1000000000) (by rw [Nat.pow_succ] at h;omega)
   simp;exact this
theorem Lb {n k : Nat} (h : (Al n).length <= k) : n < 1000000000 ^ k := by
  induction k generalizing n with
  | zero => have : Al n = [] := List.length_eq_zero_iff.1 (by omega)
            rw [C7] at this; subst this; decide
  | succ k ih =>
    by_cases hn : n = 0
    . subst hn; exact Nat.pow_pos (by decide)
    . rw [Ca hn] at h
      have := ih (n := n / 1000000000) (by simpa using h)
      rw [Nat.pow_succ]; omega
theorem A1 (l:List Int):∀ i,Aj (l.take (i+1))=Aj (l.take i)+1000000000 ^ i*l.getD i 0:=by
 intro i
 by_cases h:i<l.length
 ·rw [List.take_succ_eq_append_getElem h,Bx,List.length_take,Nat.min_eq_left (by omega),List.getD_eq_getElem?_getD,List.getElem?_eq_getElem h]
  simp [Aj]
 ·rw [List.take_of_length_le (by omega),List.take_of_length_le (by omega),List.getD_eq_getElem?_getD,List.getElem?_eq_none (by omega)];simp
theorem Gw {a b:Nat} (h:a<=b):(1000000000:Int) ^ a<=1000000000 ^ b:=by
 have h1:((1000000000 ^ a:Nat):Int)<=((1000000000 ^ b:Nat):Int):=Int.ofNat_le.2 (Nat.pow_le_pow_right (by decide) h)
 rw [Int.natCast_pow,Int.natCast_pow] at h1;exact h1
theorem Js (k:Nat):(0:Int)<1000000000 ^ k:=Int.pow_pos (by decide)
def Bk (m o:List Int):Nat->List Int×Int
 |0=>([],0)
 |i+1=>((Bk m o i).1++[(m.getD i 0+(Bk m o i).2+o.getD i 0) % 1000000000],(m.getD i 0+(Bk m o i).2+o.getD i 0) / 1000000000)
def Ni (m o:List Int):List Int:=if 0<(Bk m o m.length).2 then (Bk m o m.length).1++[(Bk m o m.length).2] else (Bk m o m.length).1
theorem Cf (m o:List Int):∀ i,(Bk m o i).1.length=i
 |0=>rfl
 |i+1=>by simp [Bk,Cf m o i]
theorem N3 {m o:List Int} (hm:∀ z∈m,Af z) (ho:∀ z∈o,Af z):∀ i,(∀ z∈(Bk m o i).1,Af z)/\0<=(Bk m o i).2/\(Bk m o i).2<=1
 |0=>by simp [Bk]
 |i+1=>by
  obtain ⟨h1,h2,h3⟩:=N3 hm ho i
  obtain ⟨h4,h5⟩:=Ay hm i
  obtain ⟨h6,h7⟩:=Ay ho i
  simp only [Bk]
  refine ⟨fun z hz=>?_,by omega,by omega⟩
  rcases List.mem_append.1 hz with hz|hz
  ·exact h1 z hz
  ·simp at hz;subst hz;exact ⟨by omega,by omega⟩
theorem Wp (m o:List Int):∀ i,Aj (Bk m o i).1+1000000000 ^ i*(Bk m o i).2=Aj (m.take i)+Aj (o.take i)
 |0=>by simp [Bk,Aj]
 |i+1=>by
  have h:=Wp m o i
  rw [A1,A1,Bk,Bx,Cf]
  simp only [Aj]
  rw [Int.pow_succ]
  have hd:=Int.mul_ediv_add_emod (m.getD i 0+(Bk m o i).2+o.getD i 0) 1000000000
  grind
theorem Wq {m o:List Int} (hm:∀ z∈m,Af z) (ho:∀ z∈o,Af z) (hl:o.length<=m.length):Aj (Ni m o)=Aj m+Aj o/\(∀ z∈Ni m o,Af z)/\(Ni m o).length<=m.length+1:=by
 have h:=Wp m o m.length
 rw [List.take_length,List.take_of_length_le hl] at h
 obtain ⟨h1,h2,h3⟩:=N3 hm ho m.length
 have h4:=Cf m o m.length
 unfold Ni
 split
 ·refine ⟨?_,fun z hz=>?_,by simp [h4]⟩
  ·rw [Bx,h4];simp only [Aj];grind
  ·rcases List.mem_append.1 hz with hz|hz
   ·exact h1 z hz
   ·simp at hz;subst hz;exact ⟨by omega,by omega⟩
 ·refine ⟨?_,h1,by omega⟩
  have:(Bk m o m.length).2=0:=by omega
  rw [this] at h;omega
def Av (m o:List Int):Nat->List Int×Int
 |0=>([],0)
 |i+1=>((Av m o i).1++[(if m.getD i 0-(Av m o i).2-o.getD i 0<0 then m.getD i 0-(Av m o i).2-o.getD i 0+1000000000 else m.getD i 0-(Av m o i).2-o.getD i 0)],if m.getD i 0-(Av m o i).2-o.getD i 0<0 then 1 else 0)
def J5 (m o:List Int):List Int:=(Av m o m.length).1
theorem Bv (m o:List Int):∀ i,(Av m o i).1.length=i
 |0=>rfl
 |i+1=>by simp [Av,Bv m o i]
theorem Hc {m o:List Int} (hm:∀ z∈m,Af z) (ho:∀ z∈o,Af z):∀ i,(∀ z∈(Av m o i).1,Af z)/\0<=(Av m o i).2/\(Av m o i).2<=1
 |0=>by simp [Av]
 |i+1=>by
  obtain ⟨h1,h2,h3⟩:=Hc hm ho i
  obtain ⟨h4,h5⟩:=Ay hm i
  obtain ⟨h6,h7⟩:=Ay ho i
  simp only [Av]
  refine ⟨fun z hz=>?_,by split<;>omega,by split<;>omega⟩
  rcases List.mem_append.1 hz with hz|hz
  ·exact h1 z hz
  ·rw [List.mem_singleton] at hz;subst hz;unfold Af;split<;>omega
theorem Hd (m o:List Int):∀ i,Aj (Av m o i).1-1000000000 ^ i*(Av m o i).2=Aj (m.take i)-Aj (o.take i)
 |0=>by simp [Av,Aj]
 |i+1=>by
  have h:=Hd m o i
  rw [A1,A1,Av,Bx,Bv]
  simp only [Aj]
  rw [Int.pow_succ]
  split<;>grind
theorem Mi {m o:List Int} (hm:∀ z∈m,Af z) (ho:∀ z∈o,Af z) (hl:o.length<=m.length) (hv:Aj o<=Aj m):Aj (J5 m o)=Aj m-Aj o/\(∀ z∈J5 m o,Af z)/\(J5 m o).length=m.length:=by
 have h:=Hd m o m.length
 rw [List.take_length,List.take_of_length_le hl] at h
 obtain ⟨h1,h2,h3⟩:=Hc hm ho m.length
 have h4:=Bv m o m.length
 have h5:=Ck h1
 rw [h4] at h5
 have hb:(Av m o m.length).2=0:=by
  rcases (show (Av m o m.length).2=0\/(Av m o m.length).2=1 by omega) with e|e
  ·exact e
  ·rw [e] at h;simp at h;omega
 rw [hb] at h
 exact ⟨by unfold J5;omega,h1,h4⟩
def Uq (m o:List Int):Nat->Int
 |0=>0
 |i+1=>if m.getD i 0<o.getD i 0 then -1 else if o.getD i 0<m.getD i 0 then 1 else Uq m o i
def Cp (a b:Int):Int:=if a<b then -1 else if b<a then 1 else 0
theorem Ku {m o:List Int} (hm:∀ z∈m,Af z) (ho:∀ z∈o,Af z):∀ i,Uq m o i=Cp (Aj (m.take i)) (Aj (o.take i))
 |0=>by simp [Uq,Aj,Cp]
 |i+1=>by
  have h:=Ku hm ho i
  rw [A1,A1,Uq]
  have h1:=Ck (l:=m.take i) fun z hz=>hm z (List.mem_of_mem_take hz)
  have h2:=Ck (l:=o.take i) fun z hz=>ho z (List.mem_of_mem_take hz)
  have h3:=Aw (l:=m.take i) fun z hz=>hm z (List.mem_of_mem_take hz)
  have h4:=Aw (l:=o.take i) fun z hz=>ho z (List.mem_of_mem_take hz)
  have h5:(1000000000:Int) ^ (m.take i).length<=1000000000 ^ i:=Gw (by rw [List.length_take];omega)
  have h6:(1000000000:Int) ^ (o.take i).length<=1000000000 ^ i:=Gw (by rw [List.length_take];omega)
  have h7:=Js i
  split
  ·rename_i hlt
   have h8:(1000000000:Int) ^ i*(m.getD i 0+1)<=1000000000 ^ i*o.getD i 0:=Int.mul_le_mul_of_nonneg_left (by omega) (by omega)
   rw [Int.mul_add] at h8
   rw [Cp,if_pos (by omega)]
  ·split
   ·rename_i hlt
    have h8:(1000000000:Int) ^ i*(o.getD i 0+1)<=1000000000 ^ i*m.getD i 0:=Int.mul_le_mul_of_nonneg_left (by omega) (by omega)
    rw [Int.mul_add] at h8
    rw [Cp,if_neg (by omega),if_pos (by omega)]
   ·have e:m.getD i 0=o.getD i 0:=by omega
    rw [h,e];unfold Cp
    congr 1
    ·simp
    ·congr 1;simp
def cmpL (m o:List Int):Int:=if m.length<o.length then -1 else if o.length<m.length then 1 else Uq m o m.length
theorem Hy {n:Nat} (h:n≠0):1000000000 ^ ((Al n).length-1)<=n:=by
 induction n using Nat.strongRecOn with
 |ind n ih =>
  rw [Ca h]
  simp only [List.length_cons,Nat.add_sub_cancel]
  by_cases h2:n / 1000000000=0
  ·rw [h2,At];simp;omega
  ·have:=ih _ (by omega) h2
   have hl:(Al (n / 1000000000)).length≠0:=by rw [Ne,List.length_eq_zero_iff,C7];exact h2
   obtain ⟨k,hk⟩:∃ k,(Al (n / 1000000000)).length=k+1:=⟨(Al (n / 1000000000)).length-1,by omega⟩
   rw [hk] at this |-
   simp only [Nat.add_sub_cancel] at this
   rw [Nat.pow_succ];omega
theorem Kv (a b:Nat):cmpL (Al a) (Al b)=Cp a b:=by
 unfold cmpL
 have ha:=Ck (Bq a)
 have hb:=Ck (Bq b)
 rw [Bi] at ha hb
 split
 ·rename_i h
  have h0:b≠0:=by rintro rfl;rw [At] at h;simp at h
  have h1:=Hy h0
  have h2:(1000000000:Int) ^ (Al a).length<=1000000000 ^ ((Al b).length-1):=Gw (by omega)
  have h3:((1000000000 ^ ((Al b).length-1):Nat):Int)<=b:=by exact_mod_cast h1
  rw [Int.natCast_pow] at h3
  rw [Cp,if_pos];exact Int.lt_of_lt_of_le ha (Int.le_trans h2 h3)
 ·split
  ·rename_i h
   have h0:a≠0:=by rintro rfl;rw [At] at h;simp at h
   have h1:=Hy h0
   have h2:(1000000000:Int) ^ (Al b).length<=1000000000 ^ ((Al a).length-1):=Gw (by omega)
   have h3:((1000000000 ^ ((Al a).length-1):Nat):Int)<=a:=by exact_mod_cast h1
   rw [Int.natCast_pow] at h3
   have h4:=Int.lt_of_lt_of_le hb (Int.le_trans h2 h3)
   rw [Cp,if_neg (by omega),if_pos h4]
  ·have he:(Al a).length=(Al b).length:=by omega
   rw [Ku (Bq a) (Bq b),List.take_length,he,List.take_length,Bi,Bi]
theorem Fw:∀ {l:List Int} {j:Nat} {v:Int},j<l.length->Aj (l.set j v)=Aj l+1000000000 ^ j*(v-l.getD j 0)
 |x::r,0,v,_=>by simp [Aj];omega
 |x::r,j+1,v,h=>by
  have h1:=Fw (l:=r) (j:=j) (v:=v) (by simpa using h)
  simp only [List.set_cons_succ,Aj,h1,List.getD_cons_succ,Int.pow_succ]
  grind
theorem Hu {l:List Int} {i j:Nat} {v:Int} (h:i≠j):(l.set i v).getD j 0=l.getD j 0:=by
 simp only [List.getD_eq_getElem?_getD,List.getElem?_set_ne h]
theorem Ge (x:Int) (o:List Int) (i:Nat) (u:List Int):∀ (k j:Nat),i+k<=j->(Gy x o i u k).1.getD j 0=u.getD j 0
 |0,_,_=>rfl
 |k+1,j,h=>by rw [Gy,Hu (by omega),Ge x o i u k j (by omega)]
theorem Ln {x:Int} {o:List Int} {i:Nat} {u:List Int} (hu:i+o.length<=u.length):∀ k,k<=o.length->Aj (Gy x o i u k).1+1000000000 ^ (i+k)*(Gy x o i u k).2=Aj u+1000000000 ^ i*(x*Aj (o.take k))
 |0,_=>by simp [Gy,Aj]
 |k+1,hk=>by
  have h:=Ln (x:=x) hu k (by omega)
  rw [Gy,Fw (by rw [Ei];omega),A1,show i+(k+1)=(i+k)+1 by omega,Int.pow_succ,Int.pow_add]
  rw [Int.pow_add] at h
  have hd:=Int.mul_ediv_add_emod (x*o.getD k 0+(Gy x o i u k).1.getD (i+k) 0+(Gy x o i u k).2) 1000000000
  grind
theorem Pe {x:Int} {o:List Int} {i:Nat} {u:List Int} {j:Nat} (h:i+o.length<j):(Xt x o i u).getD j 0=u.getD j 0:=by
 rw [Xt,Hu (by omega),Ge _ _ _ _ _ _ (by omega)]
theorem Tc {x:Int} {o:List Int} {i:Nat} {u:List Int} (hu:i+o.length<u.length) (h0:u.getD (i+o.length) 0=0):Aj (Xt x o i u)=Aj u+1000000000 ^ i*(x*Aj o):=by
 have h:=Ln (x:=x) (i:=i) (u:=u) (o:=o) (by omega) o.length (Nat.le_refl _)
 rw [List.take_length] at h
 rw [Xt,Fw (by rw [Ei];omega),Ge _ _ _ _ _ _ (Nat.le_refl _),h0,Int.sub_zero];exact h
theorem He (m o:List Int):∀ (i j:Nat),i+o.length<=j->(Dg m o i).getD j 0=0
 |0,j,_=>by
  rw [Dg,List.getD_eq_getElem?_getD]
  by_cases h:j<m.length+o.length
  ·rw [List.getElem?_eq_getElem (by simpa using h)];simp
  ·rw [List.getElem?_eq_none (by simpa using h)];rfl
 |i+1,j,h=>by rw [Dg,Pe (by omega),He m o i j (by omega)]
theorem Tw (n:Nat):Aj (List.replicate n 0)=0:=by
 induction n with
 |zero=>rfl
 |succ n ih=>rw [List.replicate_succ,Aj,ih];rfl
theorem Le (m o:List Int):∀ i,i<=m.length->Aj (Dg m o i)=Aj (m.take i)*Aj o
 |0,_=>by simp [Dg,Tw,Aj]
 |i+1,h=>by
  have h1:=Le m o i (by omega)
  rw [Dg,Tc (by rw [E9];omega) (He m o i _ (Nat.le_refl _)),A1,h1]
  grind
theorem mulL_val (m o:List Int):Aj (mulL m o)=Aj m*Aj o:=by
 have:=Le m o m.length (Nat.le_refl _)
 rwa [List.take_length] at this
def Di (by':Int) (m:List Int):Nat->List Int×Int
 |0=>([],0)
 |i+1=>((Di by' m i).1++[(m.getD i 0*by'+(Di by' m i).2) % 1000000000],(m.getD i 0*by'+(Di by' m i).2) / 1000000000)
def D3 (m:List Int) (by':Int):List Int:=(Di by' m m.length).1++[(Di by' m m.length).2]
theorem Ej (b:Int) (m:List Int):∀ i,(Di b m i).1.length=i
 |0=>rfl
 |i+1=>by simp [Di,Ej b m i]
theorem Ir {x y c:Int} (hx:Af x) (hy:Af y) (hc:Af c):0<=x*y+c/\x*y+c<1000000000*1000000000/\(x*y+c) / 1000000000<1000000000:=by
 obtain ⟨h1,h2⟩:=hx
 obtain ⟨h3,h4⟩:=hy
 obtain ⟨h7,h8⟩:=hc
 have a:=Int.mul_nonneg h1 h3
 have b:x*y<=999999999*999999999:=Int.mul_le_mul (by omega) (by omega) h3 (by omega)
 omega
theorem N7 {b:Int} {m:List Int} (hb:Af b) (hm:∀ z∈m,Af z):∀ i,(∀ z∈(Di b m i).1,Af z)/\Af (Di b m i).2
 |0=>by simp [Di,Af]
 |i+1=>by
  obtain ⟨h1,h2⟩:=N7 hb hm i
  have h3:=Ir (Ay hm i) hb h2
  simp only [Di]
  refine ⟨fun z hz=>?_,by unfold Af;omega⟩
  rcases List.mem_append.1 hz with hz|hz
  ·exact h1 z hz
  ·rw [List.mem_singleton] at hz;subst hz;unfold Af;omega
theorem Ww (b:Int) (m:List Int):∀ i,Aj (Di b m i).1+1000000000 ^ i*(Di b m i).2=b*Aj (m.take i)
 |0=>by simp [Di,Aj]
 |i+1=>by
  have h:=Ww b m i
  rw [A1,Di,Bx,Ej]
  simp only [Aj]
  rw [Int.pow_succ]
  have hd:=Int.mul_ediv_add_emod (m.getD i 0*b+(Di b m i).2) 1000000000
  grind
theorem Lr {m:List Int} {b:Int}:Aj (D3 m b)=b*Aj m:=by
 have h:=Ww b m m.length
 rw [List.take_length] at h
 rw [D3,Bx,Ej];simp only [Aj];grind
theorem Tf {m:List Int} {b:Int} (hb:Af b) (hm:∀ z∈m,Af z):∀ z∈D3 m b,Af z:=fun z hz=>by
 obtain ⟨h1,h2⟩:=N7 hb hm m.length
 rcases List.mem_append.1 hz with hz|hz
 ·exact h1 z hz
 ·rw [List.mem_singleton] at hz;subst hz;exact h2
theorem Lq (m:List Int) (b:Int):(D3 m b).length=m.length+1:=by simp [D3,Ej]
theorem E8 {l:List Int} {i:Nat} (h:i<l.length):(l.map B4)[((i:Nat):Int).toNat]? = some (B4 (l.getD i 0)):=by
 rw [List.getD_eq_getElem?_getD];simp [h]
theorem Ht {l:List Int} {i:Nat} (h:l.length<=i):l.getD i 0=0:=by
 rw [List.getD_eq_getElem?_getD,List.getElem?_eq_none h];rfl
@[reducible] def D7 (v:Nat) (l:List Int):PS:=⟨[],[⟨v,1,l.map B4,148⟩]⟩
def Ac5 (a b:List Int):List Int:=if a.length<b.length then Ni b a else Ni a b
set_option maxHeartbeats 1000000 in
theorem plus_do (a b:List Int) (ha:∀ z∈a,Af z) (hb:∀ z∈b,Af z) (hal:a.length<=1000000) (hbl:b.length<=1000000):Am 113 [B1 a,B1 b] ⟨[],[]⟩ (.ret (B1 (Ac5 a b))) ⟨[],[]⟩:=by
 by_cases hc:a.length<b.length
 ·have hm:=hb
  have ho:=ha
  have hres:Ac5 a b=Ni b a:=if_pos hc
  refine C5 Tryz.func113 rfl rfl (Nat.le_of_ble_eq_true rfl) (fun _=>P8 ?_)
  repeat' (first|refine rl1 ?_|refine rs1 ?_ ?_<;>intro h|fail)
  ·have hlm:((b.map B4).length:Int)=b.length:=by simp
   repeat' (first|refine rl1 ?_|refine rs1 ?_ ?_<;>intro h|fail)
   refine Ab3 (n:=b.length+1) rfl rfl rfl rfl rfl (by show PV.d (.v (.int .i64 (_+_)))=_;rw [hlm];rfl) (by show 4*(b.length+1)<=_;omega) ?_
   repeat' (first|refine rl1 ?_|refine rs1 ?_ ?_<;>intro h|fail)
   refine B3 (ι := Nat) (ok:=fun i=>i<=b.length) (L:=fun i=>[(1,B1 a),(5,.hd 0 i),(6,.d (.v (.int .u32 (Bk b a i).2))),(21,B1 b),(22,Ah (b.map B4).length),(23,Ah i)]) (Sx:=fun i=>D7 i (Bk b a i).1) (μ := fun i=>b.length-i) 0 (Nat.zero_le _) (by exact (by repeat (first|exact Ag|refine Aa rfl ?_))) rfl ?_
   rintro i hi
   obtain ⟨hk1,hk2,hk3⟩:=N3 hm ho i
   obtain ⟨hx1,hx2⟩:=Ay hm i
   obtain ⟨hy1,hy2⟩:=Ay ho i
   repeat' (first|refine rl1 ?_|refine rs1 ?_ ?_<;>intro h|fail)
   ·have hlt:i<b.length:=by simpa using h
    refine wix (B4 (b.getD i 0)) rfl rfl rfl rfl rfl (E8 hlt) (by omega) ?_
    repeat' (first|refine rl1 ?_|refine rs1 ?_ ?_<;>intro h|fail)
    ·have hlo:i<a.length:=by simpa using h
     refine wix (B4 (a.getD i 0)) rfl rfl rfl rfl rfl (E8 hlo) (by omega) ?_
     repeat' (first|refine rl1 ?_|refine rs1 ?_ ?_<;>intro h|fail)
     refine T9 (news:=[B4 ((b.getD i 0+(Bk b a i).2+a.getD i 0) % 1000000000)]) (S':=D7 (i+1) ((Bk b a i).1++[(b.getD i 0+(Bk b a i).2+a.getD i 0) % 1000000000])) rfl rfl rfl rfl rfl rfl ?_ ?_ (by rw [D7,List.map_append];rfl) ?_
     ·rw [List.length_map,Cf];show (i+1)*4<=_;omega
     ·rw [List.length_map,Cf];show i+1<=_;omega
     repeat' (first|refine rl1 ?_|refine rs1 ?_ ?_<;>intro h|fail)
     exact ⟨i+1,hlt,by omega,(by repeat (first|exact Ag|refine Aa rfl ?_)),rfl⟩
    ·have hlo:a.length<=i:=by simpa using h
     have hz:=Ht hlo
     refine T9 (news:=[B4 ((b.getD i 0+(Bk b a i).2) % 1000000000)]) (S':=D7 (i+1) ((Bk b a i).1++[(b.getD i 0+(Bk b a i).2) % 1000000000])) rfl rfl rfl rfl rfl rfl ?_ ?_ (by rw [D7,List.map_append];rfl) ?_
     ·rw [List.length_map,Cf];show (i+1)*4<=_;omega
     ·rw [List.length_map,Cf];show i+1<=_;omega
     repeat' (first|refine rl1 ?_|refine rs1 ?_ ?_<;>intro h|fail)
     have e:b.getD i 0+(Bk b a i).2+a.getD i 0=b.getD i 0+(Bk b a i).2:=by rw [hz];omega
     refine ⟨i+1,hlt,by omega,?_,?_⟩
     ·refine Aa rfl (Aa rfl (Aa ?_ (by repeat (first|exact Ag|refine Aa rfl ?_))))
      show _=PV.d (.v (.int .u32 ((b.getD i 0+(Bk b a i).2+a.getD i 0) / 1000000000)))
      rw [e];rfl
     ·show _=D7 (i+1) ((Bk b a i).1++[(b.getD i 0+(Bk b a i).2+a.getD i 0) % 1000000000])
      rw [e]
   ·rename_i g
    obtain rfl:i=b.length:=by simp at g;omega
    have hpos:0<(Bk b a b.length).2:=by simpa using h
    refine T9 (news:=[B4 (Bk b a b.length).2]) (S':=D7 (b.length+1) ((Bk b a b.length).1++[(Bk b a b.length).2])) rfl rfl rfl rfl rfl rfl ?_ ?_ (by rw [D7,List.map_append];rfl) ?_
    ·rw [List.length_map,Cf];show (b.length+1)*4<=_;omega
    ·rw [List.length_map,Cf];show b.length+1<=_;omega
    repeat' (first|refine rl1 ?_|refine rs1 ?_ ?_<;>intro h|fail)
    rw [hres,show Ni b a=(Bk b a b.length).1++[(Bk b a b.length).2] from if_pos hpos]
    exact Xs (.inr rfl) rfl rfl (J7 (Kc (Ep rfl)))
   ·rename_i g
    obtain rfl:i=b.length:=by simp at g;omega
    have hpos:¬ 0<(Bk b a b.length).2:=by simpa using h
    rw [hres,show Ni b a=(Bk b a b.length).1 from if_neg hpos]
    exact Xs (.inr rfl) rfl rfl (J7 (Kc (Ep rfl)))
  ·exfalso;simp at h;omega
 ·have hm:=ha
  have ho:=hb
  have hres:Ac5 a b=Ni a b:=if_neg hc
  refine C5 Tryz.func113 rfl rfl (Nat.le_of_ble_eq_true rfl) (fun _=>P8 ?_)
  repeat' (first|refine rl1 ?_|refine rs1 ?_ ?_<;>intro h|fail)
  ·exfalso;simp at h;omega
  ·have hlm:((a.map B4).length:Int)=a.length:=by simp
   repeat' (first|refine rl1 ?_|refine rs1 ?_ ?_<;>intro h|fail)
   refine Ab3 (n:=a.length+1) rfl rfl rfl rfl rfl (by show PV.d (.v (.int .i64 (_+_)))=_;rw [hlm];rfl) (by show 4*(a.length+1)<=_;omega) ?_
   repeat' (first|refine rl1 ?_|refine rs1 ?_ ?_<;>intro h|fail)
   refine B3 (ι := Nat) (ok:=fun i=>i<=a.length) (L:=fun i=>[(1,B1 b),(5,.hd 0 i),(6,.d (.v (.int .u32 (Bk a b i).2))),(21,B1 a),(22,Ah (a.map B4).length),(23,Ah i)]) (Sx:=fun i=>D7 i (Bk a b i).1) (μ := fun i=>a.length-i) 0 (Nat.zero_le _) (by exact (by repeat (first|exact Ag|refine Aa rfl ?_))) rfl ?_
   rintro i hi
   obtain ⟨hk1,hk2,hk3⟩:=N3 hm ho i
   obtain ⟨hx1,hx2⟩:=Ay hm i
   obtain ⟨hy1,hy2⟩:=Ay ho i
   repeat' (first|refine rl1 ?_|refine rs1 ?_ ?_<;>intro h|fail)
   ·have hlt:i<a.length:=by simpa using h
    refine wix (B4 (a.getD i 0)) rfl rfl rfl rfl rfl (E8 hlt) (by omega) ?_
    repeat' (first|refine rl1 ?_|refine rs1 ?_ ?_<;>intro h|fail)
    ·have hlo:i<b.length:=by simpa using h
     refine wix (B4 (b.getD i 0)) rfl rfl rfl rfl rfl (E8 hlo) (by omega) ?_
     repeat' (first|refine rl1 ?_|refine rs1 ?_ ?_<;>intro h|fail)
     refine T9 (news:=[B4 ((a.getD i 0+(Bk a b i).2+b.getD i 0) % 1000000000)]) (S':=D7 (i+1) ((Bk a b i).1++[(a.getD i 0+(Bk a b i).2+b.getD i 0) % 1000000000])) rfl rfl rfl rfl rfl rfl ?_ ?_ (by rw [D7,List.map_append];rfl) ?_
     ·rw [List.length_map,Cf];show (i+1)*4<=_;omega
     ·rw [List.length_map,Cf];show i+1<=_;omega
     repeat' (first|refine rl1 ?_|refine rs1 ?_ ?_<;>intro h|fail)
     exact ⟨i+1,hlt,by omega,(by repeat (first|exact Ag|refine Aa rfl ?_)),rfl⟩
    ·have hlo:b.length<=i:=by simpa using h
     have hz:=Ht hlo
     refine T9 (news:=[B4 ((a.getD i 0+(Bk a b i).2) % 1000000000)]) (S':=D7 (i+1) ((Bk a b i).1++[(a.getD i 0+(Bk a b i).2) % 1000000000])) rfl rfl rfl rfl rfl rfl ?_ ?_ (by rw [D7,List.map_append];rfl) ?_
     ·rw [List.length_map,Cf];show (i+1)*4<=_;omega
     ·rw [List.length_map,Cf];show i+1<=_;omega
     repeat' (first|refine rl1 ?_|refine rs1 ?_ ?_<;>intro h|fail)
     have e:a.getD i 0+(Bk a b i).2+b.getD i 0=a.getD i 0+(Bk a b i).2:=by rw [hz];omega
     refine ⟨i+1,hlt,by omega,?_,?_⟩
     ·refine Aa rfl (Aa rfl (Aa ?_ (by repeat (first|exact Ag|refine Aa rfl ?_))))
      show _=PV.d (.v (.int .u32 ((a.getD i 0+(Bk a b i).2+b.getD i 0) / 1000000000)))
      rw [e];rfl
     ·show _=D7 (i+1) ((Bk a b i).1++[(a.getD i 0+(Bk a b i).2+b.getD i 0) % 1000000000])
      rw [e]
   ·rename_i g
    obtain rfl:i=a.length:=by simp at g;omega
    have hpos:0<(Bk a b a.length).2:=by simpa using h
    refine T9 (news:=[B4 (Bk a b a.length).2]) (S':=D7 (a.length+1) ((Bk a b a.length).1++[(Bk a b a.length).2])) rfl rfl rfl rfl rfl rfl ?_ ?_ (by rw [D7,List.map_append];rfl) ?_
    ·rw [List.length_map,Cf];show (a.length+1)*4<=_;omega
    ·rw [List.length_map,Cf];show a.length+1<=_;omega
    repeat' (first|refine rl1 ?_|refine rs1 ?_ ?_<;>intro h|fail)
    rw [hres,show Ni a b=(Bk a b a.length).1++[(Bk a b a.length).2] from if_pos hpos]
    exact Xs (.inr rfl) rfl rfl (J7 (Kc (Ep rfl)))
   ·rename_i g
    obtain rfl:i=a.length:=by simp at g;omega
    have hpos:¬ 0<(Bk a b a.length).2:=by simpa using h
    rw [hres,show Ni a b=(Bk a b a.length).1 from if_neg hpos]
    exact Xs (.inr rfl) rfl rfl (J7 (Kc (Ep rfl)))
def M5 (m o:List Int) (i:Nat):Int:=m.getD i 0-(Av m o i).2-o.getD i 0
theorem Qy {m o:List Int} {i:Nat} (h:M5 m o i<0):Av m o (i+1)=((Av m o i).1++[M5 m o i+1000000000],1):=by
 rw [Av];unfold M5 at h |-;rw [if_pos h,if_pos h]
theorem Qz {m o:List Int} {i:Nat} (h:¬ M5 m o i<0):Av m o (i+1)=((Av m o i).1++[M5 m o i],0):=by
 rw [Av];unfold M5 at h |-;rw [if_neg h,if_neg h]
set_option maxHeartbeats 1000000 in
theorem Aav (m o:List Int) (hm:∀ z∈m,Af z) (ho:∀ z∈o,Af z) (hml:m.length<=1000000):Am 115 [B1 m,B1 o] ⟨[],[]⟩ (.ret (B1 (J5 m o))) ⟨[],[]⟩:=by
 refine C5 Tryz.func115 rfl rfl (Nat.le_of_ble_eq_true rfl) (fun _=>P8 ?_)
 have hlm:((m.map B4).length:Int)=m.length:=by simp
 repeat' (first|refine rl1 ?_|refine rs1 ?_ ?_<;>intro h|fail)
 refine Ab3 (n:=m.length) rfl rfl rfl rfl rfl (by show PV.d (.v (.int .i64 _))=_;rw [hlm]) (by show 4*m.length<=_;omega) ?_
 repeat' (first|refine rl1 ?_|refine rs1 ?_ ?_<;>intro h|fail)
 refine B3 (ι := Nat) (ok:=fun i=>i<=m.length) (L:=fun i=>[(1,B1 o),(5,.hd 0 i),(6,.d (.v (.int .i64 (Av m o i).2))),(13,B1 m),(14,Ah (m.map B4).length),(15,Ah i)]) (Sx:=fun i=>D7 i (Av m o i).1) (μ := fun i=>m.length-i) 0 (Nat.zero_le _) (by exact (by repeat (first|exact Ag|refine Aa rfl ?_))) rfl ?_
 rintro i hi
 obtain ⟨hk1,hk2,hk3⟩:=Hc hm ho i
 obtain ⟨hx1,hx2⟩:=Ay hm i
 obtain ⟨hy1,hy2⟩:=Ay ho i
 repeat' (first|refine rl1 ?_|refine rs1 ?_ ?_<;>intro h|fail)
 ·have hlt:i<m.length:=by simpa using h
  refine wix (B4 (m.getD i 0)) rfl rfl rfl rfl rfl (E8 hlt) (by omega) ?_
  repeat' (first|refine rl1 ?_|refine rs1 ?_ ?_<;>intro h|fail)
  refine Jz (.d (.v (.int .i64 (m.getD i 0)))) rfl rfl rfl ⟨by show (-9223372036854775808:Int)<=_;omega,by show _<=(9223372036854775807:Int);omega⟩ ?_
  repeat' (first|refine rl1 ?_|refine rs1 ?_ ?_<;>intro h|fail)
  ·have hlo:i<o.length:=by simpa using h
   refine wix (B4 (o.getD i 0)) rfl rfl rfl rfl rfl (E8 hlo) (by omega) ?_
   repeat' (first|refine rl1 ?_|refine rs1 ?_ ?_<;>intro h|fail)
   refine Jz (.d (.v (.int .i64 (o.getD i 0)))) rfl rfl rfl ⟨by show (-9223372036854775808:Int)<=_;omega,by show _<=(9223372036854775807:Int);omega⟩ ?_
   repeat' (first|refine rl1 ?_|refine rs1 ?_ ?_<;>intro h|fail)
   ·have hneg:M5 m o i<0:=by have h':=of_decide_eq_true h;unfold M5;omega
    have hk:=Qy hneg
    refine wst rfl rfl ⟨by show (0:Int)<=_;unfold M5 at hneg;omega,by show _<=(4294967295:Int);unfold M5 at hneg;omega⟩ ?_
    repeat' (first|refine rl1 ?_|refine rs1 ?_ ?_<;>intro h|fail)
    refine T9 (news:=[B4 ((m.getD i 0-(Av m o i).2-o.getD i 0)+1000000000)]) (S':=D7 (i+1) ((Av m o i).1++[((m.getD i 0-(Av m o i).2-o.getD i 0)+1000000000)])) rfl rfl rfl rfl rfl rfl ?_ ?_ (by rw [D7,List.map_append];rfl) ?_
    ·rw [List.length_map,Bv];show (i+1)*4<=_;omega
    ·rw [List.length_map,Bv];show i+1<=_;omega
    repeat' (first|refine rl1 ?_|refine rs1 ?_ ?_<;>intro h|fail)
    refine ⟨i+1,hlt,by omega,?_,?_⟩
    ·refine Aa rfl (Aa rfl (Aa ?_ (by repeat (first|exact Ag|refine Aa rfl ?_))))
     rw [hk];rfl
    ·rw [hk];unfold M5;rfl
   ·have hpos:¬ M5 m o i<0:=by have h':=of_decide_eq_false h;unfold M5;omega
    have hk:=Qz hpos
    refine wst rfl rfl ⟨by show (0:Int)<=_;unfold M5 at hpos;omega,by show _<=(4294967295:Int);unfold M5 at hpos;omega⟩ ?_
    repeat' (first|refine rl1 ?_|refine rs1 ?_ ?_<;>intro h|fail)
    refine T9 (news:=[B4 (m.getD i 0-(Av m o i).2-o.getD i 0)]) (S':=D7 (i+1) ((Av m o i).1++[(m.getD i 0-(Av m o i).2-o.getD i 0)])) rfl rfl rfl rfl rfl rfl ?_ ?_ (by rw [D7,List.map_append];rfl) ?_
    ·rw [List.length_map,Bv];show (i+1)*4<=_;omega
    ·rw [List.length_map,Bv];show i+1<=_;omega
    repeat' (first|refine rl1 ?_|refine rs1 ?_ ?_<;>intro h|fail)
    refine ⟨i+1,hlt,by omega,?_,?_⟩
    ·refine Aa rfl (Aa rfl (Aa ?_ (by repeat (first|exact Ag|refine Aa rfl ?_))))
     rw [hk];rfl
    ·rw [hk];unfold M5;rfl
  ·rename_i g
   have hlo:o.length<=i:=by simpa using g
   have hz:=Ht hlo
   have hneg:M5 m o i<0:=by have h':=of_decide_eq_true h;unfold M5;omega
   have hk:=Qy hneg
   refine wst rfl rfl ⟨by show (0:Int)<=_;unfold M5 at hneg;omega,by show _<=(4294967295:Int);unfold M5 at hneg;omega⟩ ?_
   repeat' (first|refine rl1 ?_|refine rs1 ?_ ?_<;>intro h|fail)
   refine T9 (news:=[B4 ((m.getD i 0-(Av m o i).2)+1000000000)]) (S':=D7 (i+1) ((Av m o i).1++[((m.getD i 0-(Av m o i).2)+1000000000)])) rfl rfl rfl rfl rfl rfl ?_ ?_ (by rw [D7,List.map_append];rfl) ?_
   ·rw [List.length_map,Bv];show (i+1)*4<=_;omega
   ·rw [List.length_map,Bv];show i+1<=_;omega
   repeat' (first|refine rl1 ?_|refine rs1 ?_ ?_<;>intro h|fail)
   refine ⟨i+1,hlt,by omega,?_,?_⟩
   ·refine Aa rfl (Aa rfl (Aa ?_ (by repeat (first|exact Ag|refine Aa rfl ?_))))
    rw [hk];rfl
   ·rw [hk];unfold M5;(rw [hz,Int.sub_zero])
  ·rename_i g
   have hlo:o.length<=i:=by simpa using g
   have hz:=Ht hlo
   have hpos:¬ M5 m o i<0:=by have h':=of_decide_eq_false h;unfold M5;omega
   have hk:=Qz hpos
   refine wst rfl rfl ⟨by show (0:Int)<=_;unfold M5 at hpos;omega,by show _<=(4294967295:Int);unfold M5 at hpos;omega⟩ ?_
   repeat' (first|refine rl1 ?_|refine rs1 ?_ ?_<;>intro h|fail)
   refine T9 (news:=[B4 (m.getD i 0-(Av m o i).2)]) (S':=D7 (i+1) ((Av m o i).1++[(m.getD i 0-(Av m o i).2)])) rfl rfl rfl rfl rfl rfl ?_ ?_ (by rw [D7,List.map_append];rfl) ?_
   ·rw [List.length_map,Bv];show (i+1)*4<=_;omega
   ·rw [List.length_map,Bv];show i+1<=_;omega
   repeat' (first|refine rl1 ?_|refine rs1 ?_ ?_<;>intro h|fail)
   refine ⟨i+1,hlt,by omega,?_,?_⟩
   ·refine Aa rfl (Aa rfl (Aa ?_ (by repeat (first|exact Ag|refine Aa rfl ?_))))
    rw [hk];rfl
   ·rw [hk];unfold M5;(rw [hz,Int.sub_zero])
 ·obtain rfl:i=m.length:=by simp at h;omega
  repeat' (first|refine rl1 ?_|refine rs1 ?_ ?_<;>intro h|fail)
  exact Xs (.inr rfl) rfl rfl (J7 (Kc (Ep rfl)))
set_option maxHeartbeats 1000000 in
theorem Aid (m:List Int) (b:Int) (hm:∀ z∈m,Af z) (hb:Af b) (hml:m.length<=1000000):Am 177 [B1 m,.d (.v (.int .u32 b))] ⟨[],[]⟩ (.ret (B1 (D3 m b))) ⟨[],[]⟩:=by
 refine C5 Tryz.func177 rfl rfl (Nat.le_of_ble_eq_true rfl) (fun _=>P8 ?_)
 have hlm:((m.map B4).length:Int)=m.length:=by simp
 repeat' (first|refine rl1 ?_|refine rs1 ?_ ?_<;>intro h|fail)
 refine Ab3 (n:=m.length+1) rfl rfl rfl rfl rfl (by show PV.d (.v (.int .i64 (_+_)))=_;rw [hlm];rfl) (by show 4*(m.length+1)<=_;omega) ?_
 repeat' (first|refine rl1 ?_|refine rs1 ?_ ?_<;>intro h|fail)
 refine B3 (ι := Nat) (ok:=fun i=>i<=m.length) (L:=fun i=>[(1,.d (.v (.int .u32 b))),(5,.hd 0 i),(6,.d (.v (.int .u64 (Di b m i).2))),(14,B1 m),(15,Ah (m.map B4).length),(16,Ah i)]) (Sx:=fun i=>D7 i (Di b m i).1) (μ := fun i=>m.length-i) 0 (Nat.zero_le _) (by exact (by repeat (first|exact Ag|refine Aa rfl ?_))) rfl ?_
 rintro i hi
 obtain ⟨hk1,hk2,hk3⟩:=N7 hb hm i
 have hx:=Ay hm i
 obtain ⟨hn1,hn2,hn3⟩:=Ir hx hb ⟨hk2,hk3⟩
 obtain ⟨hx1,hx2⟩:=hx
 have hb':=hb
 obtain ⟨hb1,hb2⟩:=hb'
 have hp1:0<=m.getD i 0*b:=Int.mul_nonneg hx1 hb1
 repeat' (first|refine rl1 ?_|refine rs1 ?_ ?_<;>intro h|fail)
 ·have hlt:i<m.length:=by simpa using h
  refine wix (B4 (m.getD i 0)) rfl rfl rfl rfl rfl (E8 hlt) (by omega) ?_
  repeat' (first|refine rl1 ?_|refine rs1 ?_ ?_<;>intro h|fail)
  refine Jz (.d (.v (.int .u64 (m.getD i 0)))) rfl rfl rfl ⟨by show (0:Int)<=_;omega,by show _<=(18446744073709551615:Int);omega⟩ ?_
  repeat' (first|refine rl1 ?_|refine rs1 ?_ ?_<;>intro h|fail)
  refine Jz (.d (.v (.int .u64 (b)))) rfl rfl rfl ⟨by show (0:Int)<=_;omega,by show _<=(18446744073709551615:Int);omega⟩ ?_
  repeat' (first|refine rl1 ?_|refine rs1 ?_ ?_<;>intro h|fail)
  refine Jz (.d (.v (.int .u32 ((m.getD i 0*b+(Di b m i).2) % 1000000000)))) rfl rfl rfl ⟨by show (0:Int)<=_;omega,by show _<=(4294967295:Int);omega⟩ ?_
  repeat' (first|refine rl1 ?_|refine rs1 ?_ ?_<;>intro h|fail)
  refine T9 (news:=[B4 ((m.getD i 0*b+(Di b m i).2) % 1000000000)]) (S':=D7 (i+1) ((Di b m i).1++[(m.getD i 0*b+(Di b m i).2) % 1000000000])) rfl rfl rfl rfl rfl rfl ?_ ?_ (by rw [D7,List.map_append];rfl) ?_
  ·rw [List.length_map,Ej];show (i+1)*4<=_;omega
  ·rw [List.length_map,Ej];show i+1<=_;omega
  repeat' (first|refine rl1 ?_|refine rs1 ?_ ?_<;>intro h|fail)
  exact ⟨i+1,hlt,by omega,(by repeat (first|exact Ag|refine Aa rfl ?_)),rfl⟩
 ·obtain rfl:i=m.length:=by simp at h;omega
  repeat' (first|refine rl1 ?_|refine rs1 ?_ ?_<;>intro h|fail)
  refine Jz (.d (.v (.int .u32 ((Di b m m.length).2)))) rfl rfl rfl ⟨by show (0:Int)<=_;omega,by show _<=(4294967295:Int);omega⟩ ?_
  repeat' (first|refine rl1 ?_|refine rs1 ?_ ?_<;>intro h|fail)
  refine T9 (news:=[B4 (Di b m m.length).2]) (S':=D7 (m.length+1) ((Di b m m.length).1++[(Di b m m.length).2])) rfl rfl rfl rfl rfl rfl ?_ ?_ (by rw [D7,List.map_append];rfl) ?_
  ·rw [List.length_map,Ej];show (m.length+1)*4<=_;omega
  ·rw [List.length_map,Ej];show m.length+1<=_;omega
  repeat' (first|refine rl1 ?_|refine rs1 ?_ ?_<;>intro h|fail)
  exact Xs (.inr rfl) rfl rfl (J7 (Kc (Ep rfl)))
def P3 (l:List Int) (k:Nat):List PV:=Dt (l++List.replicate k 0)
theorem fill_set (l:List Int) (k:Nat) (x:Int):(P3 l (k+1)).set l.length (.d (.v (.int .u32 x)))=P3 (l++[x]) k:=by
 unfold P3 Dt
 rw [List.map_append,List.set_append_right _ _ (by simp),List.length_map,Nat.sub_self,List.replicate_succ,List.map_cons,List.set_cons_zero,List.append_assoc,List.map_append]
 rfl
theorem Aaa (l:List Int) (k:Nat):(P3 l k).length=l.length+k:=by simp [P3,Dt]
@[reducible] def boxL (c:List PV):PS:=⟨[c],[]⟩
set_option maxHeartbeats 1000000 in
theorem Adc (m:List Int) (b:Int) (hm:∀ z∈m,Af z) (hb:Af b) (hml:m.length<=1000000):Am 177 [B1 m,.d (.v (.int .u32 b))] ⟨[],[]⟩ (.ret (.bsl 1 0 0 (m.length+1) (m.length+1))) ⟨[Dt (D3 m b)],[]⟩:=by
 refine ⟨enters_of Tryz.func177 rfl rfl,Ns Tryz.func177 rfl (Nat.le_of_ble_eq_true rfl) ?_⟩
 have hlm:((m.map B4).length:Int)=m.length:=by simp
 repeat' (first|refine rl1 ?_|refine rs1 ?_ ?_<;>intro h|fail)
 refine wmakeB0 (n:=m.length+1) (.int .u32 0) rfl rfl rfl rfl rfl rfl (by show 4*(m.length+1)<=_;omega) (by omega) (by show PV.d (.v (.int .i64 (_+_)))=_;rw [hlm];rfl) ?_
 repeat' (first|refine rl1 ?_|refine rs1 ?_ ?_<;>intro h|fail)
 refine B3 (ι := Nat) (ok:=fun i=>i<=m.length) (L:=fun i=>[(1,.d (.v (.int .u32 b))),(5,.bsl 1 0 0 i (m.length+1)),(6,.d (.v (.int .u64 (Di b m i).2))),(14,B1 m),(15,Ah (m.map B4).length),(16,Ah i)]) (Sx:=fun i=>boxL (P3 (Di b m i).1 (m.length+1-i))) (μ := fun i=>m.length-i) 0 (Nat.zero_le _) (by exact (by repeat (first|exact Ag|refine Aa rfl ?_))) ?_ ?_
 ·simp [boxL,PS.addBox,P3,Dt,Di]
 rintro i hi
 obtain ⟨hk1,hk2,hk3⟩:=N7 hb hm i
 have hkl:(Di b m i).1.length=i:=Ej b m i
 have hx:=Ay hm i
 obtain ⟨hn1,hn2,hn3⟩:=Ir hx hb ⟨hk2,hk3⟩
 obtain ⟨hx1,hx2⟩:=hx
 have hb':=hb
 obtain ⟨hb1,hb2⟩:=hb'
 have hp1:0<=m.getD i 0*b:=Int.mul_nonneg hx1 hb1
 have hset:∀ x,(P3 (Di b m i).1 (m.length+1-i)).set i (.d (.v (.int .u32 x)))=P3 ((Di b m i).1++[x]) (m.length-i):=fun x=>by
  rw [show m.length+1-i=(m.length-i)+1 by omega]
  have:=fill_set (Di b m i).1 (m.length-i) x
  rwa [hkl] at this
 repeat' (first|refine rl1 ?_|refine rs1 ?_ ?_<;>intro h|fail)
 ·have hlt:i<m.length:=by simpa using h
  refine wix (B4 (m.getD i 0)) rfl rfl rfl rfl rfl (E8 hlt) (by omega) ?_
  repeat' (first|refine rl1 ?_|refine rs1 ?_ ?_<;>intro h|fail)
  refine Jz (.d (.v (.int .u64 (m.getD i 0)))) rfl rfl rfl ⟨by show (0:Int)<=_;omega,by show _<=(18446744073709551615:Int);omega⟩ ?_
  repeat' (first|refine rl1 ?_|refine rs1 ?_ ?_<;>intro h|fail)
  refine Jz (.d (.v (.int .u64 (b)))) rfl rfl rfl ⟨by show (0:Int)<=_;omega,by show _<=(18446744073709551615:Int);omega⟩ ?_
  repeat' (first|refine rl1 ?_|refine rs1 ?_ ?_<;>intro h|fail)
  refine Jz (.d (.v (.int .u32 ((m.getD i 0*b+(Di b m i).2) % 1000000000)))) rfl rfl rfl ⟨by show (0:Int)<=_;omega,by show _<=(4294967295:Int);omega⟩ ?_
  repeat' (first|refine rl1 ?_|refine rs1 ?_ ?_<;>intro h|fail)
  refine wappB rfl rfl rfl rfl rfl rfl (by omega) (by rw [Aaa,hkl];omega) (by rw [PS.setBox,hset]) ?_
  repeat' (first|refine rl1 ?_|refine rs1 ?_ ?_<;>intro h|fail)
  refine ⟨i+1,hlt,by omega,(by repeat (first|exact Ag|refine Aa rfl ?_)),?_⟩
  rw [show m.length+1-(i+1)=m.length-i by omega]
  rfl
 ·obtain rfl:i=m.length:=by simp at h;omega
  repeat' (first|refine rl1 ?_|refine rs1 ?_ ?_<;>intro h|fail)
  refine Jz (.d (.v (.int .u32 ((Di b m m.length).2)))) rfl rfl rfl ⟨by show (0:Int)<=_;omega,by show _<=(4294967295:Int);omega⟩ ?_
  repeat' (first|refine rl1 ?_|refine rs1 ?_ ?_<;>intro h|fail)
  refine wappB rfl rfl rfl rfl rfl rfl (by omega) (by rw [Aaa,hkl];omega) (by rw [PS.setBox,hset]) ?_
  repeat' (first|refine rl1 ?_|refine rs1 ?_ ?_<;>intro h|fail)
  refine ⟨.inr rfl,?_,_,Bt rfl,rfl⟩
  simp [D3,P3,Dt]
def Ar (u o:List Int) (t:Int):Nat->List Int×Int×Int
 |0=>(u,0,0)
 |k+1=>((Ar u o t k).1.set k (if (Ar u o t k).1.getD k 0-((Ar u o t k).2.1+t*o.getD k 0) % 1000000000-(Ar u o t k).2.2<0 then (Ar u o t k).1.getD k 0-((Ar u o t k).2.1+t*o.getD k 0) % 1000000000-(Ar u o t k).2.2+1000000000 else (Ar u o t k).1.getD k 0-((Ar u o t k).2.1+t*o.getD k 0) % 1000000000-(Ar u o t k).2.2),
   ((Ar u o t k).2.1+t*o.getD k 0) / 1000000000,if (Ar u o t k).1.getD k 0-((Ar u o t k).2.1+t*o.getD k 0) % 1000000000-(Ar u o t k).2.2<0 then 1 else 0)
theorem Ce (u o:List Int) (t:Int):∀ k,(Ar u o t k).1.length=u.length
 |0=>rfl
 |k+1=>by simp [Ar,Ce u o t k]
theorem Zb {l:List Int} {i:Nat} {v:Int} (h:∀ z∈l,Af z) (hv:Af v):∀ z∈l.set i v,Af z:=fun x hx=>by
 rcases List.mem_or_eq_of_mem_set hx with h1|rfl
 ·exact h x h1
 ·exact hv
theorem Jh {u o:List Int} {t:Int} (hu:∀ z∈u,Af z) (ho:∀ z∈o,Af z) (ht:Af t):∀ k,(∀ z∈(Ar u o t k).1,Af z)/\Af (Ar u o t k).2.1/\0<=(Ar u o t k).2.2/\(Ar u o t k).2.2<=1
 |0=>⟨hu,by simp [Ar,Af],by simp [Ar],by simp [Ar]⟩
 |k+1=>by
  obtain ⟨h1,h2,h3,h4⟩:=Jh hu ho ht k
  have h5:=Ir ht (Ay ho k) h2
  obtain ⟨h6,h7⟩:=Ay h1 k
  simp only [Ar]
  rw [Int.add_comm] at h5
  have h8:=Int.emod_nonneg ((Ar u o t k).2.1+t*o.getD k 0) (b:=1000000000) (by decide)
  have h9:=Int.emod_lt_of_pos ((Ar u o t k).2.1+t*o.getD k 0) (b:=1000000000) (by decide)
  refine ⟨Zb h1 ?_,?_,by split<;>omega,by split<;>omega⟩
  ·unfold Af;split<;>omega
  ·unfold Af;omega
theorem Qv (u o:List Int) (t:Int):∀ (k j:Nat),k<=j->(Ar u o t k).1.getD j 0=u.getD j 0
 |0,_,_=>rfl
 |k+1,j,h=>by rw [Ar,Hu (by omega),Qv u o t k j (by omega)]
theorem Vw {u o:List Int} {t:Int}:∀ k,k<=u.length->Aj (Ar u o t k).1=Aj u-t*Aj (o.take k)+1000000000 ^ k*((Ar u o t k).2.1+(Ar u o t k).2.2)
 |0,_=>by simp [Ar,Aj]
 |k+1,hk=>by
  have h:=Vw (u:=u) (o:=o) (t:=t) k (by omega)
  have hd:=Int.mul_ediv_add_emod ((Ar u o t k).2.1+t*o.getD k 0) 1000000000
  rw [Ar,Fw (by rw [Ce];omega),A1,Int.pow_succ]
  simp only []
  split<;>grind
theorem Ip {l:List Int} (h:∀ z∈l,Af z) {n:Nat} (hv:Aj l<1000000000 ^ n):∀ j,n<=j->l.getD j 0=0:=by
 induction l generalizing n with
 |nil=>intro j _;simp
 |cons x r ih =>
  intro j hj
  have hr:=Aw (l:=r) fun z hz=>h z (List.mem_cons_of_mem _ hz)
  obtain ⟨h1,h2⟩:=h x List.mem_cons_self
  cases n with
  |zero =>
   simp only [Aj,Int.pow_zero] at hv
   cases j with
   |zero=>simp;omega
   |succ j=>rw [List.getD_cons_succ];exact ih (fun z hz=>h z (List.mem_cons_of_mem _ hz)) (n:=0) (by simp;omega) j (Nat.zero_le _)
  |succ n =>
   cases j with
   |zero=>omega
   |succ j =>
    rw [List.getD_cons_succ]
    refine ih (fun z hz=>h z (List.mem_cons_of_mem _ hz)) (n:=n) ?_ j (by omega)
    simp only [Aj,Int.pow_succ] at hv
    omega
theorem Oa {l:List Int}:∀ {n:Nat},(∀ j,n<=j->l.getD j 0=0)->Aj l=Aj (l.take n):=by
 induction l with
 |nil=>intro n _;simp
 |cons x r ih =>
  intro n h
  cases n with
  |zero =>
   have h0:=h 0 (Nat.zero_le _)
   simp only [List.getD_cons_zero] at h0
   have:=ih (n:=0) fun j _=>by have:=h (j+1) (Nat.zero_le _);rwa [List.getD_cons_succ] at this
   simp only [List.take_zero,Aj] at this |-;rw [this,h0];simp
  |succ n =>
   have:=ih (n:=n) fun j hj=>by have:=h (j+1) (by omega);rwa [List.getD_cons_succ] at this
   rw [List.take_succ_cons,Aj,Aj,this]
theorem Ob {l:List Int} (hl:∀ z∈l,Af z) {n:Nat} (h:∀ j,n<=j->l.getD j 0=0):Aj l<1000000000 ^ n:=by
 rw [Oa h]
 refine Int.lt_of_lt_of_le (Ck fun z hz=>hl z (List.mem_of_mem_take hz)) (Gw ?_)
 rw [List.length_take];omega
def Dm (u o:List Int) (t:Int):List Int:=(Ar u o t (o.length+1)).1
def Lc (u o:List Int) (t:Int):Bool:=decide (0<(Ar u o t (o.length+1)).2.2)
theorem Agk {u o:List Int} {t:Int} (hu:∀ z∈u,Af z) (ho:∀ z∈o,Af z) (ht:Af t) (hl:o.length<u.length) (hz:∀ j,o.length+1<=j->u.getD j 0=0) :
  (Dm u o t).length=u.length/\(∀ z∈Dm u o t,Af z)/\Aj (Dm u o t)<1000000000 ^ (o.length+1) /\
   ((Lc u o t=true/\Aj (Dm u o t)=Aj u-t*Aj o+1000000000 ^ (o.length+1))\/(Lc u o t=false/\Aj (Dm u o t)=Aj u-t*Aj o)):=by
 have hv:=Vw (u:=u) (o:=o) (t:=t) (o.length+1) (by omega)
 obtain ⟨h1,h2,h3,h4⟩:=Jh hu ho ht (o.length+1)
 have hc:(Ar u o t (o.length+1)).2.1=0:=by
  obtain ⟨_,⟨h5,h6⟩,_⟩:=Jh hu ho ht o.length
  simp only [Ar]
  rw [show o.getD o.length 0=0 by simp,Int.mul_zero,Int.add_zero];omega
 rw [hc,List.take_of_length_le (by omega),Int.zero_add] at hv
 refine ⟨Ce _ _ _ _,h1,Ob h1 fun j hj=>by rw [Qv _ _ _ _ _ hj];exact hz j hj,?_⟩
 unfold Lc Dm
 rcases (show (Ar u o t (o.length+1)).2.2=0\/(Ar u o t (o.length+1)).2.2=1 by omega) with e|e
 ·right;rw [e] at hv |-;exact ⟨rfl,by rw [hv];simp⟩
 ·left;rw [e] at hv |-;exact ⟨rfl,by rw [hv];simp⟩
def B0 (u o:List Int):Nat->List Int×Int
 |0=>(u,0)
 |k+1=>((B0 u o k).1.set k (((B0 u o k).1.getD k 0+(B0 u o k).2+o.getD k 0) % 1000000000),((B0 u o k).1.getD k 0+(B0 u o k).2+o.getD k 0) / 1000000000)
theorem G8 (u o:List Int):∀ k,(B0 u o k).1.length=u.length
 |0=>rfl
 |k+1=>by simp [B0,G8 u o k]
theorem R1 {u o:List Int} (hu:∀ z∈u,Af z) (ho:∀ z∈o,Af z):∀ k,(∀ z∈(B0 u o k).1,Af z)/\0<=(B0 u o k).2/\(B0 u o k).2<=1
 |0=>⟨hu,by simp [B0],by simp [B0]⟩
 |k+1=>by
  obtain ⟨h1,h3,h4⟩:=R1 hu ho k
  obtain ⟨h6,h7⟩:=Ay h1 k
  obtain ⟨h8,h9⟩:=Ay ho k
  simp only [B0]
  refine ⟨Zb h1 ?_,by omega,by omega⟩
  unfold Af;omega
theorem Qq (u o:List Int):∀ (k j:Nat),k<=j->(B0 u o k).1.getD j 0=u.getD j 0
 |0,_,_=>rfl
 |k+1,j,h=>by rw [B0,Hu (by omega),Qq u o k j (by omega)]
theorem Vg {u o:List Int}:∀ k,k<=u.length->Aj (B0 u o k).1=Aj u+Aj (o.take k)-1000000000 ^ k*(B0 u o k).2
 |0,_=>by simp [B0,Aj]
 |k+1,hk=>by
  have h:=Vg (u:=u) (o:=o) k (by omega)
  have hd:=Int.mul_ediv_add_emod ((B0 u o k).1.getD k 0+(B0 u o k).2+o.getD k 0) 1000000000
  rw [B0,Fw (by rw [G8];omega),A1,Int.pow_succ]
  simp only []
  grind
def In (u o:List Int):List Int:=(B0 u o (o.length+1)).1
theorem Af3 {u o:List Int} (hu:∀ z∈u,Af z) (ho:∀ z∈o,Af z) (hl:o.length<u.length) (hz:∀ j,o.length+1<=j->u.getD j 0=0) :
  (In u o).length=u.length/\(∀ z∈In u o,Af z)/\Aj (In u o)<1000000000 ^ (o.length+1)/\(Aj (In u o)=Aj u+Aj o\/Aj (In u o)=Aj u+Aj o-1000000000 ^ (o.length+1)):=by
 have hv:=Vg (u:=u) (o:=o) (o.length+1) (by omega)
 obtain ⟨h1,h3,h4⟩:=R1 hu ho (o.length+1)
 rw [List.take_of_length_le (by omega)] at hv
 refine ⟨G8 _ _ _,h1,Ob h1 fun j hj=>by rw [Qq _ _ _ _ hj];exact hz j hj,?_⟩
 unfold In
 rcases (show (B0 u o (o.length+1)).2=0\/(B0 u o (o.length+1)).2=1 by omega) with e|e
 ·left;rw [e] at hv;rw [hv];simp
 ·right;rw [e] at hv;rw [hv];simp
theorem Afa {u o:List Int} {g:Int} (hu:∀ z∈u,Af z) (ho:∀ z∈o,Af z) (hg:Af g) (hl:o.length<u.length) (hD:Aj u<1000000000*Aj o) (h1:Aj u<(g+1)*Aj o) (h2:(g-1)*Aj o<=Aj u) :
  let r:=if Lc u o g=true then (g-1,In (Dm u o g) o) else (g,Dm u o g)
  Af r.1/\r.2.length=u.length/\(∀ z∈r.2,Af z)/\Aj r.2=Aj u-r.1*Aj o/\Aj r.2<Aj o/\(Lc u o g=true->1<=g):=by
 have hV:=Ck ho
 have hB:Aj u<1000000000 ^ (o.length+1):=by rw [Int.pow_succ];omega
 have hz:=Ip hu hB
 obtain ⟨a1,a2,a3,a4⟩:=Agk hu ho hg hl hz
 have a5:=Aw a2
 obtain ⟨b1,b2,b3,b4⟩:=Af3 a2 ho (by rw [a1];exact hl) (Ip a2 a3)
 have b5:=Aw b2
 have hV0:=Aw ho
 have hu0:=Aw hu
 obtain ⟨g1,g2⟩:=hg
 intro r
 rcases a4 with ⟨e,hv⟩|⟨e,hv⟩
 ·have hlt:Aj u<g*Aj o:=by omega
  have hg1:1<=g:=by
   by_cases h0:g=0
   ·subst h0;omega
   ·omega
  have er:r=(g-1,In (Dm u o g) o):=if_pos e
  rw [er]
  have hv':Aj (In (Dm u o g) o)=Aj u-(g-1)*Aj o:=by
   rw [Int.sub_mul,Int.one_mul] at h2 |-
   rcases b4 with h|h
   ·exfalso;omega
   ·omega
  refine ⟨⟨by omega,by omega⟩,by rw [b1,a1],b2,hv',?_,fun _=>hg1⟩
  rw [hv',Int.sub_mul,Int.one_mul];omega
 ·have er:r=(g,Dm u o g):=if_neg (by rw [e];simp)
  rw [er]
  refine ⟨⟨g1,g2⟩,a1,a2,hv,?_,fun h=>by rw [e] at h;cases h⟩
  rw [hv];rw [Int.add_mul,Int.one_mul] at h1;omega
theorem Ri (l:List Int) (n:Nat):Aj l=Aj (l.take n)+1000000000 ^ n*Aj (l.drop n):=by
 by_cases h:n<=l.length
 ·have:=Bx (l.take n) (l.drop n)
  rw [List.take_append_drop,List.length_take,Nat.min_eq_left h] at this;exact this
 ·rw [List.take_of_length_le (by omega),List.drop_of_length_le (by omega)];simp [Aj]
theorem Ov {D V top a3 b1 b2 P ld lv g:Int} (hP:0<P) (hV:V=(b1*1000000000+b2)*P+lv) (hDe:D=(top*1000000000+a3)*P+ld) (hlv:0<=lv) (hld:ld<P) (ha:a3<1000000000) (hb2:0<=b2) (hb1:0<b1)
  (hg:g=999999999/\D<1000000000*V\/g=top / b1) (hg0:0<=g):D<(g+1)*V:=by
 rcases hg with ⟨rfl,h⟩|rfl
 ·exact h
 ·have h1:top+1<=(top / b1+1)*b1:=by
   have:=Int.lt_mul_ediv_self_add (x:=top) hb1
   rw [Int.add_mul,Int.one_mul,Int.mul_comm];omega
  have h2:(top+1)*(1000000000*P)<=(top / b1+1)*b1*(1000000000*P):=Int.mul_le_mul_of_nonneg_right h1 (by omega)
  have h3:0<=(top / b1+1)*(b2*P+lv):=Int.mul_nonneg (by omega) (Int.add_nonneg (Int.mul_nonneg hb2 (by omega)) hlv)
  have h4:(a3+1)*P<=1000000000*P:=Int.mul_le_mul_of_nonneg_right (by omega) (by omega)
  have e1:(top / b1+1)*V=(top / b1+1)*b1*(1000000000*P)+(top / b1+1)*(b2*P+lv):=by rw [hV];grind
  have e2:(top+1)*(1000000000*P)=(top*1000000000)*P+1000000000*P:=by grind
  have e3:(top*1000000000+a3)*P=(top*1000000000)*P+a3*P:=by grind
  have e4:(a3+1)*P=a3*P+P:=by grind
  omega
theorem Acm {D V top a3 b1 b2 P ld lv g:Int} (hP:0<P) (hV:V=(b1*1000000000+b2)*P+lv) (hDe:D=(top*1000000000+a3)*P+ld) (hlv:0<=lv) (hld:ld<P) (hg0:0<=g)
  (h:(top-g*b1)*1000000000+a3<g*b2):D<g*V:=by
 have h1:(top*1000000000+a3+1)*P<=(g*(b1*1000000000+b2))*P:=Int.mul_le_mul_of_nonneg_right (by grind) (by omega)
 have h2:=Int.mul_nonneg hg0 hlv
 have e1:g*V=(g*(b1*1000000000+b2))*P+g*lv:=by rw [hV];grind
 have e2:(top*1000000000+a3+1)*P=(top*1000000000+a3)*P+P:=by grind
 omega
theorem Qs {D V top a3 b1 b2 P ld lv g:Int} (hP:0<P) (hV:V=(b1*1000000000+b2)*P+lv) (hDe:D=(top*1000000000+a3)*P+ld) (hlv0:0<=lv) (hlv:lv<P) (hld:0<=ld) (ha:0<=a3) (hb2:0<=b2) (hb2':b2<1000000000) (hb1:0<b1) (hg0:0<=g) (hg1:g<=999999999)
  (h:g*b2<=(top-g*b1)*1000000000+a3\/1000000000<=top-g*b1):(g-1)*V<=D:=by
 have hV0:1000000000*P<=V:=by
  have:1*(1000000000*P)<=b1*(1000000000*P):=Int.mul_le_mul_of_nonneg_right hb1 (by omega)
  have h2:0<=b2*P:=Int.mul_nonneg hb2 (by omega)
  have e:V=b1*(1000000000*P)+b2*P+lv:=by rw [hV];grind
  omega
 rcases h with h|h
 ·have h1:(g*(b1*1000000000+b2))*P<=(top*1000000000+a3)*P:=Int.mul_le_mul_of_nonneg_right (by grind) (by omega)
  have h2:g*lv<=999999999*P:=Int.mul_le_mul hg1 (by omega) hlv0 (by decide)
  have e1:(g-1)*V=(g*(b1*1000000000+b2))*P+g*lv-V:=by rw [Int.sub_mul,Int.one_mul];rw [hV];grind
  omega
 ·have h1:(g*b1)*(1000000000*P)<=(top-1000000000)*(1000000000*P):=Int.mul_le_mul_of_nonneg_right (by omega) (by omega)
  have h5:(b2+1)*P<=1000000000*P:=Int.mul_le_mul_of_nonneg_right (by omega) (by omega)
  have e5:(b2+1)*P=b2*P+P:=by grind
  have h6:0<=b2*P:=Int.mul_nonneg hb2 (by omega)
  have h2:g*(b2*P+lv)<=999999999*(1000000000*P):=Int.mul_le_mul hg1 (by omega) (by omega) (by decide)
  have e1:(g-1)*V=(g*b1)*(1000000000*P)+g*(b2*P+lv)-V:=by rw [Int.sub_mul,Int.one_mul];rw [hV];grind
  have e2:(top-1000000000)*(1000000000*P)=(top*1000000000)*P-1000000000*(1000000000*P):=by grind
  have e3:(top*1000000000+a3)*P=(top*1000000000)*P+a3*P:=by grind
  have h7:0<=a3*P:=Int.mul_nonneg ha (by omega)
  omega
theorem top_two {o:List Int} (ho:∀ z∈o,Af z) {n:Nat} (h:o.length=n+2):∃ lv,Aj o=(o.getD (n+1) 0*1000000000+o.getD n 0)*1000000000 ^ n+lv/\0<=lv/\lv<1000000000 ^ n:=by
 have h1:=A1 o n
 have h2:=A1 o (n+1)
 rw [List.take_of_length_le (l:=o) (by omega)] at h2
 have h3:∀ z∈o.take n,Af z:=fun z hz=>ho z (List.mem_of_mem_take hz)
 have h4:=Ck h3
 rw [List.length_take,Nat.min_eq_left (by omega)] at h4
 refine ⟨Aj (o.take n),?_,Aw h3,h4⟩
 rw [h2,h1,Int.pow_succ];grind
theorem Aiy {u:List Int} (hu:∀ z∈u,Af z) {n:Nat} (h:n+2<u.length) (hz:∀ j,n+3<=j->u.getD j 0=0):∃ ld,Aj u=((u.getD (n+2) 0*1000000000+u.getD (n+1) 0)*1000000000+u.getD n 0)*1000000000 ^ n+ld/\0<=ld/\ld<1000000000 ^ n:=by
 have h0:=Oa hz
 have h1:=A1 u n
 have h2:=A1 u (n+1)
 have h3:=A1 u (n+2)
 have h5:∀ z∈u.take n,Af z:=fun z hz=>hu z (List.mem_of_mem_take hz)
 have h4:=Ck h5
 rw [List.length_take,Nat.min_eq_left (by omega)] at h4
 refine ⟨Aj (u.take n),?_,Aw h5,h4⟩
 rw [h0,h3,h2,h1,Int.pow_succ,Int.pow_succ];grind
theorem Xg {o:List Int} (ho:∀ z∈o,Af z) {n:Nat} (h:o.length=n+1) (h0:0<o.getD n 0):1<=1000000000 / (o.getD n 0+1)/\1000000000 / (o.getD n 0+1)<1000000000/\1000000000 / (o.getD n 0+1)*Aj o<1000000000 ^ o.length:=by
 obtain ⟨h1,h2⟩:=Ay ho n
 have h3:1000000000 / (o.getD n 0+1)*(o.getD n 0+1)<=1000000000:=Int.ediv_mul_le _ (by omega)
 have h5:1<=1000000000 / (o.getD n 0+1):=(Int.le_ediv_iff_mul_le (by omega)).2 (by omega)
 have h6:1000000000 / (o.getD n 0+1)<1000000000:=Int.ediv_lt_of_lt_mul (by omega) (by omega)
 refine ⟨h5,h6,?_⟩
 have h7:=A1 o n
 rw [List.take_of_length_le (l:=o) (by omega)] at h7
 have h8:=Ck (l:=o.take n) fun z hz=>ho z (List.mem_of_mem_take hz)
 rw [List.length_take,Nat.min_eq_left (by omega)] at h8
 have h9:=Js n
 have h10:Aj o<(o.getD n 0+1)*1000000000 ^ n:=by rw [h7,Int.add_mul,Int.one_mul,Int.mul_comm];omega
 have h11:1000000000 / (o.getD n 0+1)*Aj o<1000000000 / (o.getD n 0+1)*((o.getD n 0+1)*1000000000 ^ n):=Int.mul_lt_mul_of_pos_left h10 (by omega)
 have h12:1000000000 / (o.getD n 0+1)*(o.getD n 0+1)*1000000000 ^ n<=1000000000*1000000000 ^ n:=Int.mul_le_mul_of_nonneg_right h3 (by omega)
 rw [Int.mul_assoc] at h12
 rw [h,Int.pow_succ];omega
theorem scal_top {m o:List Int} {t:Int} (hm:∀ z∈m,Af z) (ho:∀ z∈o,Af z) (ht:Af t) {n:Nat} (h:o.length=n+1) (h0:0<o.getD n 0) (hl:n<=m.length) (h1:1<=t):Aj ((D3 m t).drop (m.length-n))<t*Aj o:=by
 have hs:=Tf ht hm
 have hlen:=Lq m t
 have h2:=Ck hm
 have h3:t*Aj m<t*1000000000 ^ m.length:=Int.mul_lt_mul_of_pos_left h2 (by omega)
 have h4:=Ri (D3 m t) (m.length-n)
 rw [Lr] at h4
 have h5:=Aw (l:=(D3 m t).take (m.length-n)) fun z hz=>hs z (List.mem_of_mem_take hz)
 have h6:(1000000000:Int) ^ m.length=1000000000 ^ (m.length-n)*1000000000 ^ n:=by rw [<- Int.pow_add];congr 1;omega
 have h7:1000000000 ^ (m.length-n)*Aj ((D3 m t).drop (m.length-n))<1000000000 ^ (m.length-n)*(t*1000000000 ^ n):=by
  rw [h6] at h3
  have e:t*(1000000000 ^ (m.length-n)*1000000000 ^ n)=1000000000 ^ (m.length-n)*(t*1000000000 ^ n):=by grind
  rw [e] at h3;omega
 have h8:=Int.lt_of_mul_lt_mul_left h7 (Int.le_of_lt (Js _))
 have h9:=A1 o n
 rw [List.take_of_length_le (l:=o) (by omega)] at h9
 have h10:=Aw (l:=o.take n) fun z hz=>ho z (List.mem_of_mem_take hz)
 have h11:(1000000000:Int) ^ n*1<=1000000000 ^ n*o.getD n 0:=Int.mul_le_mul_of_nonneg_left h0 (Int.le_of_lt (Js _))
 have h12:t*1000000000 ^ n<=t*Aj o:=Int.mul_le_mul_of_nonneg_left (by omega) (by omega)
 omega
theorem L8 (p X:List Int) (i:Nat) (v:Int):(Dt (p++X)).set (p.length+i) (.d (.v (.int .u32 v)))=Dt (p++X.set i v):=by
 unfold Dt
 rw [List.map_append,List.set_append_right _ _ (by simp),List.length_map,Nat.add_sub_cancel_left,List.map_append,List.map_set]
theorem X0 {p X:List Int} {i:Nat} (h:i<X.length):(Dt (p++X))[p.length+i]? = some (.d (.v (.int .u32 (X.getD i 0)))):=by
 unfold Dt
 rw [List.map_append,List.getElem?_append_right (by simp),List.length_map,Nat.add_sub_cancel_left,List.getD_eq_getElem?_getD]
 simp [h]
theorem E1 (l:List Int):(Dt l).length=l.length:=by simp [Dt]
def Ha (u o:List Int) (t:Int) (k:Nat):Int:=(Ar u o t k).1.getD k 0-((Ar u o t k).2.1+t*o.getD k 0) % 1000000000-(Ar u o t k).2.2
theorem Vu {u o:List Int} {t:Int} {k:Nat} (h:Ha u o t k<0):Ar u o t (k+1)=((Ar u o t k).1.set k (Ha u o t k+1000000000),((Ar u o t k).2.1+t*o.getD k 0) / 1000000000,1):=by
 rw [Ar];unfold Ha at h |-;rw [if_pos h,if_pos h]
theorem Vv {u o:List Int} {t:Int} {k:Nat} (h:¬ Ha u o t k<0):Ar u o t (k+1)=((Ar u o t k).1.set k (Ha u o t k),((Ar u o t k).2.1+t*o.getD k 0) / 1000000000,0):=by
 rw [Ar];unfold Ha at h |-;rw [if_neg h,if_neg h]
set_option maxHeartbeats 1000000 in
theorem Agj (p u o:List Int) (t:Int) (cap:Nat) (hu:∀ z∈u,Af z) (ho:∀ z∈o,Af z) (ht:Af t) (hl:o.length<u.length) (hm:p.length+u.length<=1000002) :
  Am 178 [.bsl 1 0 p.length u.length cap,B1 o,.d (.v (.int .u64 t))] ⟨[Dt (p++u)],[]⟩ (.ret (An (Lc u o t))) ⟨[Dt (p++Dm u o t)],[]⟩:=by
 refine Ad Tryz.func178 rfl rfl (Nat.le_of_ble_eq_true rfl) rfl (Nat.le_refl _) ?_
 have hlo:((o.map B4).length:Int)=o.length:=by simp
 repeat' (first|refine rl1 ?_|refine rs1 ?_ ?_<;>intro h|fail)
 refine B3 (ι := Nat) (ok:=fun i=>i<=o.length+1) (L:=fun i=>[(0,.bsl 1 0 p.length u.length cap),(1,B1 o),(2,.d (.v (.int .u64 t))),(7,.d (.v (.int .u64 (Ar u o t i).2.1))),(8,.d (.v (.int .i64 (Ar u o t i).2.2))),(14,Ah ((o.map B4).length+1)),(15,Ah i)]) (Sx:=fun i=>⟨[Dt (p++(Ar u o t i).1)],[]⟩) (μ := fun i=>o.length+1-i) 0 (Nat.zero_le _) (by exact (by repeat (first|exact Ag|refine Aa rfl ?_))) rfl ?_
 rintro i hi
 obtain ⟨hk1,hk2,hk3,hk4⟩:=Jh hu ho ht i
 obtain ⟨hx1,hx2⟩:=Ay hk1 i
 obtain ⟨hn1,hn2,hn3⟩:=Ir ht (Ay ho i) hk2
 obtain ⟨hy1,hy2⟩:=Ay ho i
 obtain ⟨hc1,hc2⟩:=hk2
 obtain ⟨ht1,ht2⟩:=ht
 have hp1:0<=t*o.getD i 0:=Int.mul_nonneg ht1 hy1
 repeat' (first|refine rl1 ?_|refine rs1 ?_ ?_<;>intro h|fail)
 ·have hlt:i<o.length:=by have h1 := ‹decide ((i:Int)<((o.map B4).length:Int))=true›;simpa using h1
  refine wix (B4 (o.getD i 0)) rfl rfl rfl rfl rfl (E8 hlt) (by omega) ?_
  repeat' (first|refine rl1 ?_|refine rs1 ?_ ?_<;>intro h|fail)
  refine Jz (.d (.v (.int .u64 (o.getD i 0)))) rfl rfl rfl ⟨by show (0:Int)<=_;omega,by show _<=(18446744073709551615:Int);omega⟩ ?_
  have he:(Ar u o t i).2.1+t*o.getD i 0=(Ar u o t i).2.1+t*o.getD i 0:=rfl
  repeat' (first|refine rl1 ?_|refine rs1 ?_ ?_<;>intro h|fail)
  have hdd:Ha u o t i=(Ar u o t i).1.getD i 0-(((Ar u o t i).2.1+t*o.getD i 0)) % 1000000000-(Ar u o t i).2.2:=by unfold Ha;rw [<- he]
  refine wsld (id:=0) (p.length+i) rfl rfl rfl (by show PV.ptr 0 (p.length+((i:Int)).toNat*1)=_;simp) rfl (X0 (p:=p) (X:=(Ar u o t i).1) (by rw [Ce];omega)) ?_
  repeat' (first|refine rl1 ?_|refine rs1 ?_ ?_<;>intro h|fail)
  refine Jz (.d (.v (.int .i64 ((Ar u o t i).1.getD i 0)))) rfl rfl rfl ⟨by show (-9223372036854775808:Int)<=_;omega,by show _<=(9223372036854775807:Int);omega⟩ ?_
  repeat' (first|refine rl1 ?_|refine rs1 ?_ ?_<;>intro h|fail)
  refine Jz (.d (.v (.int .i64 ((((Ar u o t i).2.1+t*o.getD i 0)) % 1000000000)))) rfl rfl rfl ⟨by show (-9223372036854775808:Int)<=_;omega,by show _<=(9223372036854775807:Int);omega⟩ ?_
  repeat' (first|refine rl1 ?_|refine rs1 ?_ ?_<;>intro h|fail)
  ·have hneg:Ha u o t i<0:=by have h':=of_decide_eq_true h;omega
   have hk:=Vu hneg
   have hlo:0<=Ha u o t i+1000000000:=by omega
   refine Jz (.d (.v (.int .u32 ((Ar u o t i).1.getD i 0-(((Ar u o t i).2.1+t*o.getD i 0)) % 1000000000-(Ar u o t i).2.2+1000000000)))) rfl rfl rfl ⟨by show (0:Int)<=_;omega,by show _<=(4294967295:Int);omega⟩ ?_
   repeat' (first|refine rl1 ?_|refine rs1 ?_ ?_<;>intro h|fail)
   refine Ad8 (id:=0) (S':=⟨[Dt (p++(Ar u o t i).1.set i ((Ar u o t i).1.getD i 0-(((Ar u o t i).2.1+t*o.getD i 0)) % 1000000000-(Ar u o t i).2.2+1000000000))],[]⟩) (p.length+i) rfl rfl rfl (by show PV.ptr 0 (p.length+((i:Int)).toNat*1)=_;simp) rfl rfl (by rw [E1,List.length_append,Ce];omega) (by show (⟨[(Dt (p++(Ar u o t i).1)).set (p.length+i) _],[]⟩:PS)=_;rw [L8]) ?_
   repeat' (first|refine rl1 ?_|refine rs1 ?_ ?_<;>intro h|fail)
   refine ⟨i+1,by omega,by omega,?_,?_⟩
   ·rw [hk]
    refine Aa rfl (Aa rfl (Aa rfl (Aa ?_ (by repeat (first|exact Ag|refine Aa rfl ?_)))))
    show _=PV.d (.v (.int .u64 (((Ar u o t i).2.1+t*o.getD i 0) / 1000000000)))
    rw [<- he];rfl
   ·rw [hk,hdd]
  ·have hpos:¬ Ha u o t i<0:=by have h':=of_decide_eq_false h;omega
   have hk:=Vv hpos
   have hlo:0<=Ha u o t i:=by omega
   have hup:Ha u o t i<1000000000:=by omega
   refine Jz (.d (.v (.int .u32 ((Ar u o t i).1.getD i 0-(((Ar u o t i).2.1+t*o.getD i 0)) % 1000000000-(Ar u o t i).2.2)))) rfl rfl rfl ⟨by show (0:Int)<=_;omega,by show _<=(4294967295:Int);omega⟩ ?_
   repeat' (first|refine rl1 ?_|refine rs1 ?_ ?_<;>intro h|fail)
   refine Ad8 (id:=0) (S':=⟨[Dt (p++(Ar u o t i).1.set i ((Ar u o t i).1.getD i 0-(((Ar u o t i).2.1+t*o.getD i 0)) % 1000000000-(Ar u o t i).2.2))],[]⟩) (p.length+i) rfl rfl rfl (by show PV.ptr 0 (p.length+((i:Int)).toNat*1)=_;simp) rfl rfl (by rw [E1,List.length_append,Ce];omega) (by show (⟨[(Dt (p++(Ar u o t i).1)).set (p.length+i) _],[]⟩:PS)=_;rw [L8]) ?_
   repeat' (first|refine rl1 ?_|refine rs1 ?_ ?_<;>intro h|fail)
   refine ⟨i+1,by omega,by omega,?_,?_⟩
   ·rw [hk]
    refine Aa rfl (Aa rfl (Aa rfl (Aa ?_ (by repeat (first|exact Ag|refine Aa rfl ?_)))))
    show _=PV.d (.v (.int .u64 (((Ar u o t i).2.1+t*o.getD i 0) / 1000000000)))
    rw [<- he];rfl
   ·rw [hk,hdd]
 ·have hlt:¬ i<o.length:=by have h1 := ‹decide ((i:Int)<((o.map B4).length:Int))=false›;simpa using h1
  have hi':i<o.length+1:=by have h1 := ‹decide ((i:Int)<((o.map B4).length:Int)+1)=true›;simp at h1;omega
  have he:(Ar u o t i).2.1=(Ar u o t i).2.1+t*o.getD i 0:=by rw [Ht (by omega)];simp
  repeat' (first|refine rl1 ?_|refine rs1 ?_ ?_<;>intro h|fail)
  have hdd:Ha u o t i=(Ar u o t i).1.getD i 0-(((Ar u o t i).2.1)) % 1000000000-(Ar u o t i).2.2:=by unfold Ha;rw [<- he]
  refine wsld (id:=0) (p.length+i) rfl rfl rfl (by show PV.ptr 0 (p.length+((i:Int)).toNat*1)=_;simp) rfl (X0 (p:=p) (X:=(Ar u o t i).1) (by rw [Ce];omega)) ?_
  repeat' (first|refine rl1 ?_|refine rs1 ?_ ?_<;>intro h|fail)
  refine Jz (.d (.v (.int .i64 ((Ar u o t i).1.getD i 0)))) rfl rfl rfl ⟨by show (-9223372036854775808:Int)<=_;omega,by show _<=(9223372036854775807:Int);omega⟩ ?_
  repeat' (first|refine rl1 ?_|refine rs1 ?_ ?_<;>intro h|fail)
  refine Jz (.d (.v (.int .i64 ((((Ar u o t i).2.1)) % 1000000000)))) rfl rfl rfl ⟨by show (-9223372036854775808:Int)<=_;omega,by show _<=(9223372036854775807:Int);omega⟩ ?_
  repeat' (first|refine rl1 ?_|refine rs1 ?_ ?_<;>intro h|fail)
  ·have hneg:Ha u o t i<0:=by have h':=of_decide_eq_true h;omega
   have hk:=Vu hneg
   have hlo:0<=Ha u o t i+1000000000:=by omega
   refine Jz (.d (.v (.int .u32 ((Ar u o t i).1.getD i 0-(((Ar u o t i).2.1)) % 1000000000-(Ar u o t i).2.2+1000000000)))) rfl rfl rfl ⟨by show (0:Int)<=_;omega,by show _<=(4294967295:Int);omega⟩ ?_
   repeat' (first|refine rl1 ?_|refine rs1 ?_ ?_<;>intro h|fail)
   refine Ad8 (id:=0) (S':=⟨[Dt (p++(Ar u o t i).1.set i ((Ar u o t i).1.getD i 0-(((Ar u o t i).2.1)) % 1000000000-(Ar u o t i).2.2+1000000000))],[]⟩) (p.length+i) rfl rfl rfl (by show PV.ptr 0 (p.length+((i:Int)).toNat*1)=_;simp) rfl rfl (by rw [E1,List.length_append,Ce];omega) (by show (⟨[(Dt (p++(Ar u o t i).1)).set (p.length+i) _],[]⟩:PS)=_;rw [L8]) ?_
   repeat' (first|refine rl1 ?_|refine rs1 ?_ ?_<;>intro h|fail)
   refine ⟨i+1,by omega,by omega,?_,?_⟩
   ·rw [hk]
    refine Aa rfl (Aa rfl (Aa rfl (Aa ?_ (by repeat (first|exact Ag|refine Aa rfl ?_)))))
    show _=PV.d (.v (.int .u64 (((Ar u o t i).2.1+t*o.getD i 0) / 1000000000)))
    rw [<- he];rfl
   ·rw [hk,hdd]
  ·have hpos:¬ Ha u o t i<0:=by have h':=of_decide_eq_false h;omega
   have hk:=Vv hpos
   have hlo:0<=Ha u o t i:=by omega
   have hup:Ha u o t i<1000000000:=by omega
   refine Jz (.d (.v (.int .u32 ((Ar u o t i).1.getD i 0-(((Ar u o t i).2.1)) % 1000000000-(Ar u o t i).2.2)))) rfl rfl rfl ⟨by show (0:Int)<=_;omega,by show _<=(4294967295:Int);omega⟩ ?_
   repeat' (first|refine rl1 ?_|refine rs1 ?_ ?_<;>intro h|fail)
   refine Ad8 (id:=0) (S':=⟨[Dt (p++(Ar u o t i).1.set i ((Ar u o t i).1.getD i 0-(((Ar u o t i).2.1)) % 1000000000-(Ar u o t i).2.2))],[]⟩) (p.length+i) rfl rfl rfl (by show PV.ptr 0 (p.length+((i:Int)).toNat*1)=_;simp) rfl rfl (by rw [E1,List.length_append,Ce];omega) (by show (⟨[(Dt (p++(Ar u o t i).1)).set (p.length+i) _],[]⟩:PS)=_;rw [L8]) ?_
   repeat' (first|refine rl1 ?_|refine rs1 ?_ ?_<;>intro h|fail)
   refine ⟨i+1,by omega,by omega,?_,?_⟩
   ·rw [hk]
    refine Aa rfl (Aa rfl (Aa rfl (Aa ?_ (by repeat (first|exact Ag|refine Aa rfl ?_)))))
    show _=PV.d (.v (.int .u64 (((Ar u o t i).2.1+t*o.getD i 0) / 1000000000)))
    rw [<- he];rfl
   ·rw [hk,hdd]
 ·obtain rfl:i=o.length+1:=by simp at h;omega
  repeat' (first|refine rl1 ?_|refine rs1 ?_ ?_<;>intro h|fail)
  refine fin ?_ rfl (.inr rfl) rfl rfl rfl rfl
  show (PV.ltL 1 0 (Dt _)&&true)=true
  rw [Ef];rfl
set_option maxHeartbeats 1000000 in
theorem Af2 (p u o:List Int) (cap:Nat) (hu:∀ z∈u,Af z) (ho:∀ z∈o,Af z) (hl:o.length<u.length) (hm:p.length+u.length<=1000002) :
  Am 179 [.bsl 1 0 p.length u.length cap,B1 o] ⟨[Dt (p++u)],[]⟩ (.ret (T8 [])) ⟨[Dt (p++In u o)],[]⟩:=by
 refine Ad Tryz.func179 rfl rfl (Nat.le_of_ble_eq_true rfl) rfl (Nat.le_refl _) ?_
 have hlo:((o.map B4).length:Int)=o.length:=by simp
 repeat' (first|refine rl1 ?_|refine rs1 ?_ ?_<;>intro h|fail)
 refine B3 (ι := Nat) (ok:=fun i=>i<=o.length+1) (L:=fun i=>[(0,.bsl 1 0 p.length u.length cap),(1,B1 o),(4,.d (.v (.int .u32 (B0 u o i).2))),(9,Ah ((o.map B4).length+1)),(10,Ah i)]) (Sx:=fun i=>⟨[Dt (p++(B0 u o i).1)],[]⟩) (μ := fun i=>o.length+1-i) 0 (Nat.zero_le _) (by exact (by repeat (first|exact Ag|refine Aa rfl ?_))) rfl ?_
 rintro i hi
 obtain ⟨hk1,hk3,hk4⟩:=R1 hu ho i
 obtain ⟨hx1,hx2⟩:=Ay hk1 i
 obtain ⟨hy1,hy2⟩:=Ay ho i
 repeat' (first|refine rl1 ?_|refine rs1 ?_ ?_<;>intro h|fail)
 ·have hi':i<o.length+1:=by simp at h;omega
  repeat' (first|refine rl1 ?_|refine rs1 ?_ ?_<;>intro h|fail)
  refine wsld (id:=0) (p.length+i) rfl rfl rfl (by show PV.ptr 0 (p.length+((i:Int)).toNat*1)=_;simp) rfl (X0 (p:=p) (X:=(B0 u o i).1) (by rw [G8];omega)) ?_
  repeat' (first|refine rl1 ?_|refine rs1 ?_ ?_<;>intro h|fail)
  ·have hlt:i<o.length:=by have h1 := ‹decide ((i:Int)<((o.map B4).length:Int))=true›;simpa using h1
   refine wix (B4 (o.getD i 0)) rfl rfl rfl rfl rfl (E8 hlt) (by omega) ?_
   repeat' (first|refine rl1 ?_|refine rs1 ?_ ?_<;>intro h|fail)
   have he:(B0 u o i).1.getD i 0+(B0 u o i).2+o.getD i 0=(B0 u o i).1.getD i 0+(B0 u o i).2+o.getD i 0:=rfl
   refine Ad8 (id:=0) (S':=⟨[Dt (p++(B0 u o i).1.set i ((((B0 u o i).1.getD i 0+(B0 u o i).2+o.getD i 0)) % 1000000000))],[]⟩) (p.length+i) rfl rfl rfl (by show PV.ptr 0 (p.length+((i:Int)).toNat*1)=_;simp) rfl rfl (by rw [E1,List.length_append,G8];omega) (by show (⟨[(Dt (p++(B0 u o i).1)).set (p.length+i) _],[]⟩:PS)=_;rw [L8]) ?_
   repeat' (first|refine rl1 ?_|refine rs1 ?_ ?_<;>intro h|fail)
   refine ⟨i+1,by omega,by omega,?_,?_⟩
   ·refine Aa rfl (Aa rfl (Aa ?_ (by repeat (first|exact Ag|refine Aa rfl ?_))))
    show _=PV.d (.v (.int .u32 (((B0 u o i).1.getD i 0+(B0 u o i).2+o.getD i 0) / 1000000000)))
    rw [he];rfl
   ·show _=(⟨[Dt (p++(B0 u o i).1.set i (((B0 u o i).1.getD i 0+(B0 u o i).2+o.getD i 0) % 1000000000))],[]⟩:PS)
    rw [he]
  ·have hlt:¬ i<o.length:=by have h1 := ‹decide ((i:Int)<((o.map B4).length:Int))=false›;simpa using h1
   have he:(B0 u o i).1.getD i 0+(B0 u o i).2+o.getD i 0=(B0 u o i).1.getD i 0+(B0 u o i).2:=by rw [Ht (l:=o) (by omega)];omega
   refine Ad8 (id:=0) (S':=⟨[Dt (p++(B0 u o i).1.set i ((((B0 u o i).1.getD i 0+(B0 u o i).2)) % 1000000000))],[]⟩) (p.length+i) rfl rfl rfl (by show PV.ptr 0 (p.length+((i:Int)).toNat*1)=_;simp) rfl rfl (by rw [E1,List.length_append,G8];omega) (by show (⟨[(Dt (p++(B0 u o i).1)).set (p.length+i) _],[]⟩:PS)=_;rw [L8]) ?_
   repeat' (first|refine rl1 ?_|refine rs1 ?_ ?_<;>intro h|fail)
   refine ⟨i+1,by omega,by omega,?_,?_⟩
   ·refine Aa rfl (Aa rfl (Aa ?_ (by repeat (first|exact Ag|refine Aa rfl ?_))))
    show _=PV.d (.v (.int .u32 (((B0 u o i).1.getD i 0+(B0 u o i).2+o.getD i 0) / 1000000000)))
    rw [he];rfl
   ·show _=(⟨[Dt (p++(B0 u o i).1.set i (((B0 u o i).1.getD i 0+(B0 u o i).2+o.getD i 0) % 1000000000))],[]⟩:PS)
    rw [he]
 ·obtain rfl:i=o.length+1:=by simp at h;omega
  repeat' (first|refine rl1 ?_|refine rs1 ?_ ?_<;>intro h|fail)
  refine fin ?_ rfl (.inl rfl) rfl rfl rfl rfl
  show (PV.ltL 1 0 (Dt _)&&true)=true
  rw [Ef];rfl
theorem Yb {l:List Int} {j:Nat} {v:Int} (h:j<l.length):(l.set j v).drop j=v::l.drop (j+1):=by
 rw [List.set_eq_take_append_cons_drop,if_pos h,List.drop_left' (by simp;omega)]
theorem drop_atL {l:List Int} {j:Nat} (h:j<l.length):l.drop j=l.getD j 0::l.drop (j+1):=by
 rw [List.drop_eq_getElem_cons h,List.getD_eq_getElem?_getD,List.getElem?_eq_getElem h];rfl
structure DivOk (m B:List Int) (n:Nat) (t:Int) (A Q:List Int) (j:Nat):Prop where
 la:A.length=m.length+1
 oka:∀ z∈A,Af z
 lq:Q.length=m.length-(n+1)
 okq:∀ z∈Q,Af z
 hj:j<=m.length-(n+1)
 top:Aj (A.drop j)<Aj B
 eq:t*Aj m=Aj B*(1000000000 ^ j*Aj (Q.drop j))+Aj A
theorem DivOk.dlt {m B:List Int} {n:Nat} {t:Int} {A Q:List Int} {j:Nat} (h:DivOk m B n t A Q (j+1)):Aj (A.drop j)<1000000000*Aj B:=by
 have h1:=h.hj
 have h2:=h.la
 have h3:=h.top
 have h4:=Ay h.oka j
 have h5:=h4.2
 rw [drop_atL (l:=A) (j:=j) (by omega),Aj]
 omega
theorem DivOk.step {m B:List Int} {n:Nat} {t:Int} {A Q:List Int} {j:Nat} (h:DivOk m B n t A Q (j+1)) (hB:∀ z∈B,Af z) (hBl:B.length=n+2) {g:Int} (hg:Af g)
  (h1:Aj (A.drop j)<(g+1)*Aj B) (h2:(g-1)*Aj B<=Aj (A.drop j)) {r:Int×List Int} (hr:(if Lc (A.drop j) B g=true then (g-1,In (Dm (A.drop j) B g) B) else (g,Dm (A.drop j) B g))=r) :
  DivOk m B n t (A.take j++r.2) (Q.set j r.1) j/\Af r.1/\(Lc (A.drop j) B g=true->1<=g):=by
 have k1:=h.hj
 have k2:=h.la
 have k3:=h.lq
 have hok:∀ z∈A.drop j,Af z:=fun z hz=>h.oka z (List.mem_of_mem_drop hz)
 have hd:=Afa hok hB hg (by rw [List.length_drop];omega) h.dlt h1 h2
 dsimp only at hd
 rw [hr] at hd
 obtain ⟨d1,d2,d3,d4,d5,d6⟩:=hd
 have e0:=h.eq
 have e1:=Ri A j
 have e2:=Bx (A.take j) r.2
 rw [List.length_take,Nat.min_eq_left (by omega)] at e2
 refine ⟨⟨by rw [List.length_append,List.length_take,d2,List.length_drop];omega,fun z hz=>?_,by rw [List.length_set];exact k3,Zb h.okq d1,by omega,?_,?_⟩,d1,d6⟩
 ·rcases List.mem_append.1 hz with hz|hz
  ·exact h.oka z (List.mem_of_mem_take hz)
  ·exact d3 z hz
 ·rw [List.drop_left' (by rw [List.length_take];omega)];exact d5
 ·rw [Yb (by omega),Aj,e2,d4]
  rw [e0,e1,Int.pow_succ]
  generalize (1000000000:Int) ^ j=p
  grind
theorem Lj (k:Nat):(0:Int)<1000000000 ^ k:=Int.pow_pos (by decide)
theorem Ae9 {m o:List Int} {n:Nat} {t:Int} (hm:∀ z∈m,Af z) (ho:∀ z∈o,Af z) (hl:o.length=n+2) (h0:0<o.getD (n+1) 0) (hlen:n+2<=m.length) (ht:t=1000000000 / (o.getD (n+1) 0+1)) :
  Af t/\1<=t/\(∀ z∈(D3 o t).take (n+2),Af z)/\((D3 o t).take (n+2)).length=n+2/\Aj ((D3 o t).take (n+2))=t*Aj o/\0<((D3 o t).take (n+2)).getD (n+1) 0 /\
   DivOk m ((D3 o t).take (n+2)) n t (D3 m t) (List.replicate (m.length-(n+1)) 0) (m.length-(n+1)):=by
 obtain ⟨u1,u2,u3⟩:=Xg ho (n:=n+1) hl h0
 rw [<- ht] at u1 u2 u3
 have hto:Af t:=⟨by omega,u2⟩
 have hso:=Tf hto ho
 have hB:∀ z∈(D3 o t).take (n+2),Af z:=fun z hz=>hso z (List.mem_of_mem_take hz)
 have hBl:((D3 o t).take (n+2)).length=n+2:=by rw [List.length_take,Lq];omega
 have hV:Aj ((D3 o t).take (n+2))=t*Aj o:=by
  have:=Oa (l:=D3 o t) (n:=n+2) (Ip hso (by rw [Lr,<- hl];exact u3))
  rw [<- this,Lr]
 refine ⟨hto,u1,hB,hBl,hV,?_,⟨Lq _ _,Tf hto hm,by simp,fun z hz=>?_,Nat.le_refl _,?_,?_⟩⟩
 ·refine Int.not_le.1 fun hle=>?_
  have hz0:((D3 o t).take (n+2)).getD (n+1) 0=0:=by have:=(Ay hB (n+1)).1;omega
  have hlt:=Ob hB (n:=n+1) fun j hj=>by
   rcases Nat.lt_or_ge j (n+2) with h|h
   ·rw [show j=n+1 by omega];exact hz0
   ·rw [List.getD_eq_getElem?_getD,List.getElem?_eq_none (by omega)];rfl
  rw [hV] at hlt
  have h5:=A1 o (n+1)
  rw [List.take_of_length_le (by omega)] at h5
  have h6:=Aw (l:=o.take (n+1)) fun z hz=>ho z (List.mem_of_mem_take hz)
  have hp:=Lj (n+1)
  have h7:(1000000000:Int) ^ (n+1)*1<=1000000000 ^ (n+1)*o.getD (n+1) 0:=Int.mul_le_mul_of_nonneg_left h0 (by omega)
  have h8:1*Aj o<=t*Aj o:=Int.mul_le_mul_of_nonneg_right u1 (by omega)
  omega
 ·rw [List.eq_of_mem_replicate hz];exact ⟨by decide,by decide⟩
 ·rw [hV]
  exact scal_top hm ho hto (n:=n+1) hl h0 (by omega) u1
 ·rw [List.drop_of_length_le (by simp)]
  simp [Aj,Lr]
theorem top_lt {D V top a3 b1 b2 P ld lv:Int} (hP:0<P) (hV:V=(b1*1000000000+b2)*P+lv) (hDe:D=(top*1000000000+a3)*P+ld) (hlv:lv<P) (hld:0<=ld) (ha:0<=a3) (hD:D<1000000000*V):top<b1*1000000000+b2+1:=by
 refine Int.not_le.1 fun hle=>?_
 have h1:((b1*1000000000+b2+1)*1000000000)*P<=(top*1000000000+a3)*P:=Int.mul_le_mul_of_nonneg_right (by omega) (by omega)
 have e:((b1*1000000000+b2+1)*1000000000)*P=1000000000*((b1*1000000000+b2)*P)+1000000000*P:=by grind
 omega
def Ya:Nat->Int->List Int
 |0,_=>[]
 |k+1,v=>v % 1000000000::Ya k (v / 1000000000)
theorem Zy:∀ {l:List Int},(∀ z∈l,Af z)->l=Ya l.length (Aj l)
 |[],_=>rfl
 |x::r,h=>by
  have h1:=Zy (l:=r) fun z hz=>h z (List.mem_cons_of_mem _ hz)
  obtain ⟨h2,h3⟩:=h x List.mem_cons_self
  rw [List.length_cons,Ya,Aj]
  rw [show (x+1000000000*Aj r) % 1000000000=x by omega,show (x+1000000000*Aj r) / 1000000000=Aj r by omega,<- h1]
theorem Ae8 {l:List Int} {k:Nat} {v:Int} (h:∀ z∈l,Af z) (hl:l.length=k) (hv:Aj l=v):l=Ya k v:=by
 rw [<- hl,<- hv];exact Zy h
def Ff (o:List Int):Int:=1000000000 / (o.getD (o.length-1) 0+1)
def divA (m o:List Int):List Int:=Ya (m.length+1) (Ff o*(Aj m % Aj o))
def divQ (m o:List Int):List Int:=Ya (m.length-(o.length-1)) (Aj m / Aj o)
theorem div_ends {m o A Q:List Int} {n:Nat} (ho:∀ z∈o,Af z) (hm:∀ z∈m,Af z) (hl:o.length=n+2) (h0:0<o.getD (n+1) 0) (hV:Aj ((D3 o (Ff o)).take (n+2))=Ff o*Aj o) (ht1:1<=Ff o) (h:DivOk m ((D3 o (Ff o)).take (n+2)) n (Ff o) A Q 0) :
  A=divA m o/\Q=divQ m o:=by
 have h1:=h.top
 have h2:=h.eq
 rw [List.drop_zero] at h1
 rw [List.drop_zero,hV,Int.pow_zero,Int.one_mul] at h2
 rw [hV] at h1
 have hA0:=Aw h.oka
 have hvo:0<Aj o:=by
  refine Int.not_le.1 fun hle=>?_
  have:=Int.mul_nonpos_of_nonneg_of_nonpos (a:=Ff o) (by omega) hle
  omega
 have h3:Aj m=Aj o*Aj Q+Aj A / Ff o/\Aj A=Ff o*(Aj A / Ff o):=by
  have hd:Ff o∣Aj A:=⟨Aj m-Aj o*Aj Q,by rw [Int.mul_sub,h2];grind⟩
  have e:=Int.mul_ediv_cancel' hd
  refine ⟨?_,e.symm⟩
  have:Ff o*Aj m=Ff o*(Aj o*Aj Q+Aj A / Ff o):=by rw [Int.mul_add,e,h2];grind
  exact Int.eq_of_mul_eq_mul_left (by omega) this
 obtain ⟨h4,h5⟩:=h3
 generalize Aj A / Ff o=R at h4 h5
 have hR0:0<=R:=by
  refine Int.not_lt.1 fun hlt=>?_
  have:Ff o*R<0:=Int.mul_neg_of_pos_of_neg (by omega) hlt
  omega
 have hR1:R<Aj o:=by
  rw [h5] at h1
  exact Int.lt_of_mul_lt_mul_left h1 (by omega)
 have hq:Aj m / Aj o=Aj Q:=by rw [h4,Int.mul_add_ediv_left _ _ (by omega),Int.ediv_eq_zero_of_lt hR0 hR1];omega
 have hr:Aj m % Aj o=R:=by rw [h4,Int.add_comm,Int.add_mul_emod_self_left,Int.emod_eq_of_lt hR0 hR1]
 refine ⟨Ae8 h.oka h.la (by rw [hr];exact h5),Ae8 h.okq (by rw [h.lq,hl];omega) (by rw [hq])⟩
theorem nan_do (a:Int):Am 152 [Ah a] ⟨[],[]⟩ (.ret (An false)) ⟨[],[]⟩:=by
 refine Ad Tryz.func152 rfl rfl (Nat.le_of_ble_eq_true rfl) rfl (Nat.le_refl _) ?_
 repeat' (first|refine rl0 ?_|refine rs0 ?_ ?_<;>intro h|fail)
 all_goals simp
theorem Agv (a:Int):Am 181 [.d (.v (.int .u32 a))] ⟨[],[]⟩ (.ret (An false)) ⟨[],[]⟩:=by
 refine Ad Tryz.func181 rfl rfl (Nat.le_of_ble_eq_true rfl) rfl (Nat.le_refl _) ?_
 repeat' (first|refine rl0 ?_|refine rs0 ?_ ?_<;>intro h|fail)
 all_goals simp
theorem Aey (a b:Int):Am 121 [Ah a,Ah b] ⟨[],[]⟩ (.ret (Ah (Cp a b))) ⟨[],[]⟩:=by
 refine Ad Tryz.func121 rfl rfl (Nat.le_of_ble_eq_true rfl) rfl (Nat.le_refl _) ?_
 repeat' (first|refine rl0 ?_|refine rs0 ?_ ?_<;>intro h|fail)
 refine wp1 (nan_do a) ?_
 repeat' (first|refine rl0 ?_|refine rs0 ?_ ?_<;>intro h|fail)
 refine wp1 (nan_do b) ?_
 repeat' (first|refine rl0 ?_|refine rs0 ?_ ?_<;>intro h|fail)
 ·rw [show Cp a b = -1 from if_pos (of_decide_eq_true h)]
 ·rename_i g
  rw [show Cp a b=1 from by unfold Cp;rw [if_neg (of_decide_eq_false g),if_pos (of_decide_eq_true h)]]
 ·rename_i g
  rw [show Cp a b=0 from by unfold Cp;rw [if_neg (of_decide_eq_false g),if_neg (of_decide_eq_false h)]]
theorem cmpu_do (a b:Int):Am 148 [.d (.v (.int .u32 a)),.d (.v (.int .u32 b))] ⟨[],[]⟩ (.ret (Ah (Cp a b))) ⟨[],[]⟩:=by
 refine Ad Tryz.func148 rfl rfl (Nat.le_of_ble_eq_true rfl) rfl (Nat.le_refl _) ?_
 repeat' (first|refine rl0 ?_|refine rs0 ?_ ?_<;>intro h|fail)
 refine wp1 (Agv a) ?_
 repeat' (first|refine rl0 ?_|refine rs0 ?_ ?_<;>intro h|fail)
 refine wp1 (Agv b) ?_
 repeat' (first|refine rl0 ?_|refine rs0 ?_ ?_<;>intro h|fail)
 ·rw [show Cp a b = -1 from if_pos (of_decide_eq_true h)]
 ·rename_i g
  rw [show Cp a b=1 from by unfold Cp;rw [if_neg (of_decide_eq_false g),if_pos (of_decide_eq_true h)]]
 ·rename_i g
  rw [show Cp a b=0 from by unfold Cp;rw [if_neg (of_decide_eq_false g),if_neg (of_decide_eq_false h)]]
theorem Sl {p:Prop} [Decidable p] (h:(!decide p)=false):p:=by
 cases e:decide p with
 |true=>exact of_decide_eq_true e
 |false=>rw [e] at h;cases h
theorem Ur (m o:List Int) (i:Nat):Uq m o (i+1)=if Cp (m.getD i 0) (o.getD i 0)≠0 then Cp (m.getD i 0) (o.getD i 0) else Uq m o i:=by
 rw [Uq];unfold Cp
 split
 ·simp
 ·split<;>simp
theorem cmpI_nat (m n:Nat):Cp m n=if m<n then -1 else if n<m then 1 else 0:=by
 unfold Cp
 simp only [Int.ofNat_lt]
set_option maxHeartbeats 1000000 in
theorem G3 (m o:List Int) (hml:m.length<=1000000) (hol:o.length<=1000000):Am 114 [B1 m,B1 o] ⟨[],[]⟩ (.ret (Ah (cmpL m o))) ⟨[],[]⟩:=by
 have hlm:((m.map B4).length:Int)=m.length:=by simp
 have hlo:((o.map B4).length:Int)=o.length:=by simp
 have hci:=Aey ((m.map B4).length:Int) ((o.map B4).length:Int)
 rw [hlm,hlo,cmpI_nat] at hci
 have hcl:cmpL m o=if m.length<o.length then -1 else if o.length<m.length then 1 else Uq m o m.length:=rfl
 by_cases h1:m.length<o.length
 ·rw [if_pos h1] at hci hcl
  rw [hcl]
  refine Ad Tryz.func114 rfl rfl (Nat.le_of_ble_eq_true rfl) rfl (Nat.le_refl _) ?_
  repeat' (first|refine rl0 ?_|refine rs0 ?_ ?_<;>intro h|fail)
  refine wp1 hci ?_ (ha:=by rw [<- hlm,<- hlo];exact (by repeat (first|exact Ae|refine Ab (Ac _) ?_)))
  repeat' (first|refine rl0 ?_|refine rs0 ?_ ?_<;>intro h|fail)
  rfl
 by_cases h2:o.length<m.length
 ·rw [if_neg h1,if_pos h2] at hci hcl
  rw [hcl]
  refine Ad Tryz.func114 rfl rfl (Nat.le_of_ble_eq_true rfl) rfl (Nat.le_refl _) ?_
  repeat' (first|refine rl0 ?_|refine rs0 ?_ ?_<;>intro h|fail)
  refine wp1 hci ?_ (ha:=by rw [<- hlm,<- hlo];exact (by repeat (first|exact Ae|refine Ab (Ac _) ?_)))
  repeat' (first|refine rl0 ?_|refine rs0 ?_ ?_<;>intro h|fail)
  rfl
 have he:m.length=o.length:=by omega
 rw [if_neg h1,if_neg h2] at hci hcl
 rw [hcl]
 refine Ad Tryz.func114 rfl rfl (Nat.le_of_ble_eq_true rfl) rfl (Nat.le_refl _) ?_
 repeat' (first|refine rl0 ?_|refine rs0 ?_ ?_<;>intro h|fail)
 refine wp1 hci ?_ (ha:=by rw [<- hlm,<- hlo];exact (by repeat (first|exact Ae|refine Ab (Ac _) ?_)))
 repeat' (first|refine rl0 ?_|refine rs0 ?_ ?_<;>intro h|fail)
 refine B3 (ι := Nat) (ok:=fun j=>j<=m.length/\Uq m o m.length=Uq m o j) (L:=fun j=>[(0,B1 m),(1,B1 o),(6,Ah ((j:Int)-1))]) (Sx:=fun _=>⟨[],[]⟩) (μ := fun j=>j) m.length ⟨Nat.le_refl _,rfl⟩ (by refine Aa rfl (Aa rfl (Aa ?_ Ag));show PV.d (.v (.int .i64 (_-1)))=_;rw [hlm]) rfl ?_
 rintro j ⟨hj,hk⟩
 repeat' (first|refine rl0 ?_|refine rs0 ?_ ?_<;>intro h|fail)
 ·have h0:0<j:=by have:=of_decide_eq_true h;omega
  obtain ⟨i,rfl⟩:∃ i,j=i+1:=⟨j-1,by omega⟩
  have hi:i<m.length:=by omega
  refine T1 (B4 (m.getD i 0)) rfl rfl rfl rfl rfl (by rw [show (((i+1:Nat):Int)-1).toNat=((i:Nat):Int).toNat by omega];exact E8 hi) (by omega) ?_
  repeat' (first|refine rl0 ?_|refine rs0 ?_ ?_<;>intro h|fail)
  refine T1 (B4 (o.getD i 0)) rfl rfl rfl rfl rfl (by rw [show (((i+1:Nat):Int)-1).toNat=((i:Nat):Int).toNat by omega];exact E8 (by omega)) (by omega) ?_
  repeat' (first|refine rl0 ?_|refine rs0 ?_ ?_<;>intro h|fail)
  refine wp1n (cmpu_do (m.getD i 0) (o.getD i 0)) ?_
  repeat' (first|refine rl0 ?_|refine rs0 ?_ ?_<;>intro h|fail)
  ·have hne:Cp (m.getD i 0) (o.getD i 0)≠0:=by
    intro e;rw [e] at h;simp at h
   rw [hk,Ur,if_pos hne]
  ·have heq:=Sl h
   refine ⟨i,⟨by omega,by rw [hk,Ur,if_neg (by rw [heq];simp)]⟩,Nat.lt_succ_self _,?_,rfl⟩
   refine Aa rfl (Aa rfl (Aa ?_ Ag))
   show PV.d (.v (.int .i64 (((i+1:Nat):Int)-1-1)))=_
   rw [show ((i+1:Nat):Int)-1-1=(i:Int)-1 by omega]
 ·have h0:j=0:=by have:=of_decide_eq_false h;omega
  subst h0
  rw [hk];rfl
@[reducible] def whI (z:Int):PV:=whP (decide (z<0)) (Al z.natAbs)
theorem Aaq {z:Int}:Al z.natAbs=[]<->z=0:=by rw [C7];omega
theorem Oc (z:Int):Am 82 [whI z] ⟨[],[]⟩ (.ret (Ah (Cp z 0))) ⟨[],[]⟩:=by
 have hl:((Al z.natAbs).map B4).length=(Al z.natAbs).length:=by simp
 have hz:(Al z.natAbs).length=0<->z=0:=by rw [List.length_eq_zero_iff,Aaq]
 refine Ad Tryz.func82 rfl rfl (Nat.le_of_ble_eq_true rfl) rfl (Nat.le_refl _) ?_
 repeat' (first|refine rl0 ?_|refine rs0 ?_ ?_<;>intro h|fail)
 ·have h0:z=0:=hz.1 (by have:=of_decide_eq_true h;omega)
  subst h0;rfl
 ·rw [show Cp z 0 = -1 from if_pos (of_decide_eq_true h)]
 ·rename_i g
  have h1:=of_decide_eq_false h
  have h0:z≠0:=fun e=>by have:=of_decide_eq_false g;have:=hz.2 e;omega
  rw [show Cp z 0=1 from by unfold Cp;rw [if_neg h1,if_pos (by omega)]]
theorem Ab1 (neg:Bool) {l:List Int} (hok:∀ z∈l,Af z):whP (neg && !decide (Bs l=[])) (Bs l)=whI (if neg=true then -Aj l else Aj l):=by
 have h0:=Aw hok
 have e:=N9 hok
 have hn:(if neg=true then -Aj l else Aj l).natAbs=(Aj l).toNat:=by split<;>omega
 unfold whI
 rw [hn,<- e]
 congr 3
 have h1:Bs l=[]<->Aj l=0:=by rw [e,C7];omega
 cases neg with
 |false=>simp;omega
 |true =>
  by_cases hz:Aj l=0
  ·rw [decide_eq_true (h1.2 hz)];simp [hz]
  ·rw [decide_eq_false (fun h=>hz (h1.1 h))];simp;omega
theorem Dy (neg:Bool) {l:List Int} (hok:∀ z∈l,Af z) (v:Int) (hv:(if neg=true then -Aj l else Aj l)=v):Am 112 [An neg,B1 l] ⟨[],[]⟩ (.ret (whI v)) ⟨[],[]⟩:=by
 have h:=T0 neg l
 rw [Ab1 neg hok,hv] at h
 exact h
theorem Zn (z:Int):Am 89 [whI z] ⟨[],[]⟩ (.ret (whI (-z))) ⟨[],[]⟩:=by
 have hw:=Dy (!decide (z<0)) (Bq z.natAbs) (-z) (by rw [Bi];by_cases h:z<0<;>simp [h]<;>omega)
 refine Ad Tryz.func89 rfl rfl (Nat.le_of_ble_eq_true rfl) rfl (Nat.le_refl _) ?_
 repeat' (first|refine rl0 ?_|refine rs0 ?_ ?_<;>intro h|fail)
 refine wp1 hw ?_
 repeat' (first|refine rl0 ?_|refine rs0 ?_ ?_<;>intro h|fail)
 rfl
theorem Hw {m n:Nat} (h:m<=n):(Al m).length<=(Al n).length :=
 Jf (Nat.lt_of_le_of_lt h (Lb (Nat.le_refl _)))
theorem Ahw {a b:List Int} (ha:∀ z∈a,Af z) (hb:∀ z∈b,Af z):Aj (Ac5 a b)=Aj a+Aj b/\∀ z∈Ac5 a b,Af z:=by
 unfold Ac5
 split
 ·obtain ⟨h1,h2,_⟩:=Wq hb ha (by omega)
  exact ⟨by omega,h2⟩
 ·obtain ⟨h1,h2,_⟩:=Wq ha hb (by omega)
  exact ⟨h1,h2⟩
set_option maxHeartbeats 1000000 in
theorem Zk (a b:Int) (hal:(Al a.natAbs).length<=1000000) (hbl:(Al b.natAbs).length<=1000000):Am 80 [whI a,whI b] ⟨[],[]⟩ (.ret (whI (a+b))) ⟨[],[]⟩:=by
 have oa:=Bq a.natAbs
 have ob:=Bq b.natAbs
 have va:=Bi a.natAbs
 have vb:=Bi b.natAbs
 by_cases hs:(a<0<->b<0)
 ·obtain ⟨pv,po⟩:=Ahw oa ob
  have hp:=plus_do _ _ oa ob hal hbl
  have hw:=Dy (decide (a<0)) po (a+b) (by rw [pv,va,vb];by_cases h:a<0<;>simp [h]<;>omega)
  have hd:decide (a<0)=decide (b<0):=by simp [hs]
  refine Ad Tryz.func80 rfl rfl (Nat.le_of_ble_eq_true rfl) rfl (Nat.le_refl _) ?_
  repeat' (first|refine rl2 ?_|refine rs2 ?_ ?_<;>intro h|fail)
  ·refine b0 (fun k=>Nat.beq k 8) [(1,[0]),(3,[0]),(5,[1])] ?_
   repeat' (first|refine rl7 ?_|refine rs7 ?_ ?_<;>intro h|fail)
   refine Dk hp ?_
   repeat' (first|refine rl7 ?_|refine rs7 ?_ ?_<;>intro h|fail)
   refine Dk hw ?_
   repeat' (first|refine rl7 ?_|refine rs7 ?_ ?_<;>intro h|fail)
   repeat' (first|refine rl2 ?_|refine rs2 ?_ ?_<;>intro h|fail)
   rfl
  ·exfalso;simp [hd] at h
 ·have hd:decide (a<0)≠decide (b<0):=by simpa using hs
  have hc:=G3 (Al a.natAbs) (Al b.natAbs) hal hbl
  rw [Kv] at hc
  by_cases hlt:(a.natAbs:Int)<b.natAbs
  ·obtain ⟨mv,mo,_⟩:=Mi ob oa (Hw (by omega)) (by rw [va,vb];omega)
   have hm:=Aav _ _ ob oa hbl
   have hw:=Dy (decide (b<0)) mo (a+b) (by rw [mv,va,vb];by_cases h:b<0<;>simp [h]<;>omega)
   rw [show Cp (a.natAbs:Int) b.natAbs = -1 from if_pos hlt] at hc
   refine Ad Tryz.func80 rfl rfl (Nat.le_of_ble_eq_true rfl) rfl (Nat.le_refl _) ?_
   repeat' (first|refine rl2 ?_|refine rs2 ?_ ?_<;>intro h|fail)
   ·exfalso;exact hd (of_decide_eq_true h)
   refine wp1 hc ?_
   repeat' (first|refine rl2 ?_|refine rs2 ?_ ?_<;>intro h|fail)
   refine b0 (fun k=>Nat.beq k 8) [(1,[1]),(3,[1]),(5,[0])] ?_
   repeat' (first|refine rl7 ?_|refine rs7 ?_ ?_<;>intro h|fail)
   refine Dk hm ?_
   repeat' (first|refine rl7 ?_|refine rs7 ?_ ?_<;>intro h|fail)
   refine Dk hw ?_
   repeat' (first|refine rl7 ?_|refine rs7 ?_ ?_<;>intro h|fail)
   repeat' (first|refine rl2 ?_|refine rs2 ?_ ?_<;>intro h|fail)
   rfl
  ·obtain ⟨mv,mo,_⟩:=Mi oa ob (Hw (by omega)) (by rw [va,vb];omega)
   have hm:=Aav _ _ oa ob hal
   have hw:=Dy (decide (a<0)) mo (a+b) (by rw [mv,va,vb];by_cases h:a<0<;>simp [h]<;>omega)
   obtain ⟨c,hcc,hc0⟩:∃ c:Int,Cp (a.natAbs:Int) b.natAbs=c/\0<=c:=⟨_,rfl,by unfold Cp;rw [if_neg hlt];split<;>omega⟩
   rw [hcc] at hc
   refine Ad Tryz.func80 rfl rfl (Nat.le_of_ble_eq_true rfl) rfl (Nat.le_refl _) ?_
   repeat' (first|refine rl2 ?_|refine rs2 ?_ ?_<;>intro h|fail)
   ·exfalso;exact hd (of_decide_eq_true h)
   refine wp1 hc ?_
   repeat' (first|refine rl2 ?_|refine rs2 ?_ ?_<;>intro h|fail)
   ·exfalso;have:=of_decide_eq_true h;omega
   refine b0 (fun k=>Nat.beq k 8) [(1,[0]),(3,[0]),(5,[1])] ?_
   repeat' (first|refine rl7 ?_|refine rs7 ?_ ?_<;>intro h|fail)
   refine Dk hm ?_
   repeat' (first|refine rl7 ?_|refine rs7 ?_ ?_<;>intro h|fail)
   refine Dk hw ?_
   repeat' (first|refine rl7 ?_|refine rs7 ?_ ?_<;>intro h|fail)
   repeat' (first|refine rl2 ?_|refine rs2 ?_ ?_<;>intro h|fail)
   rfl
theorem wsub_do (a b:Int) (hal:(Al a.natAbs).length<=1000000) (hbl:(Al b.natAbs).length<=1000000):Am 147 [whI a,whI b] ⟨[],[]⟩ (.ret (whI (a-b))) ⟨[],[]⟩:=by
 have h1:=Zn b
 have h2:=Zk a (-b) hal (by rw [Int.natAbs_neg];exact hbl)
 rw [show a + -b=a-b by omega] at h2
 refine Ad Tryz.func147 rfl rfl (Nat.le_of_ble_eq_true rfl) rfl (Nat.le_refl _) ?_
 repeat' (first|refine rl2 ?_|refine rs2 ?_ ?_<;>intro h|fail)
 refine b0 (fun k=>Nat.beq k 4) [(0,[0]),(1,[1])] ?_
 repeat' (first|refine rl7 ?_|refine rs7 ?_ ?_<;>intro h|fail)
 refine Dk h1 ?_
 repeat' (first|refine rl7 ?_|refine rs7 ?_ ?_<;>intro h|fail)
 refine Dk h2 ?_
 repeat' (first|refine rl7 ?_|refine rs7 ?_ ?_<;>intro h|fail)
 repeat' (first|refine rl2 ?_|refine rs2 ?_ ?_<;>intro h|fail)
 rfl
theorem mulL_ok {m o:List Int} (hm:∀ z∈m,Af z) (ho:∀ z∈o,Af z):∀ z∈mulL m o,Af z:=Sh hm ho _
theorem Ia (a b:Int) (hal:(Al a.natAbs).length<=1000000) (hbl:(Al b.natAbs).length<=1000000):Am 79 [whI a,whI b] ⟨[],[]⟩ (.ret (whI (a*b))) ⟨[],[]⟩:=by
 have oa:=Bq a.natAbs
 have ob:=Bq b.natAbs
 have h:=mul_do (decide (a<0)) (decide (b<0)) _ _ oa ob hal hbl
 rw [Ab1 _ (mulL_ok oa ob),mulL_val,Bi,Bi] at h
 have e:(if (!decide (decide (a<0)=decide (b<0)))=true then -((a.natAbs:Int)*b.natAbs) else (a.natAbs:Int)*b.natAbs)=a*b:=by
  rcases Int.lt_or_le a 0 with h1|h1
  ·rcases Int.lt_or_le b 0 with h2|h2
   ·rw [show (a.natAbs:Int) = -a by omega,show (b.natAbs:Int) = -b by omega];simp [h1,h2,Int.neg_mul_neg]
   ·rw [show (a.natAbs:Int) = -a by omega,show (b.natAbs:Int)=b by omega];simp [h1,show ¬ b<0 by omega,Int.neg_mul]
  ·rcases Int.lt_or_le b 0 with h2|h2
   ·rw [show (a.natAbs:Int)=a by omega,show (b.natAbs:Int) = -b by omega];simp [h2,show ¬ a<0 by omega,Int.mul_neg]
   ·rw [show (a.natAbs:Int)=a by omega,show (b.natAbs:Int)=b by omega];simp [show ¬ a<0 by omega,show ¬ b<0 by omega]
 rw [e] at h
 exact h
theorem cmpI_neg {a b:Int}:Cp (-a) (-b)=Cp b a:=by
 unfold Cp
 by_cases h1:a<b
 ·rw [if_neg (by omega),if_pos (by omega),if_neg (by omega),if_pos h1]
 ·by_cases h2:b<a
  ·rw [if_pos (by omega),if_pos h2]
  ·rw [if_neg (by omega),if_neg (by omega),if_neg h2,if_neg h1]
set_option maxHeartbeats 1000000 in
theorem Zl (a b:Int) (hal:(Al a.natAbs).length<=1000000) (hbl:(Al b.natAbs).length<=1000000):Am 84 [whI a,whI b] ⟨[],[]⟩ (.ret (Ah (Cp a b))) ⟨[],[]⟩:=by
 have s1:=Oc a
 have s2:=Oc b
 have hc:=Aey (Cp a 0) (Cp b 0)
 have c1:=G3 (Al a.natAbs) (Al b.natAbs) hal hbl
 have c2:=G3 (Al b.natAbs) (Al a.natAbs) hbl hal
 rw [Kv] at c1 c2
 have hl:(((Al a.natAbs).map B4).length:Int)=(Al a.natAbs).length:=by simp
 have hz:(Al a.natAbs).length=0<->a=0:=by rw [List.length_eq_zero_iff,Aaq]
 have key:Cp (Cp a 0) (Cp b 0)≠0->Cp (Cp a 0) (Cp b 0)=Cp a b:=by
  unfold Cp
  by_cases h1:a<0<;>by_cases h2:0<a<;>by_cases h3:b<0<;>by_cases h4:0<b<;>simp [h1,h2,h3,h4]<;>(try omega)<;>(try (rw [if_pos (by omega)]))<;>(try (rw [if_neg (by omega),if_pos (by omega)]))
 have key2:a=0->Cp (Cp a 0) (Cp b 0)=Cp a b:=by
  rintro rfl
  unfold Cp
  by_cases h3:b<0<;>by_cases h4:0<b<;>simp [h3,h4]<;>omega
 have key3:Cp (Cp a 0) (Cp b 0)=0->(a<0<->b<0):=by
  unfold Cp
  by_cases h1:a<0<;>by_cases h2:0<a<;>by_cases h3:b<0<;>by_cases h4:0<b<;>simp [h1,h2,h3,h4]
 generalize Cp (Cp a 0) (Cp b 0)=c at hc key key2 key3
 refine Ad Tryz.func84 rfl rfl (Nat.le_of_ble_eq_true rfl) rfl (Nat.le_refl _) ?_
 repeat' (first|refine rl0 ?_|refine rs0 ?_ ?_<;>intro h|fail)
 refine wp1n s1 ?_
 repeat' (first|refine rl0 ?_|refine rs0 ?_ ?_<;>intro h|fail)
 refine wp1n s2 ?_
 repeat' (first|refine rl0 ?_|refine rs0 ?_ ?_<;>intro h|fail)
 refine wp1n hc ?_
 repeat' (first|refine rl0 ?_|refine rs0 ?_ ?_<;>intro h|fail)
 ·rw [key (by intro e;rw [e] at h;simp at h)]
 ·rename_i g
  rw [key2 (hz.1 (by have:=of_decide_eq_true h;omega))]
 ·rename_i g1 g2
  have hs:=key3 (Sl g1)
  have ha:=of_decide_eq_true h
  have hb:=hs.1 ha
  have e:Cp (b.natAbs:Int) a.natAbs=Cp a b:=by rw [show (b.natAbs:Int) = -b by omega,show (a.natAbs:Int) = -a by omega];exact cmpI_neg
  rw [e] at c2
  refine wp1 c2 ?_
  repeat' (first|refine rl0 ?_|refine rs0 ?_ ?_<;>intro h|fail)
  rfl
 ·rename_i g1 g2
  have hs:=key3 (Sl g1)
  have ha:=of_decide_eq_false h
  have hb:¬ b<0:=fun hb=>ha (hs.2 hb)
  have e:Cp (a.natAbs:Int) b.natAbs=Cp a b:=by rw [show (b.natAbs:Int)=b by omega,show (a.natAbs:Int)=a by omega]
  rw [e] at c1
  refine wp1 c1 ?_
  repeat' (first|refine rl0 ?_|refine rs0 ?_ ?_<;>intro h|fail)
  rfl
@[reducible] def tokE (t:Tok):List DV:=[.v (.int .i64 t.kind),.v (.string (Cr t.text)),.v (.int .i64 (t.pos:Int))]
@[reducible] def Adx (l:List Tok):PV := .d (.sl 3 (l.map tokE))
theorem Rg {K:Kx} {w:World} {g:Nat}:∀ {l:List Tok} {o:Nat},(∀ j v,(El l)[j]? = some v->w.cell? ⟨g,o+j,none⟩=some v)->Bu (K.good w) w 3 (l.map tokE) g o
 |[],o,_=>by simp [Bu]
 |t::l,o,h=>by
  simp only [List.map_cons,Bu]
  have hc:El (t::l) = .int .i64 t.kind :: .string (Cr t.text) :: .int .i64 (t.pos:Int)::El l:=rfl
  rw [hc] at h
  refine ⟨rfl,?_,Rg fun j v hj=>?_⟩
  ·simp only [Aq]
   exact ⟨⟨_,h 0 _ rfl,by simp [Ci,Value.oneCell']⟩,⟨_,h 1 _ rfl,by simp [Ci,Value.oneCell']⟩,⟨_,h 2 _ rfl,by simp [Ci,Value.oneCell']⟩,trivial⟩
  ·have:=h (j+3) v (by simpa using hj)
   rw [show o+(j+3)=o+3+j by omega] at this
   exact this
theorem scan_do (s:ByteArray):Am 106 [Bf s] ⟨[],[]⟩ (.ret (.tup [Adx (Gz s.data.toList).1,Ah ((Gz s.data.toList).2.1:Int),Ah (Gz s.data.toList).2.2])) ⟨[],[]⟩:=by
 refine ⟨enters_of Tryz.func106 rfl rfl,fun K w vs hI hA=>?_⟩
 simp only [Ao] at hA
 obtain ⟨u,us,rfl,hr,rfl⟩:=hA
 rw [Br hr]
 refine (scan_any s w).mono ?_
 rintro e w' ⟨v,rfl,hT,hB⟩
 obtain ⟨h1,h2⟩:=hI.below hB
 refine ⟨K,h2,h1,_,rfl,?_⟩
 simp only [Rep]
 refine ⟨_,rfl,?_⟩
 simp only [Ao]
 refine ⟨_,_,rfl,?_,_,_,rfl,Dv rfl,_,_,rfl,Dv rfl,rfl⟩
 obtain ⟨hlen,hv⟩:=hT
 simp only [Rep,Ci,List.length_map]
 rcases hv with ⟨rfl,h0⟩|⟨g,cap,cur,rfl,hg,hh,hn,hcap,hsz,hcur⟩
 ·exact ⟨none,0,by rw [h0],by omega,by omega,fun hne=>by rw [List.length_eq_zero_iff] at h0;rw [h0] at hne;simp at hne⟩
 ·refine ⟨_,cap,rfl,hn,by simpa [maxLen] using hcap,fun _=>⟨g,0,rfl,?_,Rg fun j v hj=>?_⟩⟩
  ·obtain ⟨f1,f2,f3⟩:=Fk.new hI hg (Array.getElem?_eq_some_iff.1 hh).1
   exact ⟨f1,f2,fun hm=>by have:=hI.Mlt _ hm;omega,fun lo hm=>by have:=hI.Tlt _ _ hm;omega,fun t c lo ht hc=>absurd hc (f3 t c lo ht)⟩
  ·rw [Nat.zero_add,cell_of_row _ _ j _ _ _ hh]
   rw [<- hcur] at hj
   have hjl:=(List.getElem?_eq_some_iff.1 hj).1
   rw [List.getElem?_take] at hj
   split at hj
   ·simpa using hj
   ·cases hj
@[reducible] def tkP (k:Int) (s:ByteArray) (p:Int):PV := .agg [Ah k,Bf s,Ah p]
theorem Agd (k:Int) (s:ByteArray) (p:Int) (hs:s.size<=9223372036854775807):Am 85 [tkP k s p] ⟨[],[]⟩ (.ret (Ah (Ds k s.data.toList p))) ⟨[],[]⟩:=by
 refine G4 Tryz.func85 rfl rfl rfl fun K w vs _ hA=>?_
 simp only [Ao,Rep,Ci] at hA
 obtain ⟨u,us,rfl,⟨cs,rfl,u0,us0,rfl,r0,u1,us1,rfl,r1,u2,us2,rfl,r2,rfl⟩,rfl⟩:=hA
 rw [r0.1,r1.1,r2.1]
 exact Up k s p w hs
theorem atoi_do (s:ByteArray) (n:Int) (hl:s.size<=18) (h:Lib.atoi s.data.toList=some n):Am 189 [Bf s] ⟨[],[]⟩ (.ret (.tup [Ah n,.d (.v .nilIface)])) ⟨[],[]⟩:=by
 refine ⟨enters_of Tryz.func189 rfl rfl,fun K w vs hI hA=>?_⟩
 simp only [Ao] at hA
 obtain ⟨u,us,rfl,hr,rfl⟩:=hA
 rw [Br hr]
 refine (Tryz.strconv_Atoi s n hl h w).mono ?_
 rintro e w' ⟨rfl,t,rfl⟩
 have hb:=Lib.bytesWorld_below w 5 t
 obtain ⟨h1,h2⟩:=hI.below hb
 exact ⟨K,h2,h1,_,rfl,by simp [Rep,Ao,Ci,Value.oneCell']⟩
theorem pfn_do (k:Int) (s:ByteArray) (p:Int) (hs:s.size<=9223372036854775807):Am 142 [tkP k s p] ⟨[],[]⟩ (.ret (An (!decide (Ds k s.data.toList p=0)))) ⟨[],[]⟩:=by
 refine Ad Tryz.func142 rfl rfl (Nat.le_of_ble_eq_true rfl) rfl (Nat.le_refl _) ?_
 repeat' (first|refine rl0 ?_|refine rs0 ?_ ?_<;>intro h|fail)
 refine E2 (Agd k s p hs) rfl rfl rfl rfl rfl (by repeat (first|exact Ae|refine Ab (Ac _) ?_)) ?_
 repeat' (first|refine rl0 ?_|refine rs0 ?_ ?_<;>intro h|fail)
 rfl
abbrev TkZ:=Int×ByteArray×Int
@[reducible] def tkR (t:TkZ):List DV:=[.v (.int .i64 t.1),.v (.string t.2.1),.v (.int .i64 t.2.2)]
@[reducible] def tksP (l:List TkZ):PV := .d (.sl 3 (l.map tkR))
def badT (t:TkZ):Bool := !decide (Ds t.1 t.2.1.data.toList t.2.2=0)
def idxT (l:List TkZ):Int:=match l.findIdx? badT with|some i=>i|none => -1
theorem idx_do (l:List TkZ) (hs:∀ t∈l,t.2.1.size<=9223372036854775807):Am 141 [tksP l,.fn 142 []] ⟨[],[]⟩ (.ret (Ah (idxT l))) ⟨[],[]⟩:=by
 refine Er Tryz.func141 rfl rfl (Nat.le_of_ble_eq_true rfl) rfl (Nat.le_refl _) ?_
 intro hf
 have hl:l.length<=9223372036854775807:=by have:=hf.1;simpa [fitP] using this
 repeat' (first|refine rl0 ?_|refine rs0 ?_ ?_<;>intro h|fail)
 refine B3 (ι := Nat) (ok:=fun i=>i<=l.length/\(l.take i).any badT=false) (L:=fun i=>[(0,tksP l),(1,.fn 142 []),(7,Ah (l.map tkR).length),(8,Ah i)]) (Sx:=fun _=>⟨[],[]⟩) (μ := fun i=>l.length-i) 0 ⟨Nat.zero_le _,by simp⟩ (by repeat (first|exact Ag|refine Aa rfl ?_)) rfl ?_
 rintro i ⟨hi,hm⟩
 repeat' (first|refine rl0 ?_|refine rs0 ?_ ?_<;>intro h|fail)
 ·have hlt:i<l.length:=by simpa using h
  obtain ⟨x,hx⟩:∃ x,l[i]? = some x:=⟨_,List.getElem?_eq_getElem hlt⟩
  refine wix _ rfl rfl rfl rfl rfl (Sg hx) (by omega) ?_
  repeat' (first|refine rl0 ?_|refine rs0 ?_ ?_<;>intro h|fail)
  refine E2 (pfn_do x.1 x.2.1 x.2.2 (hs x (List.mem_of_getElem? hx))) rfl rfl rfl rfl rfl (by repeat (first|exact Ae|refine Ab (Ac _) ?_)) ?_
  repeat' (first|refine rl0 ?_|refine rs0 ?_ ?_<;>intro h|fail)
  ·rw [show idxT l=i from by unfold idxT;rw [M2 hx hm h]]
  ·exact ⟨i+1,⟨by omega,Zr hx hm h⟩,by omega,(by repeat (first|exact Ag|refine Aa rfl ?_)),rfl⟩
 ·rw [List.take_of_length_le (by simp at h;omega)] at hm
  rw [show idxT l = -1 from by unfold idxT;rw [List.findIdx?_eq_none_iff.2 (by rw [List.any_eq_false] at hm;intro x hx;simpa using hm x hx)]]
def orcA:Nat->List PV->PS->Option (POut×PS):=fun f args S=>match args with
 |[.d (.v (.string s))]=>match S with
  |⟨[],[]⟩=>bif Nat.beq f 189&&Nat.ble s.size 18 then
    match Lib.atoi s.data.toList with
    |some n=>some (.ret (.tup [Ah n,.d (.v .nilIface)]),⟨[],[]⟩)
    |none=>none
   else none
  |_=>none
 |_=>none
theorem Y4:Pz orcA:=by
 intro f args S out S' h
 unfold orcA at h
 split at h
 ·rename_i s
  split at h
  ·cases hb:(Nat.beq f 189&&Nat.ble s.size 18) with
   |false=>rw [hb] at h;cases h
   |true =>
    rw [hb] at h
    simp only [Bool.and_eq_true] at hb
    obtain rfl:=Nat.eq_of_beq_eq_true hb.1
    simp only [cond_true] at h
    split at h
    ·rename_i n hn
     cases h
     exact atoi_do s n (Nat.le_of_ble_eq_true hb.2) hn
    ·cases h
  ·cases h
 ·cases h
def rowsA:Nat->Bool:=fun f=>[144,172,174,173,193,194,209,210].any (Nat.beq f)
theorem Ph (a b:Ex):a.same b=(decide (a.op=b.op)&&decide (a.n=b.n)&&decide (a.name=b.name)&&Te a.args b.args):=by cases a;cases b;rfl
theorem M8:∀ {l l':List Ex},l.length≠l'.length->Te l l'=false
 |[],[],h=>absurd rfl h
 |_::_,[],_=>rfl
 |[],_::_,_=>rfl
 |x::l,y::l',h=>by simp only [Te,M8 (l:=l) (l':=l') (by simpa using h),Bool.and_false]
theorem Q6 {l l':List Ex} {i:Nat} {x y:Ex} (hx:l[i]? = some x) (hy:l'[i]? = some y):Te (l.drop i) (l'.drop i)=(x.same y&&Te (l.drop (i+1)) (l'.drop (i+1))):=by
 obtain ⟨h1,rfl⟩:=List.getElem?_eq_some_iff.1 hx
 obtain ⟨h2,rfl⟩:=List.getElem?_eq_some_iff.1 hy
 rw [List.drop_eq_getElem_cons h1,List.drop_eq_getElem_cons h2];rfl
theorem Aic {l l':List Ex} {i:Nat} (h:l.length=l'.length) (hi:l.length<=i):Te (l.drop i) (l'.drop i)=true:=by
 rw [List.drop_of_length_le hi,List.drop_of_length_le (by omega)];rfl
set_option maxHeartbeats 1000000 in
theorem same_do:∀ (n:Nat) (a b:Ex),a.hgt<=n->Am 71 [exP a,exP b] ⟨[],[]⟩ (.ret (An (a.same b))) ⟨[],[]⟩:=by
 intro n
 induction n with
 |zero=>intro a b h;cases a;simp [Ex.hgt] at h
 |succ n ih =>
  intro a b hn
  refine Er Tryz.func71 rfl rfl (Nat.le_of_ble_eq_true rfl) rfl (Nat.le_refl _) ?_
  intro hf
  repeat' (first|refine rl0 ?_|refine rs0 ?_ ?_<;>intro h|fail)
  ·rw [Ph];simp_all
  ·rw [Ph];simp_all
  ·rw [Ph];simp_all
  ·rw [Ph,M8]
   ·simp
   ·rw [<- A8,<- A8 b.args];intro e;rw [e] at h;simp at h
  rename_i h1 h2 h3
  have hlen:a.args.length=b.args.length:=by
   rw [<- A8,<- A8 b.args];simp at h;omega
  have hfit:a.args.length<=9223372036854775807:=by
   rw [<- A8];exact hf.1.2.2.2.1
  refine B3 (ι := Nat) (ok:=fun i=>i<=a.args.length/\a.same b=Te (a.args.drop i) (b.args.drop i)) (L:=fun i=>[(2,.ptr 0 0),(3,.ptr 1 0),(5,Ah i)]) (Sx:=fun _=>⟨[(exP a).parts,(exP b).parts],[]⟩) (μ := fun i=>a.args.length-i) 0 ⟨Nat.zero_le _,?_⟩ (by repeat (first|exact Ag|refine Aa rfl ?_)) rfl ?_
  ·rw [Ph];simp_all
  rintro i ⟨hi,hm⟩
  repeat' (first|refine rl0 ?_|refine rs0 ?_ ?_<;>intro h|fail)
  ·have hlt:i<a.args.length:=by rw [A8] at h;simpa using h
   obtain ⟨x,hx⟩:∃ x,a.args[i]? = some x:=⟨_,List.getElem?_eq_getElem hlt⟩
   obtain ⟨y,hy⟩:∃ y,b.args[i]? = some y:=⟨_,List.getElem?_eq_getElem (by omega)⟩
   refine T1 _ rfl rfl rfl rfl rfl (Ai hx) (by omega) ?_
   repeat' (first|refine rl5 ?_|refine rs5 ?_ ?_<;>intro h|fail)
   refine T1 _ rfl rfl rfl rfl rfl (Ai hy) (by omega) ?_
   repeat' (first|refine rl5 ?_|refine rs5 ?_ ?_<;>intro h|fail)
   have:=Gc (List.mem_of_getElem? hx)
   refine wcn (ih x y (by omega)) rfl rfl rfl rfl rfl (by repeat (first|exact Ae|refine Ab (Ac _) ?_)) ?_
   repeat' (first|refine rl0 ?_|refine rs0 ?_ ?_<;>intro h|fail)
   ·rw [hm,Q6 hx hy];simp_all
   ·exact ⟨i+1,⟨by omega,by rw [hm,Q6 hx hy];simp_all⟩,by omega,(by repeat (first|exact Ag|refine Aa rfl ?_)),rfl⟩
  ·rw [hm,Aic hlen (by rw [A8] at h;simp at h;omega)]
def normV:Value->DV
 |.slice none 0 0 => .sl 4 []
 |x => .v x
mutual
def Ag5:DV->DV
 |.v x=>normV x
 |.sl k l => .sl k (Yw l)
def Yv:List DV->List DV
 |[]=>[]
 |c::r=>Ag5 c::Yv r
def Yw:List (List DV)->List (List DV)
 |[]=>[]
 |e::r=>Yv e::Yw r
end
theorem Lf:∀ l:List (List DV),(Yw l).length=l.length
 |[]=>rfl
 |_::r=>by simp [Yw,Lf r]
theorem V3:∀ l:List DV,(Yv l).length=l.length
 |[]=>rfl
 |_::r=>by simp [Yv,V3 r]
theorem Ag6 {G:Nat->Nat->Prop} {w:World} {x u:Value} (h:Ci G w (.v x) u):Ci G w (normV x) u:=by
 unfold normV
 split
 ·simp only [Ci] at h |-
  exact ⟨none,0,h.1,Nat.le_refl _,by omega,fun hne=>absurd rfl hne⟩
 ·exact h
mutual
theorem V5 {G:Nat->Nat->Prop} {w:World}:∀ {c:DV} {u:Value},Ci G w c u->Ci G w (Ag5 c) u
 |.v x,u,h=>by rw [Ag5];exact Ag6 h
 |.sl k l,u,h=>by
  simp only [Ag5,Ci] at h |-
  obtain ⟨p,cap,e,h1,h2,h3⟩:=h
  refine ⟨p,cap,by rw [Lf];exact e,by rw [Lf];exact h1,h2,fun hne=>?_⟩
  obtain ⟨b,o,e1,h4,h5⟩:=h3 (by rintro rfl;exact hne rfl)
  exact ⟨b,o,e1,by rw [Lf];exact h4,V6 h5⟩
theorem V4 {G:Nat->Nat->Prop} {w:World} {b:Nat}:∀ {l:List DV} {o:Nat},Aq G w l b o->Aq G w (Yv l) b o
 |[],_,_=>by simp [Yv,Aq]
 |c::r,o,h=>by
  simp only [Yv,Aq] at h |-
  obtain ⟨⟨u,h1,h2⟩,h3⟩:=h
  exact ⟨⟨u,h1,V5 h2⟩,V4 h3⟩
theorem V6 {G:Nat->Nat->Prop} {w:World} {k b:Nat}:∀ {l:List (List DV)} {o:Nat},Bu G w k l b o->Bu G w k (Yw l) b o
 |[],_,_=>by simp [Yw,Bu]
 |e::r,o,h=>by
  simp only [Yw,Bu] at h |-
  exact ⟨by rw [V3];exact h.1,V4 h.2.1,V6 h.2.2⟩
end
def normX:PV->PV
 |.agg [.d a,.d b,.d c,.d e] => .agg [.d a,.d b,.d c,.d (Ag5 e)]
 |p=>p
theorem V7 (S:PS) (p:PV):Coe S p (normX p):=by
 unfold normX
 split
 ·refine E0 (Ab (Ac _) (Ab (Ac _) (Ab (Ac _) (Ab ?_ Ae))))
  intro K w u _ h
  simp only [Rep] at h |-
  exact V5 h
 ·exact Ac _
def toTk (t:Tok):TkZ:=(t.kind,Cr t.text,t.pos)
theorem Xc (l:List Tok):Adx l=tksP (l.map toTk):=by
 simp only [Adx,tksP,List.map_map];rfl
theorem Wk {s:ByteArray} {x:Ex} {n e:Int} (h0:(Gz s.data.toList).2.2=0) (hp:Am 107 [Adx (Gz s.data.toList).1,Ah 0] ⟨[],[]⟩ (.ret (.tup [exP x,Ah n,Ah e])) ⟨[],[]⟩) :
  Am 70 [Bf s] ⟨[],[]⟩ (.ret (.tup [exP x,Ah n,Ah e])) ⟨[],[]⟩:=by
 have hsc:=scan_do s
 rw [h0] at hsc
 refine Ad Tryz.func70 rfl rfl (Nat.le_of_ble_eq_true rfl) rfl (Nat.le_refl _) ?_
 repeat' (first|refine rl0 ?_|refine rs0 ?_ ?_<;>intro h|fail)
 refine E2 hsc rfl rfl rfl rfl rfl (by repeat (first|exact Ae|refine Ab (Ac _) ?_)) ?_
 repeat' (first|refine rl0 ?_|refine rs0 ?_ ?_<;>intro h|fail)
 refine E2 hp rfl rfl rfl rfl rfl (by repeat (first|exact Ae|refine Ab (Ac _) ?_)) ?_
 repeat' (first|refine rl0 ?_|refine rs0 ?_ ?_<;>intro h|fail)
 rfl
theorem reads_do {s:ByteArray} {x y:Ex} {n:Int} (h0:(Gz s.data.toList).2.2=0) (hp:Am 107 [Adx (Gz s.data.toList).1,Ah 0] ⟨[],[]⟩ (.ret (.tup [exP x,Ah n,Ah 0])) ⟨[],[]⟩) (hs:x.same y=true) :
  Am 36 [Bf s,exP y,Ah n] ⟨[],[]⟩ (.ret (An true)) ⟨[],[]⟩:=by
 have hsm:=same_do _ x y (Nat.le_refl _)
 rw [hs] at hsm
 refine Ad Tryz.func36 rfl rfl (Nat.le_of_ble_eq_true rfl) rfl (Nat.le_refl _) ?_
 repeat' (first|refine rl0 ?_|refine rs0 ?_ ?_<;>intro h|fail)
 refine E2 (Wk h0 hp) rfl rfl rfl rfl rfl (by repeat (first|exact Ae|refine Ab (Ac _) ?_)) ?_
 repeat' (first|refine rl0 ?_|refine rs0 ?_ ?_<;>intro h|fail)
 ·refine E2 hsm rfl rfl rfl rfl rfl (by repeat (first|exact Ae|refine Ab (Ac _) ?_)) ?_
  repeat' (first|refine rl0 ?_|refine rs0 ?_ ?_<;>intro h|fail)
  rfl
 all_goals (exfalso;simp at *)
theorem fails_do {s:ByteArray} {n:Int} (h0:(Gz s.data.toList).2.2=0) (hp:Am 107 [Adx (Gz s.data.toList).1,Ah 0] ⟨[],[]⟩ (.ret (.tup [exP .nil,Ah n,Ah 350])) ⟨[],[]⟩) :
  Am 37 [Bf s,Ah n,Ah 350] ⟨[],[]⟩ (.ret (An true)) ⟨[],[]⟩:=by
 refine Ad Tryz.func37 rfl rfl (Nat.le_of_ble_eq_true rfl) rfl (Nat.le_refl _) ?_
 repeat' (first|refine rl0 ?_|refine rs0 ?_ ?_<;>intro h|fail)
 refine E2 (Wk h0 hp) rfl rfl rfl rfl rfl (by repeat (first|exact Ae|refine Ab (Ac _) ?_)) ?_
 repeat' (first|refine rl0 ?_|refine rs0 ?_ ?_<;>intro h|fail)
 all_goals first|rfl|(exfalso;simp at *)
noncomputable def runP (l:List TkZ):Option (POut×PS):=Afj Tryz.prog orcA rowsA 1000 144 [.ptr 0 0] (paK (l.map tkR) 0)
def normO:Option (POut×PS)->Option (POut×PS)
 |some (.ret r,S)=>some (.ret (normX r),S)
 |o=>o
theorem runP_ok {l:List TkZ} {x:Ex} {n:Int} (h:normO (runP l)=some (.ret (exP x),paK (l.map tkR) n)):Am 144 [.ptr 0 0] (paK (l.map tkR) 0) (.ret (exP x)) (paK (l.map tkR) n):=by
 unfold normO at h
 split at h
 ·rename_i r S e
  simp only [Option.some.injEq,Prod.mk.injEq,POut.ret.injEq] at h
  obtain ⟨h1,rfl⟩:=h
  exact Ed (I8 Y4 e) (h1▸V7 _ _)
 ·exact I8 Y4 h
theorem Ll {s:ByteArray} (l:List TkZ) (x:Ex) {n:Int} (h0:(Gz s.data.toList).2.2=0) (hl:(Gz s.data.toList).1.map toTk=l) (h1:idxT l = -1) (h2:∀ t∈l,t.2.1.size<=9223372036854775807)
  (h:normO (runP l)=some (.ret (exP x),paK (l.map tkR) n)) (hs:x.small) (hc:Bm x=0) (hsm:x.same x=true):Am 36 [Bf s,exP x,Ah n] ⟨[],[]⟩ (.ret (An true)) ⟨[],[]⟩:=by
 refine reads_do h0 ?_ hsm
 have hi:=idx_do l h2
 rw [h1] at hi
 rw [Xc,hl]
 exact parse_ok ⟨by omega,by omega⟩ hi (runP_ok h) hs hc
theorem U6 {s:ByteArray} (l:List TkZ) {n:Int} (h0:(Gz s.data.toList).2.2=0) (hl:(Gz s.data.toList).1.map toTk=l) (h1:idxT l = -1) (h2:∀ t∈l,t.2.1.size<=9223372036854775807)
  (h:runP l=some (.panic malV,paK (l.map tkR) n)):Am 37 [Bf s,Ah n,Ah 350] ⟨[],[]⟩ (.ret (An true)) ⟨[],[]⟩:=by
 refine fails_do h0 ?_
 have hi:=idx_do l h2
 rw [h1] at hi
 rw [Xc,hl]
 exact Ahs ⟨by omega,by omega⟩ hi (I8 Y4 h)
section
variable {N:Nat} {x y:Code} {Q:Exit->(Nat->PV)->PS->Prop} {F:Nat->PV} {S:PS} {n m:Nat}
theorem Sw {c:Code} (L:List (Nat×PV)) (hL:Ua L F) (h:PB Tryz.prog N c Q (fr L) S n m):PB Tryz.prog N c Q F S n m :=
 ⟨fun ro mm K w a K0 S0 w0 hI0 hn hm hs hI hF=>h.run ro mm K w a K0 S0 w0 hI0 hn hm hs hI (M3 hL hF)⟩
theorem Abe {ι : Type} (ok : ι -> Prop) (L : ι -> List (Nat×PV)) (Sx : ι -> PS) (hx:PW Tryz.prog N x (Mt (fun F' S'=>∃ i,ok i/\Ua (L i) F'/\S'=Sx i) Q) F S) (hy:∀ i,ok i->PB Tryz.prog N y Q (fr (L i)) (Sx i) n m):PB Tryz.prog N (.seq x y) Q F S n m:=by
 refine Cl (hx.mono fun e F' S' h=>?_)
 cases e with
 |normal =>
  obtain ⟨i,h1,h2,rfl⟩:=h
  exact Sw (L i) h2 (hy i h1)
 |ret=>exact h
 |exit id=>exact h
 |goto l=>exact h
 |panic c=>exact h
 |outgrown=>exact h
end
theorem cut00 {S:PS}:S.cut 0 0=⟨[],[]⟩:=by simp [PS.cut]
section
variable {N:Nat} {ops:Array Oper} {rest:List Oper} {o:Oper} {F:Nat->PV} {S:PS} {q:WRes->Prop} {U Ut:List Nat} {k:Nat} {bm:Bool} {D:List Nat}
theorem wsldn {t:TypeId} {x:Operand} {id:Nat} (off:Nat) {c:List PV} {dv:DV} (hg:Ak ops F o=some true) (ho:o.op = .load t x) (hk:(A4 t && !(tyi t).isRow)=true) (hx:evP F x = .ptr id off) (hc:S.boxes[id]? = some c) (hp:c[off]? = some (.d dv))
  (kk:WA Tryz.prog N ops chN U Ut (k+1) rest (B8 N o.dst (.d dv) F) S bm D q):WA Tryz.prog N ops chN U Ut k (o::rest) F S bm D q:=by
 refine wan (C:=True) (r := .d dv) hg ?_ trivial kk
 rw [ho]
 simp only [Hj,Gn]
 rw [hk,hx]
 simp only [cond_true]
 rw [hc]
 dsimp only
 rw [hp];rfl
end
section
variable {N:Nat} {ops:Array Oper} {rest:List Oper} {o:Oper} {F:Nat->PV} {S S':PS} {q:WRes->Prop}
theorem wslBe {t:TypeId} {x:Operand} {low high:Option Operand} {id off n cap off' n' cap':Nat} {j h:Int} (hg:Ak ops F o=some true) (ho:o.op = .slice t x low high none) (hk:(A4 t&&Nat.beq (tyi t).kind 2&&Nat.beq (tyi t).ek 1)=true) (hx:evP F x = .bsl 1 id off n cap) (hlo:loN F low=some j) (hhi:hiN F n high=some h) (h0:0<=j) (h1:j<=h) (h2:h<=n) (hcap:n<=cap) (hlt:j<cap)
  (e1:off+j.toNat=off') (e2:h.toNat-j.toNat=n') (e3:cap-j.toNat=cap') (kk:WK Tryz.prog N ops rest (B8 N o.dst (.bsl 1 id off' n' cap') F) S q):WK Tryz.prog N ops (o::rest) F S q:=by
 subst e1;subst e2;subst e3
 exact wslB hg ho hk hx hlo hhi h0 h1 h2 hcap hlt kk
end
section
variable {N:Nat} {ops:Array Oper} {rest:List Oper} {o:Oper} {F:Nat->PV} {S:PS} {q:WRes->Prop}
theorem wfld {t:TypeId} {x:Operand} {f:Nat} {l:List PV} {p:PV} {fs:Array Field} {fd:Field} (hg:Ak ops F o=some true) (ho:o.op = .field t x f) (hx:evP F x = .agg l) (hfs:Tryz.prog.underlying t=some (.struct fs)) (hfd:fs[f]? = some fd) (hk:(A4 fd.type && !(tyi fd.type).isRow)=true) (hp:l[fd.offset]? = some p)
  (kk:WK Tryz.prog N ops rest (B8 N o.dst p F) S q):WK Tryz.prog N ops (o::rest) F S q:=by
 simp only [Bool.and_eq_true,Bool.not_eq_true'] at hk
 exact D8 hg (Sv ho hx hfs hfd rfl (Fc _ hk.1) rfl (.inr ⟨hk.2,hp⟩)) kk
end
theorem Af5 (A:List Int) (j i:Nat):(A.drop j).getD i 0=A.getD (j+i) 0:=by
 simp [List.getD_eq_getElem?_getD]
theorem coe_dL {S:PS} {k:Nat} {l l':List (List DV)} (e:l=l'):Coe S (.d (.sl k l)) (.d (.sl k l')):=e▸Ac _
@[reducible] def dvS (A Q:List Int):PS:=⟨[Dt A,Dt Q],[]⟩
set_option maxHeartbeats 4000000 in
theorem U0 (m o:List Int) (n:Nat) (hm:∀ z∈m,Af z) (ho:∀ z∈o,Af z) (hl:o.length=n+2) (h0:0<o.getD (n+1) 0) (hlen:n+2<=m.length) (hml:m.length<=1000000) (hcmp:¬ cmpL m o<0) :
  Am 145 [B1 m,B1 o] ⟨[],[]⟩ (.ret (.tup [B1 (divQ m o),B1 (qL (Ff o) (Bs ((divA m o).take (n+2)))).1])) ⟨[],[]⟩:=by
 have hT:Ff o=1000000000 / (o.getD (n+1) 0+1):=by unfold Ff;rw [hl];rfl
 obtain ⟨z1,z2,z3,z4,z5,z6,z7⟩:=Ae9 hm ho hl h0 hlen hT
 have hends:=fun A Q h=>div_ends (A:=A) (Q:=Q) ho hm hl h0 z5 z2 h
 have hsa:=Adc m (Ff o) hm z1 hml
 have hsb:=Aid o (Ff o) ho z1 (by omega)
 have hcm:=G3 m o hml (by omega)
 obtain ⟨t1,t2⟩:=Ay ho (n+1)
 have hlo:((o.map B4).length:Int)=n+2:=by simp [hl]
 have hls:(((D3 o (Ff o)).map B4).length:Int)=n+3:=by rw [List.length_map,Lq,hl];omega
 refine C5 Tryz.func145 rfl rfl (Nat.le_of_ble_eq_true rfl) (fun _=>?_)
 refine Cl ?_
 repeat' (first|refine rl3 ?_|refine rs3 ?_ ?_<;>intro h|fail)
 refine Cl ?_
 repeat' (first|refine rl3 ?_|refine rs3 ?_ ?_<;>intro h|fail)
 refine wp1 hcm ?_
 repeat' (first|refine rl3 ?_|refine rs3 ?_ ?_<;>intro h|fail)
 ·exfalso;simp at h;omega
 refine Cl ?_
 repeat' (first|refine rl3 ?_|refine rs3 ?_ ?_<;>intro h|fail)
 ·exfalso;simp at h;omega
 refine Cl ?_
 repeat' (first|refine rl3 ?_|refine rs3 ?_ ?_<;>intro h|fail)
 refine wix (B4 (o.getD (n+1) 0)) rfl rfl rfl rfl rfl (by rw [hlo,show ((n:Int)+2-1)=((n+1:Nat):Int) by omega];exact E8 (by omega)) (by omega) ?_
 repeat' (first|refine rl3 ?_|refine rs3 ?_ ?_<;>intro h|fail)
 refine Jz (.d (.v (.int .u64 (o.getD (n+1) 0)))) rfl rfl rfl ⟨by show (0:Int)<=_;omega,by show _<=(18446744073709551615:Int);omega⟩ ?_
 repeat' (first|refine rl3 ?_|refine rs3 ?_ ?_<;>intro h|fail)
 obtain ⟨c1,c2⟩:=z1
 have z1:Af (Ff o):=⟨c1,c2⟩
 refine Jz (.d (.v (.int .u32 (1000000000 / (o.getD (n+1) 0+1))))) rfl rfl rfl ⟨by show (0:Int)<=_;omega,by show _<=(4294967295:Int);omega⟩ ?_
 repeat' (first|refine rl3 ?_|refine rs3 ?_ ?_<;>intro h|fail)
 refine Sw [(0,B1 m),(1,B1 o),(8,.d (.v (.int .u32 (Ff o))))] (Aa rfl (Aa rfl (Aa (by rw [hT];rfl) Ag))) ?_
 refine Cl ?_
 refine b0 (fun k=>Nat.beq k 2) [] ?_
 repeat' (first|refine rl7 ?_|refine rs7 ?_ ?_<;>intro h|fail)
 refine bnew hsa ?_ rfl Xu ?_
 ·show (PV.ltL 0 0 (Dt _)&&true)=true
  rw [Ef];rfl
 repeat' (first|refine rl7 ?_|refine rs7 ?_ ?_<;>intro h|fail)
 refine Dk hsb ?_
 repeat' (first|refine rl7 ?_|refine rs7 ?_ ?_<;>intro h|fail)
 refine Sw [(8,.d (.v (.int .u32 (Ff o)))),(9,.bsl 1 0 0 (m.length+1) (m.length+1)),(10,B1 ((D3 o (Ff o)).take (n+2)))] (Aa rfl (Aa rfl (Aa ?_ Ag))) ?_
 ·show PV.d (.sl 1 ((((D3 o (Ff o)).map B4).take ((o.map B4).length:Int).toNat).drop (0:Int).toNat))=PV.d (.sl 1 (((D3 o (Ff o)).take (n+2)).map B4))
  rw [hlo,show ((n:Int)+2).toNat=n+2 by omega,List.map_take];rfl
 generalize (D3 o (Ff o)).take (n+2)=B at z3 z4 z5 z6 z7 hends |-
 have hlB:((B.map B4).length:Int)=n+2:=by rw [List.length_map];omega
 refine Cl ?_
 repeat' (first|refine rl3 ?_|refine rs3 ?_ ?_<;>intro h|fail)
 refine Sw [(8,.d (.v (.int .u32 (Ff o)))),(9,.bsl 1 0 0 (m.length+1) (m.length+1)),(10,B1 B),(11,Ah ((n+2:Nat)))] (Aa rfl (Aa rfl (Aa rfl (Aa (by rw [show ((n+2:Nat):Int)=((B.map B4).length:Int) by omega];rfl) Ag)))) ?_
 refine Cl ?_
 repeat' (first|refine rl3 ?_|refine rs3 ?_ ?_<;>intro h|fail)
 refine Ab2 (n:=m.length-(n+1)) (.int .u32 0) rfl rfl rfl rfl rfl (by show PV.d (.v (.int .i64 (((m.length+1:Nat):Int)-((n+2:Nat):Int))))=_;rw [show ((m.length+1:Nat):Int)-((n+2:Nat):Int)=((m.length-(n+1):Nat):Int) by omega]) (by show PV.d (.v (.int .i64 (((m.length+1:Nat):Int)-((n+2:Nat):Int))))=_;rw [show ((m.length+1:Nat):Int)-((n+2:Nat):Int)=((m.length-(n+1):Nat):Int) by omega]) (by show 4*(m.length-(n+1))<=_;omega) (by omega) ?_
 repeat' (first|refine rl3 ?_|refine rs3 ?_ ?_<;>intro h|fail)
 refine Abe (ι := List Int×List Int) (ok:=fun p=>DivOk m B n (Ff o) p.1 p.2 0) (L:=fun p=>[(8,.d (.v (.int .u32 (Ff o)))),(9,.bsl 1 0 0 (m.length+1) (m.length+1)),(11,Ah ((n+2:Nat))),(12,.bsl 1 1 0 (m.length-(n+1)) (m.length-(n+1)))]) (Sx:=fun p=>dvS p.1 p.2) ?_ ?_
 ·refine Cm ?_
  repeat' (first|refine rl3 ?_|refine rs3 ?_ ?_<;>intro h|fail)
  refine C8 ?_
  refine B3 (ι := List Int×List Int×Nat) (ok:=fun p=>DivOk m B n (Ff o) p.1 p.2.1 p.2.2) (L:=fun p=>[(8,.d (.v (.int .u32 (Ff o)))),(9,.bsl 1 0 0 (m.length+1) (m.length+1)),(10,B1 B),(11,Ah ((n+2:Nat))),(12,.bsl 1 1 0 (m.length-(n+1)) (m.length-(n+1))),(13,Ah ((p.2.2:Int)-1))]) (Sx:=fun p=>dvS p.1 p.2.1) (μ := fun p=>p.2.2) (D3 m (Ff o),List.replicate (m.length-(n+1)) 0,m.length-(n+1)) z7 ?_ ?_ ?_
  ·refine Aa rfl (Aa rfl (Aa rfl (Aa rfl (Aa rfl (Aa ?_ Ag)))))
   show PV.d (.v (.int .i64 (((m.length+1:Nat):Int)-((n+2:Nat):Int)-1)))=PV.d (.v (.int .i64 (((m.length-(n+1):Nat):Int)-1)))
   rw [show ((m.length+1:Nat):Int)-((n+2:Nat):Int)=((m.length-(n+1):Nat):Int) by omega]
  ·simp [dvS,PS.addBox,PS.more,Aao]
  rintro ⟨A,Q,j⟩ hd
  dsimp only at hd |-
  cases j with
  |zero =>
   repeat' (first|refine rl2 ?_|refine rs2 ?_ ?_<;>intro h|fail)
   exact ⟨(A,Q),hd,(by repeat (first|exact Ag|refine Aa rfl ?_)),rfl⟩
  |succ j =>
  have la:=hd.la
  have lq:=hd.lq
  have hj:=hd.hj
  have hDlt:=hd.dlt
  have hU:∀ z∈A.drop j,Af z:=fun z hz=>hd.oka z (List.mem_of_mem_drop hz)
  have hVlt:Aj B<1000000000 ^ (n+2):=by have:=Ck z3;rwa [z4] at this
  have hzU:=Ip hU (n:=n+3) (by rw [Int.pow_succ];omega)
  obtain ⟨ld,hDe,hld0,hld1⟩:=Aiy hU (n:=n) (by rw [List.length_drop];omega) hzU
  obtain ⟨lv,hVe,hlv0,hlv1⟩:=top_two z3 z4
  simp only [Af5] at hDe
  obtain ⟨x2,y2⟩:=Ay hd.oka (j+(n+2))
  obtain ⟨x1,y1⟩:=Ay hd.oka (j+(n+1))
  obtain ⟨x0,y0⟩:=Ay hd.oka (j+n)
  obtain ⟨v1,w1⟩:=Ay z3 (n+1)
  obtain ⟨v2,w2⟩:=Ay z3 n
  have hP:=Lj n
  have htop:=top_lt hP hVe hDe hlv1 hld0 x0 hDlt
  have hg2:(Dt A)[j+(n+2)]? = some (.d (.v (.int .u32 (A.getD (j+(n+2)) 0)))):=Ny (by omega)
  have hg1:(Dt A)[j+(n+1)]? = some (.d (.v (.int .u32 (A.getD (j+(n+1)) 0)))):=Ny (by omega)
  have hg0:(Dt A)[j+n]? = some (.d (.v (.int .u32 (A.getD (j+n) 0)))):=Ny (by omega)
  generalize A.getD (j+(n+2)) 0=u2 at *
  generalize A.getD (j+(n+1)) 0=u1 at *
  generalize A.getD (j+n) 0=u0 at *
  repeat' (first|refine rl2 ?_|refine rs2 ?_ ?_<;>intro h|fail)
  ·refine Et chN [] [] rfl (by kernel_rfl) ?_
   repeat' (first|refine rl2 ?_|refine rs2 ?_ ?_<;>intro h|fail)
   refine wsldn (id:=0) (j+(n+2)) rfl rfl rfl (by show PV.ptr 0 (0+(((j+1:Nat):Int)-1+((n+2:Nat):Int)).toNat*1)=_;rw [show 0+(((j+1:Nat):Int)-1+((n+2:Nat):Int)).toNat*1=j+(n+2) by omega]) rfl hg2 ?_
   repeat' (first|refine rl2 ?_|refine rs2 ?_ ?_<;>intro h|fail)
   refine wan (r := .d (.v (.int .u64 u2))) rfl rfl ⟨by show (0:Int)<=_;omega,by show _<=(18446744073709551615:Int);omega⟩ ?_
   repeat' (first|refine rl2 ?_|refine rs2 ?_ ?_<;>intro h|fail)
   refine wsldn (id:=0) (j+(n+1)) rfl rfl rfl (by show PV.ptr 0 (0+(((j+1:Nat):Int)-1+((n+2:Nat):Int)-1).toNat*1)=_;rw [show 0+(((j+1:Nat):Int)-1+((n+2:Nat):Int)-1).toNat*1=j+(n+1) by omega]) rfl hg1 ?_
   repeat' (first|refine rl2 ?_|refine rs2 ?_ ?_<;>intro h|fail)
   refine wan (r := .d (.v (.int .u64 u1))) rfl rfl ⟨by show (0:Int)<=_;omega,by show _<=(18446744073709551615:Int);omega⟩ ?_
   repeat' (first|refine rl2 ?_|refine rs2 ?_ ?_<;>intro h|fail)
   refine wix (B4 (B.getD (n+1) 0)) rfl rfl rfl rfl rfl (by rw [show (((n+2:Nat):Int)-1)=((n+1:Nat):Int) by omega];exact E8 (by omega)) (by omega) ?_
   repeat' (first|refine rl2 ?_|refine rs2 ?_ ?_<;>intro h|fail)
   refine Jz (.d (.v (.int .u64 (B.getD (n+1) 0)))) rfl rfl rfl ⟨by show (0:Int)<=_;omega,by show _<=(18446744073709551615:Int);omega⟩ ?_
   repeat' (first|refine rl2 ?_|refine rs2 ?_ ?_<;>intro h|fail)
   generalize htp:u2*1000000000+u1=tp at *
   have htp0:0<=tp:=by omega
   have hq0:0<=tp / B.getD (n+1) 0:=Int.ediv_nonneg htp0 v1
   have hq1:tp / B.getD (n+1) 0*B.getD (n+1) 0<=tp:=Int.ediv_mul_le _ (by omega)
   have hq2:tp<(tp / B.getD (n+1) 0+1)*B.getD (n+1) 0:=by have:=Int.lt_ediv_add_one_mul_self tp z6;exact this
   have hgi:∃ g,(0<=g/\g<=999999999/\Aj (A.drop j)<(g+1)*Aj B/\0<=tp-g*B.getD (n+1) 0/\tp-g*B.getD (n+1) 0<=2000000000)/\(if 999999999<tp / B.getD (n+1) 0 then 999999999 else tp / B.getD (n+1) 0)=g:=by
    refine ⟨_,?_,rfl⟩
    by_cases hc:tp / B.getD (n+1) 0<=999999999
    ·rw [if_neg (by omega)]
     refine ⟨hq0,hc,Ov hP hVe hDe hlv0 hld1 y0 v2 z6 (.inr rfl) hq0,by omega,?_⟩
     rw [Int.add_mul] at hq2
     omega
    ·rw [if_pos (by omega)]
     refine ⟨by decide,by decide,Ov hP hVe hDe hlv0 hld1 y0 v2 z6 (.inl ⟨rfl,hDlt⟩) (by decide),?_,by omega⟩
     have:999999999*B.getD (n+1) 0<=tp / B.getD (n+1) 0*B.getD (n+1) 0:=Int.mul_le_mul_of_nonneg_right (by omega) v1
     omega
   obtain ⟨g0,hg0',hgm⟩:=hgi
   refine B3 (ι := Int) (ok:=fun g=>0<=g/\g<=999999999/\Aj (A.drop j)<(g+1)*Aj B/\0<=tp-g*B.getD (n+1) 0/\tp-g*B.getD (n+1) 0<=2000000000) (L:=fun g=>[(8,.d (.v (.int .u32 (Ff o)))),(9,.bsl 1 0 0 (m.length+1) (m.length+1)),(10,B1 B),(11,Ah ((n+2:Nat))),(12,.bsl 1 1 0 (m.length-(n+1)) (m.length-(n+1))),(13,Ah (((j+1:Nat):Int)-1)),(14,.d (.v (.int .u64 tp))),(15,.d (.v (.int .u64 g)))]) (Sx:=fun _=>dvS A Q) (μ := fun g=>g.toNat) g0 hg0' ?_ rfl ?_
   ·refine Aa rfl (Aa rfl (Aa rfl (Aa rfl (Aa rfl (Aa rfl (Aa rfl (Aa ?_ Ag)))))))
    show PV.d (.v (.int .u64 (if 999999999<tp / B.getD (n+1) 0 then 999999999 else tp / B.getD (n+1) 0)))=_
    rw [hgm]
   rintro g ⟨k1,k2,k3,k4,k5⟩
   have hm1:=Int.mul_nonneg k1 v1
   have hm2:=Int.mul_nonneg k1 v2
   have hm3:g*B.getD n 0<=1000000000*1000000000:=Int.mul_le_mul (by omega) (by omega) v2 (by omega)
   repeat' (first|refine rl2 ?_|refine rs2 ?_ ?_<;>intro h|fail)
   refine Et chN [] [] rfl (by kernel_rfl) ?_
   repeat' (first|refine rl2 ?_|refine rs2 ?_ ?_<;>intro h|fail)
   refine T1 (B4 (B.getD n 0)) rfl rfl rfl rfl rfl (by rw [show (((n+2:Nat):Int)-2)=((n:Nat):Int) by omega];exact E8 (by omega)) (by omega) ?_
   repeat' (first|refine rl2 ?_|refine rs2 ?_ ?_<;>intro h|fail)
   refine wan (r := .d (.v (.int .u64 (B.getD n 0)))) rfl rfl ⟨by show (0:Int)<=_;omega,by show _<=(18446744073709551615:Int);omega⟩ ?_
   repeat' (first|refine rl2 ?_|refine rs2 ?_ ?_<;>intro h|fail)
   refine T1 (B4 (B.getD (n+1) 0)) rfl rfl rfl rfl rfl (by rw [show (((n+2:Nat):Int)-1)=((n+1:Nat):Int) by omega];exact E8 (by omega)) (by omega) ?_
   repeat' (first|refine rl2 ?_|refine rs2 ?_ ?_<;>intro h|fail)
   refine wan (r := .d (.v (.int .u64 (B.getD (n+1) 0)))) rfl rfl ⟨by show (0:Int)<=_;omega,by show _<=(18446744073709551615:Int);omega⟩ ?_
   repeat' (first|refine rl2 ?_|refine rs2 ?_ ?_<;>intro h|fail)
   refine wsldn (id:=0) (j+n) rfl rfl rfl (by show PV.ptr 0 (0+(((j+1:Nat):Int)-1+((n+2:Nat):Int)-2).toNat*1)=_;rw [show 0+(((j+1:Nat):Int)-1+((n+2:Nat):Int)-2).toNat*1=j+n by omega]) rfl hg0 ?_
   repeat' (first|refine rl2 ?_|refine rs2 ?_ ?_<;>intro h|fail)
   refine wan (r := .d (.v (.int .u64 u0))) rfl rfl ⟨by show (0:Int)<=_;omega,by show _<=(18446744073709551615:Int);omega⟩ ?_
   repeat' (first|refine rl2 ?_|refine rs2 ?_ ?_<;>intro h|fail)
   ·have h':=of_decide_eq_true h
    refine T1 (B4 (B.getD (n+1) 0)) rfl rfl rfl rfl rfl (by rw [show (((n+2:Nat):Int)-1)=((n+1:Nat):Int) by omega];exact E8 (by omega)) (by omega) ?_
    repeat' (first|refine rl2 ?_|refine rs2 ?_ ?_<;>intro h|fail)
    refine wan (r := .d (.v (.int .u64 (B.getD (n+1) 0)))) rfl rfl ⟨by show (0:Int)<=_;omega,by show _<=(18446744073709551615:Int);omega⟩ ?_
    repeat' (first|refine rl2 ?_|refine rs2 ?_ ?_<;>intro h|fail)
    ·have h2:=of_decide_eq_true ‹decide (tp-g*B.getD (n+1) 0<1000000000)=true›
     have hg1:1<=g:=by
      refine Int.not_lt.1 fun hlt=>?_
      obtain rfl:g=0:=by omega
      rw [Int.zero_mul,Int.zero_mul] at h'
      omega
     repeat' (first|refine rl2 ?_|refine rs2 ?_ ?_<;>intro h|fail)
     refine ⟨g-1,⟨by omega,by omega,?_,?_,?_⟩,by omega,(by repeat (first|exact Ag|refine Aa rfl ?_)),rfl⟩
     ·rw [Int.sub_add_cancel];exact Acm hP hVe hDe hlv0 hld1 k1 h'
     ·rw [Int.sub_mul];omega
     ·rw [Int.sub_mul];omega
    ·have h2:=of_decide_eq_false ‹decide (tp-g*B.getD (n+1) 0<1000000000)=false›
     have hor:g*B.getD n 0<=(tp-g*B.getD (n+1) 0)*1000000000+u0\/1000000000<=tp-g*B.getD (n+1) 0 := .inr (by omega)
     have hlast:=Qs hP hVe hDe hlv0 hlv1 hld0 x0 v2 w2 z6 k1 k2 hor
     obtain ⟨r,hr⟩:∃ r,(if Lc (A.drop j) B g=true then (g-1,In (Dm (A.drop j) B g) B) else (g,Dm (A.drop j) B g))=r:=⟨_,rfl⟩
     obtain ⟨s1,s2,s3⟩:=hd.step z3 z4 ⟨k1,by omega⟩ k3 hlast hr
     have hls2:=Agj (A.take j) (A.drop j) B g (m.length+1-j) hU z3 ⟨k1,by omega⟩ (by rw [List.length_drop];omega) (by rw [List.length_take,List.length_drop];omega)
     rw [List.take_append_drop] at hls2
     have hgn:=Af2 (A.take j) (Dm (A.drop j) B g) B (m.length+1-j) (Jh hU z3 ⟨k1,by omega⟩ (B.length+1)).1 z3 (by rw [show (Dm (A.drop j) B g).length=(A.drop j).length from Ce _ _ _ _,List.length_drop];omega) (by rw [show (Dm (A.drop j) B g).length=(A.drop j).length from Ce _ _ _ _,List.length_take,List.length_drop];omega)
     rw [show (Dm (A.drop j) B g).length=(A.drop j).length from Ce _ _ _ _] at hgn
     refine wslBe (id:=0) (off':=(A.take j).length) (n':=(A.drop j).length) (cap':=m.length+1-j) (j:=((j+1:Nat):Int)-1) (h:=((m.length+1:Nat):Int)) rfl rfl rfl rfl rfl rfl (by omega) (by omega) (by omega) (Nat.le_refl _) (by omega) (by rw [List.length_take];omega) (by rw [List.length_drop];omega) (by omega) ?_
     repeat' (first|refine rl2 ?_|refine rs2 ?_ ?_<;>intro h|fail)
     refine wb1 0 hls2 (hl0:=Ef _) (hl1:=Ef _) ?_
     repeat' (first|refine rl2 ?_|refine rs2 ?_ ?_<;>intro h|fail)
     ·have hb:Lc (A.drop j) B g=true:=h
      have hg1:=s3 hb
      rw [if_pos hb] at hr
      subst hr
      repeat' (first|refine rl2 ?_|refine rs2 ?_ ?_<;>intro h|fail)
      refine wslBe (id:=0) (off':=(A.take j).length) (n':=(A.drop j).length) (cap':=m.length+1-j) (j:=((j+1:Nat):Int)-1) (h:=((m.length+1:Nat):Int)) rfl rfl rfl rfl rfl rfl (by omega) (by omega) (by omega) (Nat.le_refl _) (by omega) (by rw [List.length_take];omega) (by rw [List.length_drop];omega) (by omega) ?_
      repeat' (first|refine rl2 ?_|refine rs2 ?_ ?_<;>intro h|fail)
      refine wb1 0 hgn (hl0:=Ef _) (hl1:=Ef _) ?_
      repeat' (first|refine rl2 ?_|refine rs2 ?_ ?_<;>intro h|fail)
      try (refine Jz (.d (.v (.int .u32 (g-1)))) rfl rfl rfl ⟨by show (0:Int)<=_;omega,by show _<=(4294967295:Int);omega⟩ ?_)
      repeat' (first|refine rl2 ?_|refine rs2 ?_ ?_<;>intro h|fail)
      refine Ad8 (id:=1) (dv := .v (.int .u32 (g-1))) (S':=dvS (A.take j++In (Dm (A.drop j) B g) B) (Q.set j (g-1))) j rfl rfl rfl (by show PV.ptr 1 (0+(((j+1:Nat):Int)-1).toNat*1)=_;rw [show 0+(((j+1:Nat):Int)-1).toNat*1=j by omega]) rfl rfl (by rw [E1];omega) (by show (⟨[_,(Dt Q).set j (.d (.v (.int .u32 (g-1))))],[]⟩:PS)=_;rw [Je]) ?_
      repeat' (first|refine rl2 ?_|refine rs2 ?_ ?_<;>intro h|fail)
      refine ⟨((A.take j++In (Dm (A.drop j) B g) B),Q.set j (g-1),j),s1,Nat.lt_succ_self _,?_,rfl⟩
      refine Aa rfl (Aa rfl (Aa rfl (Aa rfl (Aa rfl (Aa ?_ Ag)))))
      show PV.d (.v (.int .i64 (((j+1:Nat):Int)-1-1)))=PV.d (.v (.int .i64 ((j:Int)-1)))
      rw [show ((j+1:Nat):Int)-1=(j:Int) by omega]
     ·have hb:¬ Lc (A.drop j) B g=true:=by rw [h];simp
      rw [if_neg hb] at hr
      subst hr
      repeat' (first|refine rl2 ?_|refine rs2 ?_ ?_<;>intro h|fail)
      try (refine Jz (.d (.v (.int .u32 g))) rfl rfl rfl ⟨by show (0:Int)<=_;omega,by show _<=(4294967295:Int);omega⟩ ?_)
      repeat' (first|refine rl2 ?_|refine rs2 ?_ ?_<;>intro h|fail)
      refine Ad8 (id:=1) (dv := .v (.int .u32 (g))) (S':=dvS (A.take j++Dm (A.drop j) B g) (Q.set j (g))) j rfl rfl rfl (by show PV.ptr 1 (0+(((j+1:Nat):Int)-1).toNat*1)=_;rw [show 0+(((j+1:Nat):Int)-1).toNat*1=j by omega]) rfl rfl (by rw [E1];omega) (by show (⟨[_,(Dt Q).set j (.d (.v (.int .u32 (g))))],[]⟩:PS)=_;rw [Je]) ?_
      repeat' (first|refine rl2 ?_|refine rs2 ?_ ?_<;>intro h|fail)
      refine ⟨((A.take j++Dm (A.drop j) B g),Q.set j (g),j),s1,Nat.lt_succ_self _,?_,rfl⟩
      refine Aa rfl (Aa rfl (Aa rfl (Aa rfl (Aa rfl (Aa ?_ Ag)))))
      show PV.d (.v (.int .i64 (((j+1:Nat):Int)-1-1)))=PV.d (.v (.int .i64 ((j:Int)-1)))
      rw [show ((j+1:Nat):Int)-1=(j:Int) by omega]
   ·have h':=of_decide_eq_false h
    have hor:g*B.getD n 0<=(tp-g*B.getD (n+1) 0)*1000000000+u0\/1000000000<=tp-g*B.getD (n+1) 0 := .inl (by omega)
    have hlast:=Qs hP hVe hDe hlv0 hlv1 hld0 x0 v2 w2 z6 k1 k2 hor
    obtain ⟨r,hr⟩:∃ r,(if Lc (A.drop j) B g=true then (g-1,In (Dm (A.drop j) B g) B) else (g,Dm (A.drop j) B g))=r:=⟨_,rfl⟩
    obtain ⟨s1,s2,s3⟩:=hd.step z3 z4 ⟨k1,by omega⟩ k3 hlast hr
    have hls2:=Agj (A.take j) (A.drop j) B g (m.length+1-j) hU z3 ⟨k1,by omega⟩ (by rw [List.length_drop];omega) (by rw [List.length_take,List.length_drop];omega)
    rw [List.take_append_drop] at hls2
    have hgn:=Af2 (A.take j) (Dm (A.drop j) B g) B (m.length+1-j) (Jh hU z3 ⟨k1,by omega⟩ (B.length+1)).1 z3 (by rw [show (Dm (A.drop j) B g).length=(A.drop j).length from Ce _ _ _ _,List.length_drop];omega) (by rw [show (Dm (A.drop j) B g).length=(A.drop j).length from Ce _ _ _ _,List.length_take,List.length_drop];omega)
    rw [show (Dm (A.drop j) B g).length=(A.drop j).length from Ce _ _ _ _] at hgn
    refine wslBe (id:=0) (off':=(A.take j).length) (n':=(A.drop j).length) (cap':=m.length+1-j) (j:=((j+1:Nat):Int)-1) (h:=((m.length+1:Nat):Int)) rfl rfl rfl rfl rfl rfl (by omega) (by omega) (by omega) (Nat.le_refl _) (by omega) (by rw [List.length_take];omega) (by rw [List.length_drop];omega) (by omega) ?_
    repeat' (first|refine rl2 ?_|refine rs2 ?_ ?_<;>intro h|fail)
    refine wb1 0 hls2 (hl0:=Ef _) (hl1:=Ef _) ?_
    repeat' (first|refine rl2 ?_|refine rs2 ?_ ?_<;>intro h|fail)
    ·have hb:Lc (A.drop j) B g=true:=h
     have hg1:=s3 hb
     rw [if_pos hb] at hr
     subst hr
     repeat' (first|refine rl2 ?_|refine rs2 ?_ ?_<;>intro h|fail)
     refine wslBe (id:=0) (off':=(A.take j).length) (n':=(A.drop j).length) (cap':=m.length+1-j) (j:=((j+1:Nat):Int)-1) (h:=((m.length+1:Nat):Int)) rfl rfl rfl rfl rfl rfl (by omega) (by omega) (by omega) (Nat.le_refl _) (by omega) (by rw [List.length_take];omega) (by rw [List.length_drop];omega) (by omega) ?_
     repeat' (first|refine rl2 ?_|refine rs2 ?_ ?_<;>intro h|fail)
     refine wb1 0 hgn (hl0:=Ef _) (hl1:=Ef _) ?_
     repeat' (first|refine rl2 ?_|refine rs2 ?_ ?_<;>intro h|fail)
     try (refine Jz (.d (.v (.int .u32 (g-1)))) rfl rfl rfl ⟨by show (0:Int)<=_;omega,by show _<=(4294967295:Int);omega⟩ ?_)
     repeat' (first|refine rl2 ?_|refine rs2 ?_ ?_<;>intro h|fail)
     refine Ad8 (id:=1) (dv := .v (.int .u32 (g-1))) (S':=dvS (A.take j++In (Dm (A.drop j) B g) B) (Q.set j (g-1))) j rfl rfl rfl (by show PV.ptr 1 (0+(((j+1:Nat):Int)-1).toNat*1)=_;rw [show 0+(((j+1:Nat):Int)-1).toNat*1=j by omega]) rfl rfl (by rw [E1];omega) (by show (⟨[_,(Dt Q).set j (.d (.v (.int .u32 (g-1))))],[]⟩:PS)=_;rw [Je]) ?_
     repeat' (first|refine rl2 ?_|refine rs2 ?_ ?_<;>intro h|fail)
     refine ⟨((A.take j++In (Dm (A.drop j) B g) B),Q.set j (g-1),j),s1,Nat.lt_succ_self _,?_,rfl⟩
     refine Aa rfl (Aa rfl (Aa rfl (Aa rfl (Aa rfl (Aa ?_ Ag)))))
     show PV.d (.v (.int .i64 (((j+1:Nat):Int)-1-1)))=PV.d (.v (.int .i64 ((j:Int)-1)))
     rw [show ((j+1:Nat):Int)-1=(j:Int) by omega]
    ·have hb:¬ Lc (A.drop j) B g=true:=by rw [h];simp
     rw [if_neg hb] at hr
     subst hr
     repeat' (first|refine rl2 ?_|refine rs2 ?_ ?_<;>intro h|fail)
     try (refine Jz (.d (.v (.int .u32 g))) rfl rfl rfl ⟨by show (0:Int)<=_;omega,by show _<=(4294967295:Int);omega⟩ ?_)
     repeat' (first|refine rl2 ?_|refine rs2 ?_ ?_<;>intro h|fail)
     refine Ad8 (id:=1) (dv := .v (.int .u32 (g))) (S':=dvS (A.take j++Dm (A.drop j) B g) (Q.set j (g))) j rfl rfl rfl (by show PV.ptr 1 (0+(((j+1:Nat):Int)-1).toNat*1)=_;rw [show 0+(((j+1:Nat):Int)-1).toNat*1=j by omega]) rfl rfl (by rw [E1];omega) (by show (⟨[_,(Dt Q).set j (.d (.v (.int .u32 (g))))],[]⟩:PS)=_;rw [Je]) ?_
     repeat' (first|refine rl2 ?_|refine rs2 ?_ ?_<;>intro h|fail)
     refine ⟨((A.take j++Dm (A.drop j) B g),Q.set j (g),j),s1,Nat.lt_succ_self _,?_,rfl⟩
     refine Aa rfl (Aa rfl (Aa rfl (Aa rfl (Aa rfl (Aa ?_ Ag)))))
     show PV.d (.v (.int .i64 (((j+1:Nat):Int)-1-1)))=PV.d (.v (.int .i64 ((j:Int)-1)))
     rw [show ((j+1:Nat):Int)-1=(j:Int) by omega]
  ·exfalso;simp at h
 ·rintro ⟨A,Q⟩ hd
  dsimp only at hd |-
  have la:=hd.la
  have lq:=hd.lq
  have hoka:=hd.oka
  obtain ⟨rfl,rfl⟩:=hends A Q hd
  refine O5 0 0 [(8,.d (.v (.int .u32 (Ff o)))),(9,B1 (divA m o)),(11,Ah ((n+2:Nat))),(12,B1 (divQ m o))] (Nat.le_refl _) (Nat.le_refl _) (by simp) (Eh Lm (Eh ?_ (Eh Lm (Eh ?_ S8)))) ?_
  ·have h:=Pc (S:=dvS (divA m o) (divQ m o)) (n:=0) (m:=0) (k:=1) (id:=0) (cap:=m.length+1) (ds:=(divA m o).map fun x => .v (.int .u32 x)) (by simp [Dt]) (Nat.zero_le _) (by simp;omega) (by omega)
   rw [List.length_map,la,List.map_map] at h
   exact h
  ·have h:=Pc (S:=dvS (divA m o) (divQ m o)) (n:=0) (m:=0) (k:=1) (id:=1) (cap:=m.length-(n+1)) (ds:=(divQ m o).map fun x => .v (.int .u32 x)) (by simp [Dt]) (Nat.zero_le _) (by simp;omega) (by omega)
   rw [List.length_map,lq,List.map_map] at h
   exact h
  rw [cut00]
  generalize divA m o=A at *
  have hlA:((A.map B4).length:Int)=m.length+1:=by rw [List.length_map];omega
  have hsh:=Tg (Bs (A.take (n+2))) (Ff o) (Nat.le_trans (Lx _) (by rw [List.length_take];omega)) (Ly fun z hz=>hoka z (List.mem_of_mem_take hz)) z1 (by omega)
  have hwh:Am 112 [An false,B1 (A.take (n+2))] ⟨[],[]⟩ (.ret (.agg [An false,B1 (Bs (A.take (n+2)))])) ⟨[],[]⟩:=T0 false (A.take (n+2))
  refine P8 ?_
  repeat' (first|refine rl1 ?_|refine rs1 ?_ ?_<;>intro h|fail)
  refine wp1 hwh ?_ (ha:=Ab (Ac _) (Ab (coe_dL ?_) Ae))
  ·refine wfld rfl rfl rfl Tryz.underlying75 rfl rfl rfl ?_
   repeat' (first|refine rl0 ?_|refine rs0 ?_ ?_<;>intro h|fail)
   refine wp1 hsh ?_
   repeat' (first|refine rl0 ?_|refine rs0 ?_ ?_<;>intro h|fail)
   exact Xs (.inr rfl) rfl rfl (Ah6 (B7 Lm (B7 Lm Gm)))
  ·rw [Int.toNat_natCast,List.map_take];rfl
def dvP (a b:Nat):List Int×List Int :=
 if a<b then ([],Al a)
 else if (Al b).length=1 then ((qL b (Al a)).1,[(qL b (Al a)).2])
 else (divQ (Al a) (Al b),(qL (Ff (Al b)) (Bs ((divA (Al a) (Al b)).take (Al b).length))).1)
theorem Jg {b:Nat} (h:(Al b).length=1):Al b=[(b:Int)]/\b<1000000000:=by
 have h1:=Lb (Nat.le_of_eq h)
 rw [Nat.pow_one] at h1
 refine ⟨?_,h1⟩
 have h0:b≠0:=by rintro rfl;rw [At] at h;simp at h
 rw [Ca h0,Nat.mod_eq_of_lt h1,Nat.div_eq_of_lt h1,At]
theorem Aap {b:Nat} (hb:0<b) (h:(Al b).length≠1):∃ n,(Al b).length=n+2/\0<(Al b).getD (n+1) 0:=by
 have h0:(Al b).length≠0:=fun e=>by
  have:=C7.1 (List.length_eq_zero_iff.1 e)
  omega
 obtain ⟨n,hn⟩:∃ n,(Al b).length=n+2:=⟨(Al b).length-2,by omega⟩
 refine ⟨n,hn,Int.not_le.1 fun hle=>?_⟩
 have hz:(Al b).getD (n+1) 0=0:=by have:=(Ay (Bq b) (n+1)).1;omega
 have hlt:=Ob (Bq b) (n:=n+1) fun j hj=>by
  rcases Nat.lt_or_ge j (n+2) with h|h
  ·rw [show j=n+1 by omega];exact hz
  ·exact Ht (by omega)
 have hlow:=Hy (n:=b) (by omega)
 rw [hn,show n+2-1=n+1 by omega] at hlow
 rw [Bi] at hlt
 have:((1000000000 ^ (n+1):Nat):Int)<=b:=Int.ofNat_le.2 hlow
 rw [Int.natCast_pow] at this
 have e:((1000000000:Nat):Int)=1000000000:=rfl
 rw [e] at this
 omega
theorem Md (a b:Nat) (hb:0<b) (hal:(Al a).length<=1000000) (hbl:(Al b).length<=1000000):Am 145 [B1 (Al a),B1 (Al b)] ⟨[],[]⟩ (.ret (.tup [B1 (dvP a b).1,B1 (dvP a b).2])) ⟨[],[]⟩:=by
 have hcm:=G3 (Al a) (Al b) hal hbl
 rw [Kv] at hcm
 unfold dvP
 by_cases hlt:a<b
 ·rw [if_pos hlt]
  have hc:Cp a b<0:=by unfold Cp;split<;>omega
  refine Ed (r' := .tup [.d (.v (.slice none 0 0)),B1 (Al a)]) ?_ (I6 (Ab Fg (Ab (Ac _) Ae)))
  refine Ad Tryz.func145 rfl rfl (Nat.le_of_ble_eq_true rfl) rfl (Nat.le_refl _) ?_
  repeat' (first|refine rl0 ?_|refine rs0 ?_ ?_<;>intro h|fail)
  refine wp1 hcm ?_
  repeat' (first|refine rl0 ?_|refine rs0 ?_ ?_<;>intro h|fail)
  ·rfl
  all_goals (exfalso;simp at *;omega)
 ·rw [if_neg hlt]
  have hc:¬ Cp a b<0:=by unfold Cp;split<;>omega
  by_cases h1:(Al b).length=1
  ·rw [if_pos h1]
   obtain ⟨e,hb9⟩:=Jg h1
   have hsh:=Tg (Al a) b hal (Bq a) ⟨by omega,by omega⟩ (by omega)
   rw [e] at hcm |-
   refine Ad Tryz.func145 rfl rfl (Nat.le_of_ble_eq_true rfl) rfl (Nat.le_refl _) ?_
   repeat' (first|refine rl0 ?_|refine rs0 ?_ ?_<;>intro h|fail)
   refine wp1 hcm ?_
   repeat' (first|refine rl0 ?_|refine rs0 ?_ ?_<;>intro h|fail)
   ·exfalso;simp at *;omega
   refine wix (B4 (b:Int)) rfl rfl rfl rfl rfl rfl (by omega) ?_
   repeat' (first|refine rl0 ?_|refine rs0 ?_ ?_<;>intro h|fail)
   refine wp1 hsh ?_
   repeat' (first|refine rl0 ?_|refine rs0 ?_ ?_<;>intro h|fail)
   rfl
  ·rw [if_neg h1]
   obtain ⟨n,hn,h0⟩:=Aap hb h1
   rw [hn]
   exact U0 (Al a) (Al b) n (Bq a) (Bq b) hn h0 (by rw [<- hn];exact Hw (by omega)) hal (by rw [Kv];exact hc)
theorem Oj:∀ {k:Nat} {v:Int},0<=v->v<1000000000 ^ k->Aj (Ya k v)=v/\∀ z∈Ya k v,Af z
 |0,v,h0,h1=>by
  simp at h1
  exact ⟨by simp [Ya,Aj];omega,by simp [Ya]⟩
 |k+1,v,h0,h1=>by
  rw [Int.pow_succ] at h1
  obtain ⟨h2,h3⟩:=Oj (k:=k) (v:=v / 1000000000) (by omega) (Int.ediv_lt_of_lt_mul (by decide) h1)
  refine ⟨by rw [Ya,Aj,h2];omega,fun z hz=>?_⟩
  rcases List.mem_cons.1 hz with rfl|hz
  ·exact ⟨by omega,by omega⟩
  ·exact h3 z hz
theorem limN_lt (n:Nat):(n:Int)<1000000000 ^ (Al n).length:=by have:=Ck (Bq n);rwa [Bi] at this
theorem limN_ge {n:Nat} (h:n≠0):(1000000000:Int) ^ ((Al n).length-1)<=n:=by
 have:=Int.ofNat_le.2 (Hy h)
 rw [Int.natCast_pow] at this
 exact this
theorem Yc (a b:Nat) (hb:0<b):(∀ z∈(dvP a b).1,Af z)/\(∀ z∈(dvP a b).2,Af z)/\Aj (dvP a b).1=((a / b:Nat):Int)/\Aj (dvP a b).2=((a % b:Nat):Int):=by
 unfold dvP
 by_cases hlt:a<b
 ·rw [if_pos hlt,Nat.div_eq_of_lt hlt,Nat.mod_eq_of_lt hlt]
  exact ⟨by simp,Bq a,rfl,Bi a⟩
 ·rw [if_neg hlt]
  have ha0:a≠0:=by omega
  by_cases h1:(Al b).length=1
  ·rw [if_pos h1]
   obtain ⟨e,hb9⟩:=Jg h1
   obtain ⟨s1,s2,s3,s4⟩:=Mk (b:=(b:Int)) (by omega) (Bq a)
   rw [Bi] at s1
   have hq:(a:Int) / b=Aj (qL b (Al a)).1:=by rw [s1,Int.add_comm,Int.add_mul_ediv_left _ _ (by omega),Int.ediv_eq_zero_of_lt s2 s3];omega
   have hr:(a:Int) % b=(qL b (Al a)).2:=by rw [s1,Int.add_comm,Int.add_mul_emod_self_left,Int.emod_eq_of_lt s2 s3]
   refine ⟨s4,fun z hz=>?_,by rw [<- hq];rfl,?_⟩
   ·obtain rfl:z=_:=by simpa using hz
    exact ⟨s2,by omega⟩
   ·show (qL b (Al a)).2+1000000000*0=_
    rw [<- hr];simp
  ·rw [if_neg h1]
   obtain ⟨n,hn,h0⟩:=Aap hb h1
   obtain ⟨u1,u2,u3⟩:=Xg (Bq b) (n:=n+1) hn h0
   have hT:Ff (Al b)=1000000000 / ((Al b).getD (n+1) 0+1):=by unfold Ff;rw [hn];rfl
   rw [<- hT,Bi] at u3
   rw [<- hT] at u1 u2
   have hlen:(Al b).length<=(Al a).length:=Hw (by omega)
   have hA:=limN_lt a
   have hB:=limN_ge (n:=b) (by omega)
   have hR0:(0:Int)<=(a:Int) % b:=Int.emod_nonneg _ (by omega)
   have hR1:(a:Int) % b<b:=Int.emod_lt_of_pos _ (by omega)
   have hQ0:(0:Int)<=(a:Int) / b:=Int.ediv_nonneg (by omega) (by omega)
   have hQ1:(a:Int) / b<1000000000 ^ ((Al a).length-((Al b).length-1)):=by
    refine Int.ediv_lt_of_lt_mul (by omega) (Int.lt_of_lt_of_le hA ?_)
    have e:(1000000000:Int) ^ (Al a).length=1000000000 ^ ((Al a).length-((Al b).length-1))*1000000000 ^ ((Al b).length-1):=by
     rw [<- Int.pow_add];congr 1;omega
    rw [e]
    exact Int.mul_le_mul_of_nonneg_left hB (Int.le_of_lt (Lj _))
   obtain ⟨q1,q2⟩:=Oj hQ0 hQ1
   have hm1:0<=Ff (Al b)*((a:Int) % b):=Int.mul_nonneg (by omega) hR0
   have hm2:Ff (Al b)*((a:Int) % b)<Ff (Al b)*b:=Int.mul_lt_mul_of_pos_left hR1 (by omega)
   have hm3:Ff (Al b)*((a:Int) % b)<1000000000 ^ (Al b).length:=by omega
   have hm4:(1000000000:Int) ^ (Al b).length<=1000000000 ^ ((Al a).length+1):=by
    have e:(1000000000:Int) ^ ((Al a).length+1)=1000000000 ^ (Al b).length*1000000000 ^ ((Al a).length+1-(Al b).length):=by
     rw [<- Int.pow_add];congr 1;omega
    have h2:(1000000000:Int) ^ (Al b).length*1<=1000000000 ^ (Al b).length*1000000000 ^ ((Al a).length+1-(Al b).length):=Int.mul_le_mul_of_nonneg_left (Lj _) (Int.le_of_lt (Lj _))
    omega
   obtain ⟨r1,r2⟩:=Oj (k:=(Al a).length+1) hm1 (by omega)
   have hd:divA (Al a) (Al b)=Ya ((Al a).length+1) (Ff (Al b)*((a:Int) % b)):=by unfold divA;rw [Bi,Bi]
   have hdq:divQ (Al a) (Al b)=Ya ((Al a).length-((Al b).length-1)) ((a:Int) / b):=by unfold divQ;rw [Bi,Bi]
   rw [hd,hdq]
   have hlow:=Oa (Ip r2 (by rw [r1];exact hm3))
   rw [r1] at hlow
   have hL:∀ z∈(Ya ((Al a).length+1) (Ff (Al b)*((a:Int) % b))).take (Al b).length,Af z:=fun z hz=>r2 z (List.mem_of_mem_take hz)
   generalize (Ya ((Al a).length+1) (Ff (Al b)*((a:Int) % b))).take (Al b).length=L at hlow hL
   obtain ⟨s1,s2,s3,s4⟩:=Mk (b:=Ff (Al b)) (by omega) (l:=Bs L) (Ly hL)
   rw [Lz,<- hlow] at s1
   have hq:(a:Int) % b=Aj (qL (Ff (Al b)) (Bs L)).1:=by
    have h3:(Ff (Al b)*((a:Int) % b)) / Ff (Al b)=(a:Int) % b:=Int.mul_ediv_cancel_left _ (by omega)
    rw [s1,Int.add_comm,Int.add_mul_ediv_left _ _ (by omega),Int.ediv_eq_zero_of_lt s2 s3] at h3
    omega
   exact ⟨q2,s4,by rw [q1];rfl,by rw [<- hq];rfl⟩
theorem OpS.mint {P:Program} {o:Oper} {F:Nat->PV} {S S':PS} {r:PV} (a k:Nat) (e:TypeId) (hF:F a = .d (.v (.slice none 0 0))) (h:OpS P o (Qa a (.hd S.toks.length 0) F) (S.addTok ⟨0,k,[],e⟩) r S'):OpS P o F S r S':=by
 intro ro mm K w act next Q hI hx hn
 obtain ⟨K',h1,h2,h3⟩:=hI.mint k e
 refine h ro mm K' w act next Q h1 (fun y hy=>?_) (fun v w' K'' hs hI' hr=>hn v w' K'' (h2.trans hI hs) hI' hr)
 have h4:=hx y hy
 cases y with
 |tmp t =>
  show Rep K' w (Qa a _ F t) _
  unfold Qa
  cases hb:Nat.beq t a with
  |true =>
   obtain rfl:=Nat.eq_of_beq_eq_true hb
   have h5:Rep K w (F t) _:=h4
   rw [hF] at h5
   rw [Br h5]
   exact h3
  |false=>exact Rep.step h2 _ _ h4
 |_=>exact Rep.step h2 _ _ h4
section
variable {N:Nat} {ops:Array Oper} {rest:List Oper} {o:Oper} {F:Nat->PV} {S S':PS} {q:WRes->Prop}
theorem wapp0 (a:Nat) {t:TypeId} {x y:Operand} (news:List (List DV)) (hg:Ak ops F o=some true) (ho:o.op = .call { callee := .builtin .append,args := #[x,y],argTypes := #[t,t] }) (hk:(A4 t&&Nat.beq (tyi t).kind 2)=true) (hF:F a = .d (.v (.slice none 0 0))) (hx:evP (Qa a (.hd S.toks.length 0) F) x = .hd S.toks.length 0)
  (hT:(S.addTok ⟨0,(tyi t).ek,[],(tyi t).elem⟩).toks[S.toks.length]? = some ⟨0,(tyi t).ek,[],(tyi t).elem⟩) (hy:(S.addTok ⟨0,(tyi t).ek,[],(tyi t).elem⟩).toS (tyi t).ek (evP (Qa a (.hd S.toks.length 0) F) y)=some news) (h1:(0+news.length)*(tyi t).eb<=140737488355328) (h2:0+news.length<=9223372036854775807)
  (hS:(S.addTok ⟨0,(tyi t).ek,[],(tyi t).elem⟩).setTok S.toks.length ⟨1,(tyi t).ek,news,(tyi t).elem⟩=S') (kk:WK Tryz.prog N ops rest (B8 N o.dst (.hd S.toks.length 1) F) S' q):WK Tryz.prog N ops (o::rest) F S q:=by
 subst hS
 simp only [Bool.and_eq_true] at hk
 exact D8 hg (OpS.mint a (tyi t).ek (tyi t).elem hF (Kj (T:=⟨0,(tyi t).ek,[],(tyi t).elem⟩) ho (Fc t hk.1) (Nat.eq_of_beq_eq_true hk.2) hx hT rfl rfl hy h1 h2)) kk
theorem wcvW {src dst:TypeId} {x:Operand} {k:IntKind} {a:Int} (kd:IntKind) (b:Int) (hb:kd.wrap a=b) (kk:WK Tryz.prog N ops rest (B8 N o.dst (.d (.v (.int kd b))) F) S q) (hg:Ak ops F o=some true:=by exact rfl) (ho:o.op = .convert src dst x:=by exact rfl) (hk:(A4 src&&A4 dst&&Nat.beq (tyi dst).kind 5)=true:=by exact rfl) (hkd:(tyi dst).ik=kd:=by exact rfl) (hx:evP F x = .d (.v (.int k a)):=by exact rfl):WK Tryz.prog N ops (o::rest) F S q:=by
 subst hb;subst hkd
 simp only [Bool.and_eq_true] at hk
 exact D8 hg (Aa9 ho (Fc src hk.1.1) (Fc dst hk.1.2) (Nat.eq_of_beq_eq_true hk.2) hx) kk
theorem wnegW {ty:TypeId} {x:Operand} {k:IntKind} {a:Int} (b:Int) (hb:k.wrap (-a)=b) (kk:WK Tryz.prog N ops rest (B8 N o.dst (.d (.v (.int k b))) F) S q) (hg:Ak ops F o=some true:=by exact rfl) (ho:o.op = .unOp .neg ty x:=by exact rfl) (hx:evP F x = .d (.v (.int k a)):=by exact rfl):WK Tryz.prog N ops (o::rest) F S q:=by
 subst hb
 exact D8 hg (Abc ho hx) kk
end
@[reducible] def Ad5:PV := .d (.v (.slice none 0 0))
def smS (neg:Bool):List Int->PS
 |[]=>⟨[[An false,Ad5],[An neg,Ad5]],[]⟩
 |x::r=>⟨[[An false,Ad5],[An neg,.hd 0 (r.length+1)]],[⟨r.length+1,1,(x::r).map B4,148⟩]⟩
set_option maxHeartbeats 1000000 in
theorem Ls (n:Int) (h0 : -9223372036854775808<=n) (h1:n<=9223372036854775807):Am 88 [Ah n] ⟨[],[]⟩ (.ret (whI n)) ⟨[],[]⟩:=by
 refine C5 Tryz.func88 rfl rfl (Nat.le_of_ble_eq_true rfl) (fun _=>?_)
 have hu:n.natAbs<1000000000 ^ 3:=by omega
 have hul:=Jf hu
 refine Cl ?_
 repeat' (first|refine rl1 ?_|refine rs1 ?_ ?_<;>intro h|fail)
 refine Cl ?_
 repeat' (first|refine rl1 ?_|refine rs1 ?_ ?_<;>intro h|fail)
 refine Cl ?_
 repeat' (first|refine rl1 ?_|refine rs1 ?_ ?_<;>intro h|fail)
 refine wcvW .u64 (n % 18446744073709551616) (IntKind.wrap_u64 n) ?_
 repeat' (first|refine rl1 ?_|refine rs1 ?_ ?_<;>intro h|fail)
 refine Abe (ι := Unit) (ok:=fun _=>True) (L:=fun _=>[(2,.ptr 0 0),(3,.ptr 1 0),(4,.d (.v (.int .u64 n.natAbs)))]) (Sx:=fun _=>smS (decide (n<0)) []) ?_ ?_
 ·refine Cm ?_
  repeat' (first|refine rl1 ?_|refine rs1 ?_ ?_<;>intro h|fail)
  ·refine wnegW (k := .u64) (a:=n % 18446744073709551616) (n.natAbs:Int) (by rw [IntKind.wrap_u64];have:=of_decide_eq_true h;omega) ?_
   repeat' (first|refine rl1 ?_|refine rs1 ?_ ?_<;>intro h|fail)
   exact ⟨(),trivial,(by repeat (first|exact Ag|refine Aa rfl ?_)),rfl⟩
  ·have h2:=of_decide_eq_false h
   have e:n % 18446744073709551616=(n.natAbs:Int):=by omega
   exact ⟨(),trivial,Aa rfl (Aa rfl (Aa (congrArg (fun z=>PV.d (.v (.int .u64 z))) e) Ag)),rfl⟩
 intro _ _
 refine Cl ?_
 refine C8 ?_
 refine B3 (ι := List Int×Nat) (ok:=fun q=>Al n.natAbs=q.1++Al q.2/\q.2<=18446744073709551615) (L:=fun q=>[(2,.ptr 0 0),(3,.ptr 1 0),(4,.d (.v (.int .u64 q.2)))]) (Sx:=fun q=>smS (decide (n<0)) q.1) (μ := fun q=>q.2) ([],n.natAbs) ⟨rfl,by show n.natAbs<=_;omega⟩ (by exact (by repeat (first|exact Ag|refine Aa rfl ?_))) rfl ?_
 rintro ⟨l,r⟩ ⟨hl,hr⟩
 simp only at hl hr
 have hlen:l.length+(Al r).length<=3:=by have:=congrArg List.length hl;simp at this;omega
 repeat' (first|refine rl1 ?_|refine rs1 ?_ ?_<;>intro h|fail)
 ·have hr0:r≠0:=by have:=of_decide_eq_true h;intro e;subst e;simp at this
  have hne:=Ca hr0
  have hrm:(r:Int) % 1000000000=((r % 1000000000:Nat):Int):=by omega
  have hstep:Al n.natAbs=(l++[((r % 1000000000:Nat):Int)])++Al (r / 1000000000):=by rw [hl,hne];simp
  have hq:(r:Int) / 1000000000=((r / 1000000000:Nat):Int):=by omega
  have hrb:((r % 1000000000:Nat):Int)<=4294967295/\(0:Int)<=((r % 1000000000:Nat):Int):=by omega
  have hfr:PV.d (.v (.int .u64 ((r:Int) / 1000000000)))=PV.d (.v (.int .u64 ((r / 1000000000:Nat):Int))):=by rw [hq]
  generalize hv:((r % 1000000000:Nat):Int)=v at hrm hstep hrb
  cases l with
  |nil =>
   unfold smS
   repeat' (first|refine rl1 ?_|refine rs1 ?_ ?_<;>intro h|fail)
   refine Jz (.d (.v (.int .u32 v))) rfl rfl (by show PV.d (.v (.int .u32 ((r:Int) % 1000000000)))=_;rw [hrm]) ⟨by show (0:Int)<=(r:Int) % 1000000000;omega,by show (r:Int) % 1000000000<=(4294967295:Int);omega⟩ ?_
   repeat' (first|refine rl1 ?_|refine rs1 ?_ ?_<;>intro h|fail)
   refine wapp0 19 [B4 v] rfl rfl rfl rfl rfl rfl rfl (by show (0+1)*4<=_;omega) (by show 0+1<=_;omega) rfl ?_
   repeat' (first|refine rl1 ?_|refine rs1 ?_ ?_<;>intro h|fail)
   exact ⟨([v],r / 1000000000),⟨hstep,by show r / 1000000000<=_;omega⟩,by show r / 1000000000<r;omega,Aa rfl (Aa rfl (Aa hfr Ag)),rfl⟩
  |cons x l =>
   unfold smS
   repeat' (first|refine rl1 ?_|refine rs1 ?_ ?_<;>intro h|fail)
   refine Jz (.d (.v (.int .u32 v))) rfl rfl (by show PV.d (.v (.int .u32 ((r:Int) % 1000000000)))=_;rw [hrm]) ⟨by show (0:Int)<=(r:Int) % 1000000000;omega,by show (r:Int) % 1000000000<=(4294967295:Int);omega⟩ ?_
   repeat' (first|refine rl1 ?_|refine rs1 ?_ ?_<;>intro h|fail)
   simp only [List.length_cons] at hlen
   refine T9 (news:=[B4 v]) (S':=⟨[[An false,Ad5],[An (decide (n<0)),.hd 0 (l.length+1)]],[⟨l.length+2,1,(x::(l++[v])).map B4,148⟩]⟩) rfl rfl rfl rfl rfl rfl ?_ ?_ (by simp [PS.setTok]) ?_
   ·simp only [List.length_map,List.length_cons];show (_+1)*4<=_;omega
   ·simp only [List.length_map,List.length_cons];show _+1<=_;omega
   repeat' (first|refine rl1 ?_|refine rs1 ?_ ?_<;>intro h|fail)
   exact ⟨(x::(l++[v]),r / 1000000000),⟨hstep,by show r / 1000000000<=_;omega⟩,by show r / 1000000000<r;omega,Aa rfl (Aa rfl (Aa hfr Ag)),by simp [smS,PS.setBox]⟩
 ·have hr0:r=0:=by have:=of_decide_eq_false h;simp at this;omega
  subst hr0
  rw [At,List.append_nil] at hl
  refine P8 ?_
  unfold whI
  rw [hl]
  cases l with
  |nil =>
   unfold smS
   repeat' (first|refine rl1 ?_|refine rs1 ?_ ?_<;>intro h|fail)
   exact Xs (.inr rfl) rfl rfl (Mm (B7 Lm (B7 (J7 Fg) Gm)))
  |cons x l =>
   unfold smS
   repeat' (first|refine rl1 ?_|refine rs1 ?_ ?_<;>intro h|fail)
   exact Xs (.inr rfl) rfl rfl (Mm (B7 Lm (B7 (J7 (Kc (Ep rfl))) Gm)))
inductive Lin (ops:Array Oper):Nat->Array Bool->List Nat->Prop
 |zero {listed}:Lin ops 0 listed []
 |stop {n listed}:Region.ready .any ops listed=[]->Lin ops (n+1) listed []
 |cons {n listed i l}:i∈Region.ready .any ops listed->Lin ops n (listed.setIfInBounds i true) l->Lin ops (n+1) listed (i::l)
theorem lin_go (ops:Array Oper):∀ (fuel t:Nat) (listed:Array Bool),Lin ops fuel listed (Region.linearise.go .any ops fuel t listed []):=by
 intro fuel
 induction fuel with
 |zero=>intro t listed;simpa [Region.linearise.go] using Lin.zero
 |succ fuel ih =>
  intro t listed
  simp only [Region.linearise.go]
  change Lin ops (fuel+1) listed (match (Region.ready .any ops listed)[t % (Region.ready .any ops listed).length]? with
   |some i=>Region.linearise.go .any ops fuel (t / (Region.ready .any ops listed).length) (listed.setIfInBounds i true) [i]
   |none=>[].reverse)
  cases hi:(Region.ready .any ops listed)[t % (Region.ready .any ops listed).length]? with
  |none =>
   have hnil:Region.ready .any ops listed=[]:=by
    cases hr:Region.ready .any ops listed with
    |nil=>rfl
    |cons x xs =>
     rw [hr] at hi
     have hlt:t % (x::xs).length<(x::xs).length:=Nat.mod_lt _ (by simp)
     simp at hi
     simp at hlt
     omega
   exact .stop hnil
  |some i =>
   simp only []
   rw [linearise_go_acc,List.reverse_singleton,List.singleton_append]
   exact .cons (List.mem_of_getElem? hi) (ih _ _)
section
variable {F:Fence} {n:Nat} {P:Program} {Q:Exit->Act->World->Prop} {ops ops':Array Oper} {σ : Nat->Nat} {x y:Nat}
theorem Xo {fuel:Nat} {listed:Array Bool} {l:List Nat} (hl:Lin ops fuel listed l):∀ (a:Act) (w:World),wpAnyIn F n P .any ops Q fuel listed a w->wpOpsIn F n P ops Q l a w:=by
 induction hl with
 |zero=>intro a w h;exact h.2
 |stop hr=>intro a w h;exact h.1 hr
 |cons hi _ ih =>
  intro a w h
  rw [wpOpsIn_cons]
  exact wpOpIn_mono (fun a w=>ih a w) (h.2 _ hi)
structure Ren1 (σ : Nat->Nat) (x y i:Nat) (o o':Oper):Prop where
 dst:o'.dst=o.dst
 op:o'.op=o.op
 type:o'.type=o.type
 pos:o'.pos=o.pos
 guard:o'.guard=o.guard.map fun g=>(σ g.1,g.2)
 down:∀ e'∈o'.after,Region.binds .any e'=true->(∃ e∈o.after,Region.binds .any e=true/\e'.on = σ e.on)\/(i=x/\e'.on = σ y)
 up:∀ e∈o.after,Region.binds .any e=true->∃ e'∈o'.after,Region.binds .any e'=true/\e'.on = σ e.on
structure Ren (ops ops':Array Oper) (σ : Nat->Nat) (x y:Nat):Prop where
 size:ops'.size=ops.size
 bd:∀ i,i<ops.size -> σ i<ops.size
 inv:∀ i,σ (σ i)=i
 one:∀ i o,ops[i]? = some o->∃ o',ops'[σ i]? = some o'/\Ren1 σ x y i o o'
def bef (y x:Nat):List Nat->Prop
 |[]=>True
 |i::l=>i=y\/(i≠x/\bef y x l)
theorem Uf {a b:Nat} (h:a≠b):∀ l,bef a b l\/bef b a l
 |[] => .inl trivial
 |i::l=>by
  by_cases h1:i=a
  ·exact .inl (.inl h1)
  ·by_cases h2:i=b
   ·exact .inr (.inl h2)
   ·rcases Uf h l with h3|h3
    ·exact .inl (.inr ⟨h2,h3⟩)
    ·exact .inr (.inr ⟨h1,h3⟩)
theorem Ren.lt (r:Ren ops ops' σ x y) {i:Nat} (h : σ i<ops.size):i<ops.size:=by
 have:=r.bd _ h
 rwa [r.inv] at this
theorem K9 {l:Array Bool} {i:Nat} (h:i<l.size):l.getD i true=l.getD i false:=by simp [Array.getD_eq_getD_getElem?,h]
theorem Age (r:Ren ops ops' σ x y) (hxy:x≠y) {fuel:Nat} {listed:Array Bool} {l:List Nat} (hl:Lin ops fuel listed l) :
  ∀ listed':Array Bool,listed.size=ops.size->listed'.size=ops.size->(∀ i,listed'.getD (σ i) false=listed.getD i false)->(listed.getD y false=true\/bef y x l)->Lin ops' fuel listed' (l.map σ):=by
 induction hl with
 |zero=>intro _ _ _ _ _;exact .zero
 | @stop n listed hr =>
  intro listed' hs hs' hR _
  refine .stop ?_
  cases hr':Region.ready .any ops' listed' with
  |nil=>rfl
  |cons j rest =>
   exfalso
   have hj:j∈Region.ready .any ops' listed':=by rw [hr'];simp
   obtain ⟨h1,o',ho',hall⟩:=mem_ready.1 hj
   have hjs:j<ops.size:=by rw [<- r.size];exact (Array.getElem?_eq_some_iff.1 ho').1
   have hi : σ j<ops.size:=r.bd _ hjs
   obtain ⟨o2,ho2,q⟩:=r.one (σ j) _ (Array.getElem?_eq_getElem hi)
   rw [r.inv,ho'] at ho2
   cases ho2
   have : σ j∈Region.ready .any ops listed:=by
    refine mem_ready.2 ⟨?_,_,Array.getElem?_eq_getElem hi,fun e he hb=>?_⟩
    ·rw [K9 (by omega),<- hR,r.inv,<- K9 (by omega)];exact h1
    ·obtain ⟨e',he',hb',ho⟩:=q.up e he hb
     rw [<- hR,<- ho];exact hall e' he' hb'
   rw [hr] at this;cases this
 | @cons n listed i l hi _ ih =>
  intro listed' hs hs' hR hb
  obtain ⟨h1,o,ho,hall⟩:=mem_ready.1 hi
  have his:i<ops.size:=(Array.getElem?_eq_some_iff.1 ho).1
  obtain ⟨o',ho',q⟩:=r.one i o ho
  refine .cons ?_ (ih _ (by simp [hs]) (by simp [hs']) (fun j=>?_) ?_)
  ·refine mem_ready.2 ⟨?_,_,ho',fun e' he' hb'=>?_⟩
   ·rw [K9 (by rw [hs'];exact r.bd _ his),hR,<- K9 (by omega)];exact h1
   ·rcases q.down e' he' hb' with ⟨e,he,hbe,h2⟩|⟨rfl,h2⟩
    ·rw [h2,hR];exact hall e he hbe
    ·rw [h2,hR]
     rcases hb with hb|hb|hb
     ·exact hb
     ·exact absurd hb hxy
     ·exact absurd rfl hb.1
  ·rw [Cq (by rw [hs'];exact r.bd _ his),Cq (by omega),hR]
   by_cases e:j=i
   ·subst e;simp
   ·rw [if_neg e,if_neg (fun h=>e (by rw [<- r.inv j,h,r.inv]))]
  ·rw [Cq (by omega)]
   rcases hb with hb|hb|hb
   ·left;split
    ·rfl
    ·exact hb
   ·left;rw [if_pos hb.symm]
   ·exact .inr hb.2
theorem wp_ren1 {i:Nat} {o o':Oper} (q:Ren1 σ x y i o o') {a:Act} {w:World} {K:Act->World->Prop}:o'.wpIn F n P a w K Q=o.wpIn F n P a w K Q:=by
 obtain ⟨h1,h2,h3,h4,_,_,_⟩:=q
 cases o;cases o'
 dsimp only at h1 h2 h3 h4
 subst h1 h2 h3 h4
 rfl
theorem Ab6 {i:Nat} {o o':Oper} (q:Ren1 σ x y i o o') {ρ : Operand->Value} {w:World}:o'.about P w ρ = o.about P w ρ := by
 obtain ⟨h1,h2,h3,h4,_,_,_⟩:=q
 cases o;cases o'
 dsimp only at h1 h2 h3 h4
 subst h1 h2 h3 h4
 rfl
theorem I3 (r:Ren ops ops' σ x y):∀ (l:List Nat) (a:Act) (w:World),wpOpsIn F n P ops' Q (l.map σ) a w->wpOpsIn F n P ops Q l a w
 |[],_,_,h=>h
 |i::l,a,w,h=>by
  rw [List.map_cons,wpOpsIn_cons] at h
  rw [wpOpsIn_cons]
  unfold wpOpIn at h |-
  cases ho:ops[i]? with
  |none =>
   have:ops'[σ i]? = none:=by
    rw [Array.getElem?_eq_none_iff] at ho |-
    rw [r.size]
    exact Nat.le_of_not_lt fun hlt=>by have:=r.lt hlt;omega
   rw [this] at h
   exact I3 r l _ _ h
  |some o =>
   obtain ⟨o',ho',q⟩:=r.one i o ho
   rw [ho'] at h
   dsimp only at h |-
   have hw:Region.wanted o' (yielded ops' a.tmps)=Region.wanted o (yielded ops a.tmps):=by
    unfold Region.wanted
    rw [q.guard]
    cases hg:o.guard with
    |none=>rfl
    |some g =>
     have:yielded ops' a.tmps (σ g.1)=yielded ops a.tmps g.1:=by
      unfold yielded
      have hd:(ops'[σ g.1]?).bind (·.dst)=(ops[g.1]?).bind (·.dst):=by
       cases hog:ops[g.1]? with
       |none =>
        have:ops'[σ g.1]? = none:=by
         rw [Array.getElem?_eq_none_iff] at hog |-
         rw [r.size]
         exact Nat.le_of_not_lt fun hlt=>by have:=r.lt hlt;omega
        rw [this]
       |some og =>
        obtain ⟨og',hog',qg⟩:=r.one _ _ hog
        rw [hog'];exact qg.dst
      rw [hd]
     simp only [Option.map_some,this]
   rw [hw] at h
   split
   ·rename_i hc
    rw [if_pos hc,wp_ren1 q] at h
    exact Oper.wpIn_mono (fun a w=>I3 r l a w) h
   ·rename_i hc
    rw [if_neg hc,Ab6 q,q.dst] at h
    exact ⟨h.1,I3 r l _ _ h.2⟩
theorem wp_two {ops1 ops2:Array Oper} {σ1 σ2:Nat->Nat} {a b id:Nat} {act:Act} {w:World} (hm:P.follows .mixedOrders=true) (hab:a≠b) (r1:Ren ops ops1 σ1 b a) (r2:Ren ops ops2 σ2 a b)
  (h1:wpAnyIn F n P .any ops1 Q ops1.size (Array.replicate ops1.size false) act { w with drawn:=w.drawn+1 })
  (h2:wpAnyIn F n P .any ops2 Q ops2.size (Array.replicate ops2.size false) act { w with drawn:=w.drawn+1 }):(Code.region id ops true).wpIn F n P Q act w:=by
 refine wpIn_region_draw fun t=>?_
 simp only [Region.schedule,hm,Bool.true_or,if_true,Region.linearise]
 have hg:∀ (m i:Nat),(Array.replicate m false).getD i false=false:=by
  intro m i
  simp only [Array.getD_eq_getD_getElem?,Array.getElem?_replicate]
  split<;>rfl
 have hl:=lin_go ops ops.size t (Array.replicate ops.size false)
 generalize Region.linearise.go .any ops ops.size t (Array.replicate ops.size false) []=l at hl
 rcases Uf hab l with h|h
 ·have h3:=Age r1 (Ne.symm hab) hl (Array.replicate ops1.size false) (by simp) (by simp [r1.size]) (fun i=>by rw [hg,hg]) (.inr h)
  rw [r1.size] at h1 h3
  exact I3 r1 l _ _ (Xo h3 _ _ h1)
 ·have h3:=Age r2 hab hl (Array.replicate ops2.size false) (by simp) (by simp [r2.size]) (fun i=>by rw [hg,hg]) (.inr h)
  rw [r2.size] at h2 h3
  exact I3 r2 l _ _ (Xo h3 _ _ h2)
end
def addE (e:Nat) (o:Oper):Oper:={ o with after:=o.after.push ⟨e,.chain⟩ }
def mkE (e:Nat):Nat->List Oper->List Oper
 |_,[]=>[]
 |0,o::r=>addE e o::r
 |k+1,o::r=>o::mkE e k r
def reop (σ : Nat->Nat) (o:Oper):Oper:={ o with after:=o.after.map (fun e=>⟨σ e.on,e.ground⟩),guard:=o.guard.map fun g=>(σ g.1,g.2) }
def Fv:Nat->List Oper->List Oper
 |0,a::b::r=>b::a::r
 |k+1,a::r=>a::Fv k r
 |_,l=>l
def swp (k i:Nat):Nat:=if Nat.beq i k then k+1 else if Nat.beq i (k+1) then k else i
theorem Lw (k i:Nat):swp k i=if i=k then k+1 else if i=k+1 then k else i:=by
 unfold swp
 simp only [Nat.beq_eq]
theorem Yq (e:Nat):∀ (k:Nat) (l:List Oper) (i:Nat),(mkE e k l)[i]? = (l[i]?).map fun o=>if i=k then addE e o else o
 |_,[],i=>by simp [mkE]
 |0,o::r,0=>by simp [mkE]
 |0,o::r,i+1=>by simp [mkE]
 |k+1,o::r,0=>by simp [mkE]
 |k+1,o::r,i+1=>by simp [mkE,Yq e k r i]
theorem W9:∀ (k:Nat) (l:List Oper) (i:Nat),k+1<l.length->(Fv k l)[swp k i]? = l[i]?
 |0,a::b::r,0,_=>by simp [Fv,Lw]
 |0,a::b::r,1,_=>by simp [Fv,Lw]
 |0,a::b::r,i+2,_=>by simp [Fv,Lw]
 |0,[_],_,h=>by simp at h
 |_,[],_,h=>by simp at h
 |k+1,a::r,0,_=>by simp [Fv,Lw]
 |k+1,a::r,i+1,h=>by
  have:=W9 k r i (by simpa using h)
  rw [Lw] at this |-
  rw [<- List.getElem?_cons_succ (a:=a)] at this
  simp only [Fv,List.getElem?_cons_succ,Nat.add_right_cancel_iff]
  split<;>rename_i h1
  ·rw [if_pos h1] at this;simpa using this
  ·rw [if_neg h1] at this
   split<;>rename_i h2
   ·rw [if_pos h2] at this;simpa using this
   ·rw [if_neg h2] at this;simpa using this
theorem Na:∀ (k:Nat) (l:List Oper),(Fv k l).length=l.length
 |0,[]=>rfl
 |0,[_]=>rfl
 |0,a::b::r=>rfl
 |k+1,[]=>rfl
 |k+1,a::r=>by simp [Fv,Na k r]
theorem Mj (e:Nat):∀ (k:Nat) (l:List Oper),(mkE e k l).length=l.length
 |_,[]=>by simp [mkE]
 |0,o::r=>by simp [mkE]
 |k+1,o::r=>by simp [mkE,Mj e k r]
theorem swp_inv (k i:Nat):swp k (swp k i)=i:=by
 simp only [Lw]
 split<;>(try split)<;>(try split)<;>omega
theorem swp_lt {k i n:Nat} (h:k+1<n) (hi:i<n):swp k i<n:=by
 rw [Lw];split<;>(try split)<;>omega
theorem Qw (g:Option (Nat×Bool)):(g.map fun g=>(g.1,g.2))=g:=by cases g<;>rfl
theorem Ah5 (l:List Oper) (k:Nat):Ren l.toArray (mkE k (k+1) l).toArray (fun i=>i) (k+1) k:=by
 refine ⟨by simp [Mj],fun i h=>h,fun i=>rfl,fun i o ho=>?_⟩
 simp only [List.getElem?_toArray] at ho |-
 rw [Yq,ho]
 refine ⟨_,rfl,?_⟩
 split
 ·rename_i h
  refine ⟨rfl,rfl,rfl,rfl,(Qw o.guard).symm,fun e' he' hb=>?_,fun e he hb=>⟨e,by simp [addE,he],hb,rfl⟩⟩
  simp only [addE,Array.mem_push] at he'
  rcases he' with he'|rfl
  ·exact .inl ⟨e',he',hb,rfl⟩
  ·exact .inr ⟨h,rfl⟩
 ·exact ⟨rfl,rfl,rfl,rfl,(Qw o.guard).symm,fun e' he' hb => .inl ⟨e',he',hb,rfl⟩,fun e he hb=>⟨e,he,hb,rfl⟩⟩
theorem Ac8 (l:List Oper) (k:Nat) (hk:k+1<l.length):Ren l.toArray (mkE k (k+1) ((Fv k l).map (reop (swp k)))).toArray (swp k) k (k+1):=by
 refine ⟨by simp [Mj,Na],fun i h=>?_,swp_inv k,fun i o ho=>?_⟩
 ·simp only [List.size_toArray] at h |-
  exact swp_lt hk h
 ·simp only [List.getElem?_toArray] at ho |-
  rw [Yq,List.getElem?_map,W9 k l i hk,ho]
  refine ⟨_,rfl,?_⟩
  have hup:∀ e∈o.after,Region.binds .any e=true->∃ e'∈(reop (swp k) o).after,Region.binds .any e'=true/\e'.on=swp k e.on:=fun e he hb =>
   ⟨⟨swp k e.on,e.ground⟩,by simp only [reop,Array.mem_map];exact ⟨e,he,rfl⟩,by cases e;exact hb,rfl⟩
  have hdown:∀ e'∈(reop (swp k) o).after,Region.binds .any e'=true->∃ e∈o.after,Region.binds .any e=true/\e'.on=swp k e.on:=fun e' he' hb=>by
   simp only [reop,Array.mem_map] at he'
   obtain ⟨e,he,rfl⟩:=he'
   exact ⟨e,he,by cases e;exact hb,rfl⟩
  split
  ·rename_i h
   refine ⟨rfl,rfl,rfl,rfl,rfl,fun e' he' hb=>?_,fun e he hb=>?_⟩
   ·simp only [addE,Array.mem_push] at he'
    rcases he' with he'|rfl
    ·exact .inl (hdown e' he' hb)
    ·refine .inr ⟨?_,?_⟩
     ·rw [Lw] at h;split at h
      ·assumption
      ·split at h<;>omega
     ·simp [Lw]
   ·obtain ⟨e',h1,h2,h3⟩:=hup e he hb
    exact ⟨e',by simp only [addE,Array.mem_push];exact .inl h1,h2,h3⟩
  ·exact ⟨rfl,rfl,rfl,rfl,rfl,fun e' he' hb => .inl (hdown e' he' hb),hup⟩
namespace Bw
theorem Px {ro:Option Nat} {mm:Nat} {P:Program} {N:Nat} {ops:List Oper} {ch:Nat->Bool} {U Ut:Nat->List Nat} {Q:Exit->Act->World->Prop} {F:Nat->PV} {S:PS} {res:WRes} {K:Kx} {w:World} {a:Act} (hB:L7 ops.toArray ch=true)
  (h:WalkA P N ops.toArray ch U Ut 0 ops F S false [] res) (hI:Inv K S w) (hF:FrameRep K w N F a) (hE:Afc N K w a.defers Q res):wpAnyIn (fen ro) mm P .any ops.toArray Q ops.toArray.size (Array.replicate ops.toArray.size false) a { w with drawn:=w.drawn+1 }:=by
 obtain ⟨Fs,Ss,Rs,dd,h1,h2,h3,h4⟩:=h.seq (fun j=>by simp)
 obtain ⟨hI',hs'⟩:=hI.below (w':={ w with drawn:=w.drawn+1 }) ⟨rfl,rfl,rfl,Nat.le_refl _,fun _ _=>rfl⟩
 have hsz:ops.toArray.size=ops.length:=by simp
 refine Mid.any (res:=res) (Fs:=Fs) (Ss:=Ss) (Rs:=Rs) (dd:=dd) (K0:=K) (w0:=w) (ds:=a.defers) (fun j hj=>h3 j (Nat.zero_le _) (by omega)) hB (by rw [h2];exact hI) ?_ hE _ _ _ _ ?_
 ·cases res with
  |done Fe Se =>
   obtain ⟨h5,h6,_⟩:=h4
   exact ⟨by rw [hsz];simpa using h5,by rw [hsz];simpa using h6⟩
  |panic c Sx =>
   rcases h4 with h4|⟨j,_,h5,h6⟩
   ·cases h4
   ·exact ⟨j,by omega,h6⟩
 ·have hg:∀ i,(Array.replicate ops.toArray.size false).getD i false=false:=by
   intro i
   simp only [Array.getD_eq_getD_getElem?,Array.getElem?_replicate]
   split<;>rfl
  refine ⟨by simp,by simp,fun i _ hi=>(by rw [hg] at hi;cases hi),fun i hi=>(by rw [hg] at hi;cases hi),hF.size,rfl,K,0,hs',by rw [h2];exact hI',Nat.zero_le _,fun i _ _=>⟨fun hi=>(by rw [hg] at hi;cases hi),fun hi=>by omega⟩,fun t=>⟨fun i _ _ hi=>(by rw [hg] at hi;cases hi),fun _=>?_⟩⟩
  rw [h1]
  exact Rep.step hs' _ _ (hF.rep t)
theorem pw_two {P:Program} {N:Nat} {F:Nat->PV} {S:PS} {Q:Exit->(Nat->PV)->PS->Prop} {id:Nat} {l l1 l2:List Oper} (k:Nat) (hk:k+1<l.length) {ch1 ch2:Nat->Bool} {U1 U2 Ut1 Ut2:Nat->List Nat} (hm:P.follows .mixedOrders=true)
  (e1:mkE k (k+1) l=l1) (e2:mkE k (k+1) ((Fv k l).map (reop (swp k)))=l2)
  (hB1:L7 l1.toArray ch1=true) (hB2:L7 l2.toArray ch2=true)
  (h1:WB P N l1.toArray ch1 U1 Ut1 0 l1 F S false [] (Ad6 Q)) (h2:WB P N l2.toArray ch2 U2 Ut2 0 l2 F S false [] (Ad6 Q)):PW P N (.region id l.toArray true) Q F S:=by
 subst e1 e2
 refine ⟨fun ro mm K w a hI hF=>?_⟩
 obtain ⟨res1,h11,h12⟩:=h1.ex
 obtain ⟨res2,h21,h22⟩:=h2.ex
 exact wp_two hm (by omega) (Ah5 l k) (Ac8 l k hk) (Px hB1 h11 hI hF (Om h12)) (Px hB2 h21 hI hF (Om h22))
end Bw
theorem b0w {N id:Nat} {F:Nat->PV} {S:PS} {Q:Exit->(Nat->PV)->PS->Prop} {l l1 l2:List Oper} (k:Nat) (ch1 ch2:Nat->Bool) (us1 us2:List (Nat×List Nat)) (e1:mkE k (k+1) l=l1) (e2:mkE k (k+1) ((Fv k l).map (reop (swp k)))=l2)
  (h1:Bw.WB Tryz.prog N l1.toArray ch1 (Cg us1) (fun _=>[]) 0 l1 F S false [] (Ad6 Q)) (h2:Bw.WB Tryz.prog N l2.toArray ch2 (Cg us2) (fun _=>[]) 0 l2 F S false [] (Ad6 Q))
  (hk:Nat.blt (k+1) l.length=true:=by kernel_rfl) (hm:Tryz.prog.follows .mixedOrders=true:=by exact rfl) (hB1:L7 l1.toArray ch1=true:=by kernel_rfl) (hB2:L7 l2.toArray ch2=true:=by kernel_rfl):PW Tryz.prog N (.region id l.toArray true) Q F S :=
 Bw.pw_two k (Nat.blt_eq▸hk) hm e1 e2 hB1 hB2 h1 h2
def dQ (a b:Int):Int:=if (!decide (decide (a<0)=decide (b<0)))=true then -((a.natAbs / b.natAbs:Nat):Int) else ((a.natAbs / b.natAbs:Nat):Int)
def dR (a b:Int):Int:=if decide (a<0)=true then -((a.natAbs % b.natAbs:Nat):Int) else ((a.natAbs % b.natAbs:Nat):Int)
def dF (a b:Int):Bool := !decide (dR a b=0) && !decide (decide (a<0)=decide (b<0))
theorem dQ_abs (a b:Int):(dQ a b).natAbs=a.natAbs / b.natAbs:=by unfold dQ;split<;>simp only [Int.natAbs_neg,Int.natAbs_natCast]
theorem dR_abs (a b:Int):(dR a b).natAbs=a.natAbs % b.natAbs:=by unfold dR;split<;>simp only [Int.natAbs_neg,Int.natAbs_natCast]
theorem Ks {x:Int}:Cp x 0=0<->x=0:=by unfold Cp;split<;>(try split)<;>omega
set_option maxHeartbeats 2000000 in
theorem wdiv_do (a b:Int) (hb:b≠0) (hal:(Al a.natAbs).length<=100000) (hbl:(Al b.natAbs).length<=100000) :
  Am 111 [whI a,whI b] ⟨[],[]⟩ (.ret (.tup [whI (if dF a b=true then dQ a b-1 else dQ a b),whI (if dF a b=true then dR a b+b else dR a b)])) ⟨[],[]⟩:=by
 have hb0:0<b.natAbs:=by omega
 have hdv:=Md a.natAbs b.natAbs hb0 (by omega) (by omega)
 obtain ⟨oq,or',vq,vr⟩:=Yc a.natAbs b.natAbs hb0
 have hwq:=Dy (!decide (decide (a<0)=decide (b<0))) oq (dQ a b) (by rw [vq];rfl)
 have hwr:=Dy (decide (a<0)) or' (dR a b) (by rw [vr];rfl)
 have hsg:=Oc (dR a b)
 have hsm:=Ls 1 (by decide) (by decide)
 have hlq:(Al (dQ a b).natAbs).length<=100000:=by rw [dQ_abs];exact Nat.le_trans (Hw (Nat.div_le_self _ _)) hal
 have hlr:(Al (dR a b).natAbs).length<=100000:=by rw [dR_abs];exact Nat.le_trans (Hw (Nat.le_of_lt (Nat.mod_lt _ hb0))) hbl
 have hsu:=wsub_do (dQ a b) 1 (by omega) (by decide +kernel)
 have had:=Zk (dR a b) b (by omega) (by omega)
 have hcz:=Ks (x:=dR a b)
 cases hF:dF a b with
 |true =>
  have hF':=hF
  unfold dF at hF'
  simp only [Bool.and_eq_true,Bool.not_eq_true',decide_eq_false_iff_not] at hF'
  rw [if_pos rfl,if_pos rfl]
  refine Ad Tryz.func111 rfl rfl (Nat.le_of_ble_eq_true rfl) rfl (Nat.le_refl _) ?_
  repeat' (first|refine rl2 ?_|refine rs2 ?_ ?_<;>intro h|fail)
  refine wp1 hdv ?_
  repeat' (first|refine rl2 ?_|refine rs2 ?_ ?_<;>intro h|fail)
  refine b0w 11 (fun k=>Nat.beq k 11||Nat.beq k 12||Nat.beq k 13||Nat.beq k 14) (fun k=>Nat.beq k 11||Nat.beq k 12||Nat.beq k 13||Nat.beq k 14) [(1,[0]),(3,[1]),(8,[0])] [(1,[0]),(3,[1]),(8,[0])] (by dsimp only [mkE]) (by dsimp only [mkE,Fv,List.map]) ?_ ?_
  ·repeat' (first|refine rl7 ?_|refine rs7 ?_ ?_<;>intro h|fail)
   refine Ax hwq ?_
   repeat' (first|refine rl7 ?_|refine rs7 ?_ ?_<;>intro h|fail)
   refine Ax hwr ?_
   repeat' (first|refine rl7 ?_|refine rs7 ?_ ?_<;>intro h|fail)
   repeat' (first|refine rl2 ?_|refine rs2 ?_ ?_<;>intro h|fail)
   refine wp1 hsg ?_
   repeat' (first|refine rl2 ?_|refine rs2 ?_ ?_<;>intro h|fail)
   ·refine b0 (fun k=>Nat.beq k 6||Nat.beq k 7) [(0,[4]),(3,[5]),(4,[1])] ?_
    repeat' (first|refine rl7 ?_|refine rs7 ?_ ?_<;>intro h|fail)
    refine Dk hsm ?_
    repeat' (first|refine rl7 ?_|refine rs7 ?_ ?_<;>intro h|fail)
    refine Dk hsu ?_
    repeat' (first|refine rl7 ?_|refine rs7 ?_ ?_<;>intro h|fail)
    refine Dk had ?_
    repeat' (first|refine rl7 ?_|refine rs7 ?_ ?_<;>intro h|fail)
    repeat' (first|refine rl2 ?_|refine rs2 ?_ ?_<;>intro h|fail)
    refine b0 (fun k=>Nat.beq k 2||Nat.beq k 3) [(0,[4]),(1,[5])] ?_
    repeat' (first|refine rl7 ?_|refine rs7 ?_ ?_<;>intro h|fail)
    repeat' (first|refine rl2 ?_|refine rs2 ?_ ?_<;>intro h|fail)
    rfl
   all_goals (exfalso;simp at *;omega)
  ·repeat' (first|refine rl7 ?_|refine rs7 ?_ ?_<;>intro h|fail)
   refine Ax hwq ?_
   repeat' (first|refine rl7 ?_|refine rs7 ?_ ?_<;>intro h|fail)
   refine Ax hwr ?_
   repeat' (first|refine rl7 ?_|refine rs7 ?_ ?_<;>intro h|fail)
   repeat' (first|refine rl2 ?_|refine rs2 ?_ ?_<;>intro h|fail)
   refine wp1 hsg ?_
   repeat' (first|refine rl2 ?_|refine rs2 ?_ ?_<;>intro h|fail)
   ·refine b0 (fun k=>Nat.beq k 6||Nat.beq k 7) [(0,[5]),(3,[4]),(4,[1])] ?_
    repeat' (first|refine rl7 ?_|refine rs7 ?_ ?_<;>intro h|fail)
    refine Dk hsm ?_
    repeat' (first|refine rl7 ?_|refine rs7 ?_ ?_<;>intro h|fail)
    refine Dk hsu ?_
    repeat' (first|refine rl7 ?_|refine rs7 ?_ ?_<;>intro h|fail)
    refine Dk had ?_
    repeat' (first|refine rl7 ?_|refine rs7 ?_ ?_<;>intro h|fail)
    repeat' (first|refine rl2 ?_|refine rs2 ?_ ?_<;>intro h|fail)
    refine b0 (fun k=>Nat.beq k 2||Nat.beq k 3) [(0,[5]),(1,[4])] ?_
    repeat' (first|refine rl7 ?_|refine rs7 ?_ ?_<;>intro h|fail)
    repeat' (first|refine rl2 ?_|refine rs2 ?_ ?_<;>intro h|fail)
    rfl
   all_goals (exfalso;simp at *;omega)
 |false =>
  have hF':=hF
  unfold dF at hF'
  simp only [Bool.and_eq_false_iff,Bool.not_eq_false',decide_eq_true_eq] at hF'
  rw [if_neg (by simp),if_neg (by simp)]
  refine Ad Tryz.func111 rfl rfl (Nat.le_of_ble_eq_true rfl) rfl (Nat.le_refl _) ?_
  repeat' (first|refine rl2 ?_|refine rs2 ?_ ?_<;>intro h|fail)
  refine wp1 hdv ?_
  repeat' (first|refine rl2 ?_|refine rs2 ?_ ?_<;>intro h|fail)
  refine b0w 11 (fun k=>Nat.beq k 11||Nat.beq k 12||Nat.beq k 13||Nat.beq k 14) (fun k=>Nat.beq k 11||Nat.beq k 12||Nat.beq k 13||Nat.beq k 14) [(1,[0]),(3,[1]),(8,[0])] [(1,[0]),(3,[1]),(8,[0])] (by dsimp only [mkE]) (by dsimp only [mkE,Fv,List.map]) ?_ ?_
  ·repeat' (first|refine rl7 ?_|refine rs7 ?_ ?_<;>intro h|fail)
   refine Ax hwq ?_
   repeat' (first|refine rl7 ?_|refine rs7 ?_ ?_<;>intro h|fail)
   refine Ax hwr ?_
   repeat' (first|refine rl7 ?_|refine rs7 ?_ ?_<;>intro h|fail)
   repeat' (first|refine rl2 ?_|refine rs2 ?_ ?_<;>intro h|fail)
   refine wp1 hsg ?_
   repeat' (first|refine rl2 ?_|refine rs2 ?_ ?_<;>intro h|fail)
   ·exfalso;simp at *;omega
   all_goals
    refine b0 (fun k=>Nat.beq k 2||Nat.beq k 3) [(0,[4]),(1,[5])] ?_
    repeat' (first|refine rl7 ?_|refine rs7 ?_ ?_<;>intro h|fail)
    repeat' (first|refine rl2 ?_|refine rs2 ?_ ?_<;>intro h|fail)
    rfl
  ·repeat' (first|refine rl7 ?_|refine rs7 ?_ ?_<;>intro h|fail)
   refine Ax hwq ?_
   repeat' (first|refine rl7 ?_|refine rs7 ?_ ?_<;>intro h|fail)
   refine Ax hwr ?_
   repeat' (first|refine rl7 ?_|refine rs7 ?_ ?_<;>intro h|fail)
   repeat' (first|refine rl2 ?_|refine rs2 ?_ ?_<;>intro h|fail)
   refine wp1 hsg ?_
   repeat' (first|refine rl2 ?_|refine rs2 ?_ ?_<;>intro h|fail)
   ·exfalso;simp at *;omega
   all_goals
    refine b0 (fun k=>Nat.beq k 2||Nat.beq k 3) [(0,[5]),(1,[4])] ?_
    repeat' (first|refine rl7 ?_|refine rs7 ?_ ?_<;>intro h|fail)
    repeat' (first|refine rl2 ?_|refine rs2 ?_ ?_<;>intro h|fail)
    rfl
def gcS (a b:Int):PS:=⟨[[An (decide (a<0)),B1 (Al a.natAbs)],[An (decide (b<0)),B1 (Al b.natAbs)],[An false,Ad5]],[]⟩
theorem R2 (x y:Nat):Nat.gcd y (x % y)=Nat.gcd x y:=by rw [Nat.gcd_comm y,<- Nat.gcd_rec,Nat.gcd_comm]
def gcT (a b:Int):List Int->PS
 |[]=>⟨[[An (decide (a<0)),B1 (Al a.natAbs)],[An (decide (b<0)),B1 (Al b.natAbs)],[An false,Ad5],[An false,Ad5]],[]⟩
 |x::r=>⟨[[An (decide (a<0)),B1 (Al a.natAbs)],[An (decide (b<0)),B1 (Al b.natAbs)],[An false,Ad5],[An false,.hd 0 (r.length+1)]],[⟨r.length+1,1,(x::r).map B4,148⟩]⟩
theorem Zm (n:Nat):whI (n:Nat)=whP false (Al n):=by unfold whI;rw [decide_eq_false (by omega),Int.natAbs_natCast]
set_option maxHeartbeats 2000000 in
theorem gcd_do (a b:Int) (hal:(Al a.natAbs).length<=100000) (hbl:(Al b.natAbs).length<=100000) :
  Am 110 [whI a,whI b] ⟨[],[]⟩ (.ret (whI (Nat.gcd a.natAbs b.natAbs:Nat))) ⟨[],[]⟩:=by
 generalize hG:Nat.gcd a.natAbs b.natAbs=G
 refine C5 Tryz.func110 rfl rfl (Nat.le_of_ble_eq_true rfl) (fun _=>?_)
 refine Cl ?_
 repeat' (first|refine rl3 ?_|refine rs3 ?_ ?_<;>intro h|fail)
 refine Cl ?_
 refine Et chN [] [] rfl (by kernel_rfl) ?_
 repeat' (first|refine rl3 ?_|refine rs3 ?_ ?_<;>intro h|fail)
 refine Abe (ι := Nat×Nat) (ok:=fun q=>Nat.gcd q.1 q.2=G/\(Al q.1).length<=100000/\(Al q.2).length<=2) (L:=fun q=>[(2,.ptr 0 0),(3,.ptr 1 0),(4,.ptr 2 0),(5,B1 (Al q.1)),(6,B1 (Al q.2))]) (Sx:=fun _=>gcS a b) ?_ ?_
 ·refine C8 ?_
  refine B3 (ι := Nat×Nat) (ok:=fun q=>Nat.gcd q.1 q.2=G/\(Al q.1).length<=100000/\(Al q.2).length<=100000) (L:=fun q=>[(2,.ptr 0 0),(3,.ptr 1 0),(4,.ptr 2 0),(5,B1 (Al q.1)),(6,B1 (Al q.2))]) (Sx:=fun _=>gcS a b) (μ := fun q=>q.2) (a.natAbs,b.natAbs) ⟨hG,hal,hbl⟩ (by exact (by repeat (first|exact Ag|refine Aa rfl ?_))) rfl ?_
  rintro ⟨x,y⟩ ⟨h1,h2,h3⟩
  dsimp only at h1 h2 h3 |-
  have hly:(((Al y).map B4).length:Int)=(Al y).length:=by simp
  repeat' (first|refine rl2 ?_|refine rs2 ?_ ?_<;>intro h|fail)
  ·have hy2:2<(Al y).length:=by have:=of_decide_eq_true h;omega
   have hy0:0<y:=by
    refine Nat.pos_of_ne_zero fun e=>?_
    rw [e,At] at hy2;simp at hy2
   have hdv:=Md x y hy0 (by omega) (by omega)
   obtain ⟨oq,or',vq,vr⟩:=Yc x y hy0
   have hw:Am 112 [An false,B1 (dvP x y).2] ⟨[],[]⟩ (.ret (.agg [An false,B1 (Al (x % y))])) ⟨[],[]⟩:=by
    have:=Dy false or' ((x % y:Nat):Int) (by rw [vr];rfl)
    unfold whI at this
    rw [decide_eq_false (by omega),Int.natAbs_natCast] at this
    exact this
   refine wp1 hdv ?_
   repeat' (first|refine rl2 ?_|refine rs2 ?_ ?_<;>intro h|fail)
   refine wp1 hw ?_
   repeat' (first|refine rl2 ?_|refine rs2 ?_ ?_<;>intro h|fail)
   refine wfld rfl rfl rfl Tryz.underlying75 rfl rfl rfl ?_
   repeat' (first|refine rl2 ?_|refine rs2 ?_ ?_<;>intro h|fail)
   have hlt:x % y<y:=Nat.mod_lt _ hy0
   exact ⟨(y,x % y),⟨by rw [R2];exact h1,h3,Nat.le_trans (Hw (Nat.le_of_lt hlt)) h3⟩,hlt,(by repeat (first|exact Ag|refine Aa rfl ?_)),rfl⟩
  ·exact ⟨(x,y),⟨h1,h2,by show (Al y).length<=2;have:=of_decide_eq_false h;omega⟩,(by repeat (first|exact Ag|refine Aa rfl ?_)),rfl⟩
 rintro ⟨x,y⟩ ⟨h1,h2,h3⟩
 dsimp only at h1 h2 h3 |-
 have hly:(((Al y).map B4).length:Int)=(Al y).length:=by simp
 refine Cl ?_
 repeat' (first|refine rl3 ?_|refine rs3 ?_ ?_<;>intro h|fail)
 ·have hy0:y=0:=by
   have:=of_decide_eq_true h
   exact C7.1 (List.length_eq_zero_iff.1 (by omega))
  subst hy0
  rw [Nat.gcd_zero_right] at h1
  subst h1
  have hw:Am 112 [An false,B1 (Al x)] ⟨[],[]⟩ (.ret (whI (x:Nat))) ⟨[],[]⟩:=Dy false (Bq x) _ (by rw [Bi];rfl)
  refine wp1 hw ?_
  repeat' (first|refine rl3 ?_|refine rs3 ?_ ?_<;>intro h|fail)
  exact Xs (.inr rfl) rfl rfl (Mm (B7 Lm (B7 Lm Gm)))
 have hy0:0<y:=by
  refine Nat.pos_of_ne_zero fun e=>?_
  rw [e,At] at h;simp at h
 have hdv:=Md x y hy0 (by omega) (by omega)
 obtain ⟨oq,or',vq,vr⟩:=Yc x y hy0
 have hw:Am 112 [An false,B1 (dvP x y).2] ⟨[],[]⟩ (.ret (.agg [An false,B1 (Al (x % y))])) ⟨[],[]⟩:=by
  have:=Dy false or' ((x % y:Nat):Int) (by rw [vr];rfl)
  unfold whI at this
  rw [decide_eq_false (by omega),Int.natAbs_natCast] at this
  exact this
 have hlt:x % y<y:=Nat.mod_lt _ hy0
 have hv1:=Tx (Al y) h3 (Bq y)
 have hv2:=Tx (Al (x % y)) (Nat.le_trans (Hw (Nat.le_of_lt hlt)) h3) (Bq _)
 rw [Bi] at hv1 hv2
 refine Cl ?_
 repeat' (first|refine rl3 ?_|refine rs3 ?_ ?_<;>intro h|fail)
 refine wp1 hdv ?_
 repeat' (first|refine rl3 ?_|refine rs3 ?_ ?_<;>intro h|fail)
 refine Cl ?_
 repeat' (first|refine rl3 ?_|refine rs3 ?_ ?_<;>intro h|fail)
 refine wp1 hv1 ?_
 repeat' (first|refine rl3 ?_|refine rs3 ?_ ?_<;>intro h|fail)
 refine wp1 hw ?_
 repeat' (first|refine rl3 ?_|refine rs3 ?_ ?_<;>intro h|fail)
 refine wfld rfl rfl rfl Tryz.underlying75 rfl rfl rfl ?_
 repeat' (first|refine rl3 ?_|refine rs3 ?_ ?_<;>intro h|fail)
 refine wp1 hv2 ?_
 repeat' (first|refine rl3 ?_|refine rs3 ?_ ?_<;>intro h|fail)
 have hyb:y<1000000000 ^ 2:=Lb h3
 have h1':Nat.gcd y (x % y)=G:=by rw [R2];exact h1
 refine Abe (ι := Nat) (ok:=fun u=>u=G/\u<=1000000000000000000) (L:=fun u=>[(2,.ptr 0 0),(3,.ptr 1 0),(4,.ptr 2 0),(11,.d (.v (.int .u64 u)))]) (Sx:=fun _=>gcS a b) ?_ ?_
 ·refine C8 ?_
  refine B3 (ι := Nat×Nat) (ok:=fun q=>Nat.gcd q.1 q.2=G/\q.1<=1000000000000000000/\q.2<=1000000000000000000) (L:=fun q=>[(2,.ptr 0 0),(3,.ptr 1 0),(4,.ptr 2 0),(11,.d (.v (.int .u64 q.1))),(12,.d (.v (.int .u64 q.2)))]) (Sx:=fun _=>gcS a b) (μ := fun q=>q.2) (y,x % y) ⟨h1',by show y<=_;omega,by show x % y<=_;omega⟩ (by exact (by repeat (first|exact Ag|refine Aa rfl ?_))) rfl ?_
  rintro ⟨u,v⟩ ⟨k1,k2,k3⟩
  dsimp only at k1 k2 k3 |-
  repeat' (first|refine rl2 ?_|refine rs2 ?_ ?_<;>intro h|fail)
  ·have hv0:0<v:=by have:=of_decide_eq_true h;omega
   refine Et chN [] [] rfl (by kernel_rfl) ?_
   repeat' (first|refine rl2 ?_|refine rs2 ?_ ?_<;>intro h|fail)
   have hm:u % v<v:=Nat.mod_lt _ hv0
   exact ⟨(v,u % v),⟨by rw [R2];exact k1,k3,by show u % v<=_;omega⟩,hm,(by repeat (first|exact Ag|refine Aa rfl ?_)),rfl⟩
  ·have hv0:v=0:=by have:=of_decide_eq_false h;omega
   subst hv0
   rw [Nat.gcd_zero_right] at k1
   exact ⟨u,⟨k1,k2⟩,(by repeat (first|exact Ag|refine Aa rfl ?_)),rfl⟩
 rintro u ⟨rfl,hu⟩
 refine Cl ?_
 repeat' (first|refine rl3 ?_|refine rs3 ?_ ?_<;>intro h|fail)
 refine Cl ?_
 refine C8 ?_
 refine B3 (ι := List Int×Nat) (ok:=fun q=>Al u=q.1++Al q.2/\q.2<=18446744073709551615) (L:=fun q=>[(2,.ptr 0 0),(3,.ptr 1 0),(4,.ptr 2 0),(11,.d (.v (.int .u64 q.2))),(13,.ptr 3 0)]) (Sx:=fun q=>gcT a b q.1) (μ := fun q=>q.2) ([],u) ⟨rfl,by show u<=_;omega⟩ (by exact (by repeat (first|exact Ag|refine Aa rfl ?_))) rfl ?_
 rintro ⟨l,r⟩ ⟨hl,hr⟩
 simp only at hl hr
 have hul:=Jf (n:=u) (k:=3) (by omega)
 have hlen:l.length+(Al r).length<=3:=by have:=congrArg List.length hl;simp at this;omega
 repeat' (first|refine rl1 ?_|refine rs1 ?_ ?_<;>intro h|fail)
 ·have hr0:r≠0:=by have:=of_decide_eq_true h;intro e;subst e;simp at this
  have hne:=Ca hr0
  have hrm:(r:Int) % 1000000000=((r % 1000000000:Nat):Int):=by omega
  have hstep:Al u=(l++[((r % 1000000000:Nat):Int)])++Al (r / 1000000000):=by rw [hl,hne];simp
  have hq:(r:Int) / 1000000000=((r / 1000000000:Nat):Int):=by omega
  have hrb:((r % 1000000000:Nat):Int)<=4294967295/\(0:Int)<=((r % 1000000000:Nat):Int):=by omega
  have hfr:PV.d (.v (.int .u64 ((r:Int) / 1000000000)))=PV.d (.v (.int .u64 ((r / 1000000000:Nat):Int))):=by rw [hq]
  generalize hv:((r % 1000000000:Nat):Int)=v at hrm hstep hrb
  cases l with
  |nil =>
   unfold gcT
   repeat' (first|refine rl1 ?_|refine rs1 ?_ ?_<;>intro h|fail)
   refine Jz (.d (.v (.int .u32 v))) rfl rfl (by show PV.d (.v (.int .u32 ((r:Int) % 1000000000)))=_;rw [hrm]) ⟨by show (0:Int)<=(r:Int) % 1000000000;omega,by show (r:Int) % 1000000000<=(4294967295:Int);omega⟩ ?_
   repeat' (first|refine rl1 ?_|refine rs1 ?_ ?_<;>intro h|fail)
   refine wapp0 60 [B4 v] rfl rfl rfl rfl rfl rfl rfl (by show (0+1)*4<=_;omega) (by show 0+1<=_;omega) rfl ?_
   repeat' (first|refine rl1 ?_|refine rs1 ?_ ?_<;>intro h|fail)
   exact ⟨([v],r / 1000000000),⟨hstep,by show r / 1000000000<=_;omega⟩,by show r / 1000000000<r;omega,Aa rfl (Aa rfl (Aa rfl (Aa hfr (Aa rfl Ag)))),rfl⟩
  |cons x l =>
   unfold gcT
   repeat' (first|refine rl1 ?_|refine rs1 ?_ ?_<;>intro h|fail)
   refine Jz (.d (.v (.int .u32 v))) rfl rfl (by show PV.d (.v (.int .u32 ((r:Int) % 1000000000)))=_;rw [hrm]) ⟨by show (0:Int)<=(r:Int) % 1000000000;omega,by show (r:Int) % 1000000000<=(4294967295:Int);omega⟩ ?_
   repeat' (first|refine rl1 ?_|refine rs1 ?_ ?_<;>intro h|fail)
   simp only [List.length_cons] at hlen
   refine T9 (news:=[B4 v]) (S':=⟨[[An (decide (a<0)),B1 (Al a.natAbs)],[An (decide (b<0)),B1 (Al b.natAbs)],[An false,Ad5],[An false,.hd 0 (l.length+1)]],[⟨l.length+2,1,(x::(l++[v])).map B4,148⟩]⟩) rfl rfl rfl rfl rfl rfl ?_ ?_ (by simp [PS.setTok]) ?_
   ·simp only [List.length_map,List.length_cons];show (_+1)*4<=_;omega
   ·simp only [List.length_map,List.length_cons];show _+1<=_;omega
   repeat' (first|refine rl1 ?_|refine rs1 ?_ ?_<;>intro h|fail)
   exact ⟨(x::(l++[v]),r / 1000000000),⟨hstep,by show r / 1000000000<=_;omega⟩,by show r / 1000000000<r;omega,Aa rfl (Aa rfl (Aa rfl (Aa hfr (Aa rfl Ag)))),by simp [gcT,PS.setBox]⟩
 ·have hr0:r=0:=by have:=of_decide_eq_false h;simp at this;omega
  subst hr0
  rw [At,List.append_nil] at hl
  refine P8 ?_
  rw [Zm,hl]
  cases l with
  |nil =>
   unfold gcT
   repeat' (first|refine rl1 ?_|refine rs1 ?_ ?_<;>intro h|fail)
   exact Xs (.inr rfl) rfl rfl (Mm (B7 Lm (B7 (J7 Fg) Gm)))
  |cons x l =>
   unfold gcT
   repeat' (first|refine rl1 ?_|refine rs1 ?_ ?_<;>intro h|fail)
   exact Xs (.inr rfl) rfl rfl (Mm (B7 Lm (B7 (J7 (Kc (Ep rfl))) Gm)))
@[reducible] def J6 (a b:Int):PV := .agg [An (decide (a<0)),B1 (Al a.natAbs),An (decide (b<0)),B1 (Al b.natAbs)]
theorem Aa1 (a b:Int):Am 48 [J6 a b] ⟨[],[]⟩ (.ret (Ah (Cp a 0))) ⟨[],[]⟩:=by
 have h:=Oc a
 refine Ad Tryz.func48 rfl rfl (Nat.le_of_ble_eq_true rfl) rfl (Nat.le_refl _) ?_
 repeat' (first|refine rl0 ?_|refine rs0 ?_ ?_<;>intro h|fail)
 refine wp1 h ?_
 repeat' (first|refine rl0 ?_|refine rs0 ?_ ?_<;>intro h|fail)
 rfl
theorem Ag2 (a b:Int):Am 60 [J6 a b] ⟨[],[]⟩ (.ret (J6 (-a) b)) ⟨[],[]⟩:=by
 have h:=Zn a
 refine Ad Tryz.func60 rfl rfl (Nat.le_of_ble_eq_true rfl) rfl (Nat.le_refl _) ?_
 repeat' (first|refine rl2 ?_|refine rs2 ?_ ?_<;>intro h|fail)
 refine b0 (fun k=>Nat.beq k 6) [(1,[0]),(4,[0])] ?_
 repeat' (first|refine rl7 ?_|refine rs7 ?_ ?_<;>intro h|fail)
 refine Dk h ?_
 repeat' (first|refine rl7 ?_|refine rs7 ?_ ?_<;>intro h|fail)
 repeat' (first|refine rl2 ?_|refine rs2 ?_ ?_<;>intro h|fail)
 rfl
theorem ncmp_do (a b c d:Int) (h1:(Al a.natAbs).length<=1000) (h2:(Al b.natAbs).length<=1000) (h3:(Al c.natAbs).length<=1000) (h4:(Al d.natAbs).length<=1000) (hm1:(Al (a*d).natAbs).length<=1000000) (hm2:(Al (c*b).natAbs).length<=1000000) :
  Am 53 [J6 a b,J6 c d] ⟨[],[]⟩ (.ret (Ah (Cp (a*d) (c*b)))) ⟨[],[]⟩:=by
 have e1:=Ia a d (by omega) (by omega)
 have e2:=Ia c b (by omega) (by omega)
 have e3:=Zl (a*d) (c*b) hm1 hm2
 refine Ad Tryz.func53 rfl rfl (Nat.le_of_ble_eq_true rfl) rfl (Nat.le_refl _) ?_
 repeat' (first|refine rl0 ?_|refine rs0 ?_ ?_<;>intro h|fail)
 refine wp1n e1 ?_
 repeat' (first|refine rl0 ?_|refine rs0 ?_ ?_<;>intro h|fail)
 refine wp1n e2 ?_
 repeat' (first|refine rl0 ?_|refine rs0 ?_ ?_<;>intro h|fail)
 refine wp1n e3 ?_
 repeat' (first|refine rl0 ?_|refine rs0 ?_ ?_<;>intro h|fail)
 rfl
abbrev My (x y n e:Int):Prop:=Am 78 [whI x,whI y] ⟨[],[]⟩ (.ret (J6 n e)) ⟨[],[]⟩
theorem nmul_of (a b c d n e:Int) (h1:(Al a.natAbs).length<=1000) (h2:(Al b.natAbs).length<=1000) (h3:(Al c.natAbs).length<=1000) (h4:(Al d.natAbs).length<=1000) (hk:My (a*c) (b*d) n e):Am 45 [J6 a b,J6 c d] ⟨[],[]⟩ (.ret (J6 n e)) ⟨[],[]⟩:=by
 have e1:=Ia a c (by omega) (by omega)
 have e2:=Ia b d (by omega) (by omega)
 refine Ad Tryz.func45 rfl rfl (Nat.le_of_ble_eq_true rfl) rfl (Nat.le_refl _) ?_
 repeat' (first|refine rl2 ?_|refine rs2 ?_ ?_<;>intro h|fail)
 refine b0 (fun k=>Nat.beq k 11) [(1,[0]),(3,[1]),(6,[0]),(8,[1])] ?_
 repeat' (first|refine rl7 ?_|refine rs7 ?_ ?_<;>intro h|fail)
 refine Dk e1 ?_
 repeat' (first|refine rl7 ?_|refine rs7 ?_ ?_<;>intro h|fail)
 refine Dk e2 ?_
 repeat' (first|refine rl7 ?_|refine rs7 ?_ ?_<;>intro h|fail)
 refine Dk hk ?_
 repeat' (first|refine rl7 ?_|refine rs7 ?_ ?_<;>intro h|fail)
 repeat' (first|refine rl2 ?_|refine rs2 ?_ ?_<;>intro h|fail)
 rfl
theorem ndiv_of (a b c d n e:Int) (h1:(Al a.natAbs).length<=1000) (h2:(Al b.natAbs).length<=1000) (h3:(Al c.natAbs).length<=1000) (h4:(Al d.natAbs).length<=1000) (hk:My (a*d) (b*c) n e):Am 50 [J6 a b,J6 c d] ⟨[],[]⟩ (.ret (J6 n e)) ⟨[],[]⟩:=by
 have e1:=Ia a d (by omega) (by omega)
 have e2:=Ia b c (by omega) (by omega)
 refine Ad Tryz.func50 rfl rfl (Nat.le_of_ble_eq_true rfl) rfl (Nat.le_refl _) ?_
 repeat' (first|refine rl2 ?_|refine rs2 ?_ ?_<;>intro h|fail)
 refine b0 (fun k=>Nat.beq k 11) [(1,[0]),(3,[1]),(6,[0]),(8,[1])] ?_
 repeat' (first|refine rl7 ?_|refine rs7 ?_ ?_<;>intro h|fail)
 refine Dk e1 ?_
 repeat' (first|refine rl7 ?_|refine rs7 ?_ ?_<;>intro h|fail)
 refine Dk e2 ?_
 repeat' (first|refine rl7 ?_|refine rs7 ?_ ?_<;>intro h|fail)
 refine Dk hk ?_
 repeat' (first|refine rl7 ?_|refine rs7 ?_ ?_<;>intro h|fail)
 repeat' (first|refine rl2 ?_|refine rs2 ?_ ?_<;>intro h|fail)
 rfl
theorem Ags (a b c d n e:Int) (h1:(Al a.natAbs).length<=1000) (h2:(Al b.natAbs).length<=1000) (h3:(Al c.natAbs).length<=1000) (h4:(Al d.natAbs).length<=1000) (hm1:(Al (a*d).natAbs).length<=1000000) (hm2:(Al (c*b).natAbs).length<=1000000) (hk:My (a*d+c*b) (b*d) n e):Am 44 [J6 a b,J6 c d] ⟨[],[]⟩ (.ret (J6 n e)) ⟨[],[]⟩:=by
 have e1:=Ia a d (by omega) (by omega)
 have e2:=Ia c b (by omega) (by omega)
 have e3:=Zk (a*d) (c*b) hm1 hm2
 have e4:=Ia b d (by omega) (by omega)
 refine Ad Tryz.func44 rfl rfl (Nat.le_of_ble_eq_true rfl) rfl (Nat.le_refl _) ?_
 repeat' (first|refine rl2 ?_|refine rs2 ?_ ?_<;>intro h|fail)
 refine b0 (fun k=>Nat.beq k 17) [(1,[0]),(3,[1]),(6,[1]),(8,[0]),(12,[0]),(14,[1])] ?_
 repeat' (first|refine rl7 ?_|refine rs7 ?_ ?_<;>intro h|fail)
 refine Dk e1 ?_
 repeat' (first|refine rl7 ?_|refine rs7 ?_ ?_<;>intro h|fail)
 refine Dk e2 ?_
 repeat' (first|refine rl7 ?_|refine rs7 ?_ ?_<;>intro h|fail)
 refine Dk e3 ?_
 repeat' (first|refine rl7 ?_|refine rs7 ?_ ?_<;>intro h|fail)
 refine Dk e4 ?_
 repeat' (first|refine rl7 ?_|refine rs7 ?_ ?_<;>intro h|fail)
 refine Dk hk ?_
 repeat' (first|refine rl7 ?_|refine rs7 ?_ ?_<;>intro h|fail)
 repeat' (first|refine rl2 ?_|refine rs2 ?_ ?_<;>intro h|fail)
 rfl
theorem nsub_of (a b c d n e:Int) (h1:(Al a.natAbs).length<=1000) (h2:(Al b.natAbs).length<=1000) (h3:(Al c.natAbs).length<=1000) (h4:(Al d.natAbs).length<=1000) (hm1:(Al (a*d).natAbs).length<=1000000) (hm2:(Al (-c*b).natAbs).length<=1000000) (hk:My (a*d + -c*b) (b*d) n e):Am 43 [J6 a b,J6 c d] ⟨[],[]⟩ (.ret (J6 n e)) ⟨[],[]⟩:=by
 have e1:=Ag2 c d
 have e2:=Ags a b (-c) d n e h1 h2 (by rw [Int.natAbs_neg];exact h3) h4 hm1 hm2 hk
 refine Ad Tryz.func43 rfl rfl (Nat.le_of_ble_eq_true rfl) rfl (Nat.le_refl _) ?_
 repeat' (first|refine rl2 ?_|refine rs2 ?_ ?_<;>intro h|fail)
 refine b0 (fun k=>Nat.beq k 4) [(0,[0]),(1,[1])] ?_
 repeat' (first|refine rl7 ?_|refine rs7 ?_ ?_<;>intro h|fail)
 refine Dk e1 ?_
 repeat' (first|refine rl7 ?_|refine rs7 ?_ ?_<;>intro h|fail)
 refine Dk e2 ?_
 repeat' (first|refine rl7 ?_|refine rs7 ?_ ?_<;>intro h|fail)
 repeat' (first|refine rl2 ?_|refine rs2 ?_ ?_<;>intro h|fail)
 rfl
abbrev Aea (x y q r:Int):Prop:=Am 111 [whI x,whI y] ⟨[],[]⟩ (.ret (.tup [whI q,whI r])) ⟨[],[]⟩
def Qr (x y:Int):Int:=if y<0 then -((Nat.gcd x.natAbs y.natAbs:Nat):Int) else ((Nat.gcd x.natAbs y.natAbs:Nat):Int)
set_option maxHeartbeats 2000000 in
theorem make_of (x y p q r s:Int) (hxl:(Al x.natAbs).length<=100000) (hyl:(Al y.natAbs).length<=100000) (hy:y≠0) (h1:Qr x y=1->p=x/\q=y) (hd1:Qr x y≠1->Aea x (Qr x y) p r) (hd2:Qr x y≠1->Aea y (Qr x y) q s):My x y p q:=by
 have hg:=gcd_do x y hxl hyl
 have hn:=Zn ((Nat.gcd x.natAbs y.natAbs:Nat):Int)
 have hG:0<Nat.gcd x.natAbs y.natAbs:=Nat.gcd_pos_of_pos_right _ (by omega)
 unfold Qr at h1 hd1 hd2
 generalize Nat.gcd x.natAbs y.natAbs=G at *
 unfold My
 by_cases hneg:y<0
 ·rw [if_pos hneg] at h1 hd1 hd2
  have hd1:=hd1 (by omega)
  have hd2:=hd2 (by omega)
  unfold Aea at hd1 hd2
  refine Ad Tryz.func78 rfl rfl (Nat.le_of_ble_eq_true rfl) rfl (Nat.le_refl _) ?_
  repeat' (first|refine rl0 ?_|refine rs0 ?_ ?_<;>intro h|fail)
  refine wp1 hg ?_
  repeat' (first|refine rl0 ?_|refine rs0 ?_ ?_<;>intro h|fail)
  ·refine wp1 hn ?_
   repeat' (first|refine rl0 ?_|refine rs0 ?_ ?_<;>intro h|fail)
   ·refine wp1 hd1 ?_
    repeat' (first|refine rl0 ?_|refine rs0 ?_ ?_<;>intro h|fail)
    refine wp1 hd2 ?_
    repeat' (first|refine rl0 ?_|refine rs0 ?_ ?_<;>intro h|fail)
    rfl
   ·refine wp1 hd1 ?_
    repeat' (first|refine rl0 ?_|refine rs0 ?_ ?_<;>intro h|fail)
    refine wp1 hd2 ?_
    repeat' (first|refine rl0 ?_|refine rs0 ?_ ?_<;>intro h|fail)
    rfl
   ·exfalso;have:=of_decide_eq_false h;omega
  all_goals (exfalso;simp at *;omega)
 ·rw [if_neg hneg] at h1 hd1 hd2
  rw [Zm] at hg
  by_cases hG1:G=1
  ·subst hG1
   obtain ⟨rfl,rfl⟩:=h1 rfl
   rw [show Al 1=[1] from (Jg (b:=1) (by decide +kernel)).1] at hg
   refine Ad Tryz.func78 rfl rfl (Nat.le_of_ble_eq_true rfl) rfl (Nat.le_refl _) ?_
   repeat' (first|refine rl0 ?_|refine rs0 ?_ ?_<;>intro h|fail)
   refine wp1 hg ?_
   repeat' (first|refine rl0 ?_|refine rs0 ?_ ?_<;>intro h|fail)
   ·exfalso;simp at *;omega
   refine wix (B4 1) rfl rfl rfl rfl rfl rfl (by omega) ?_
   repeat' (first|refine rl0 ?_|refine rs0 ?_ ?_<;>intro h|fail)
   rfl
  ·have hd1:=hd1 (by omega)
   have hd2:=hd2 (by omega)
   unfold Aea at hd1 hd2
   rw [Zm] at hd1 hd2
   refine Ad Tryz.func78 rfl rfl (Nat.le_of_ble_eq_true rfl) rfl (Nat.le_refl _) ?_
   repeat' (first|refine rl0 ?_|refine rs0 ?_ ?_<;>intro h|fail)
   refine wp1 hg ?_
   repeat' (first|refine rl0 ?_|refine rs0 ?_ ?_<;>intro h|fail)
   ·exfalso;simp at *;omega
   ·refine wp1 hd1 ?_
    repeat' (first|refine rl0 ?_|refine rs0 ?_ ?_<;>intro h|fail)
    refine wp1 hd2 ?_
    repeat' (first|refine rl0 ?_|refine rs0 ?_ ?_<;>intro h|fail)
    rfl
   ·have hl1:(Al G).length=1:=by
     have h2:=of_decide_eq_false h
     have h3:(Al G).length≠0:=fun e=>by have:=C7.1 (List.length_eq_zero_iff.1 e);omega
     simp at h2;omega
    obtain ⟨e,_⟩:=Jg hl1
    refine wix (B4 (G:Int)) rfl rfl rfl rfl rfl (by rw [e];rfl) (by omega) ?_
    repeat' (first|refine rl0 ?_|refine rs0 ?_ ?_<;>intro h|fail)
    ·refine wp1 hd1 ?_
     repeat' (first|refine rl0 ?_|refine rs0 ?_ ?_<;>intro h|fail)
     refine wp1 hd2 ?_
     repeat' (first|refine rl0 ?_|refine rs0 ?_ ?_<;>intro h|fail)
     rfl
    ·exfalso;simp at *;omega
theorem nof_of (a b n e:Int) (ha : -9223372036854775808<=a/\a<=9223372036854775807) (hb : -9223372036854775808<=b/\b<=9223372036854775807) (hk:My a b n e):Am 58 [Ah a,Ah b] ⟨[],[]⟩ (.ret (J6 n e)) ⟨[],[]⟩:=by
 have e1:=Ls a ha.1 ha.2
 have e2:=Ls b hb.1 hb.2
 refine Ad Tryz.func58 rfl rfl (Nat.le_of_ble_eq_true rfl) rfl (Nat.le_refl _) ?_
 repeat' (first|refine rl0 ?_|refine rs0 ?_ ?_<;>intro h|fail)
 refine wp1 e1 ?_
 repeat' (first|refine rl0 ?_|refine rs0 ?_ ?_<;>intro h|fail)
 refine wp1 e2 ?_
 repeat' (first|refine rl0 ?_|refine rs0 ?_ ?_<;>intro h|fail)
 refine wp1 hk ?_
 repeat' (first|refine rl0 ?_|refine rs0 ?_ ?_<;>intro h|fail)
 rfl
theorem Ag8 (a:Int) (d:Nat) (hd:0<d):Am 63 [J6 a d] ⟨[],[]⟩ (.ret (An (decide (d=1)))) ⟨[],[]⟩:=by
 have hn:(d:Int).natAbs=d:=Int.natAbs_natCast d
 unfold J6
 rw [hn]
 refine Ad Tryz.func63 rfl rfl (Nat.le_of_ble_eq_true rfl) rfl (Nat.le_refl _) ?_
 repeat' (first|refine rl0 ?_|refine rs0 ?_ ?_<;>intro h|fail)
 ·have hl1:(Al d).length=1:=by have h2:=of_decide_eq_true h;simp at h2;omega
  obtain ⟨e,_⟩:=Jg hl1
  refine wix (B4 (d:Int)) rfl rfl rfl rfl rfl (by rw [e];rfl) (by omega) ?_
  repeat' (first|refine rl0 ?_|refine rs0 ?_ ?_<;>intro h|fail)
  by_cases h1:d=1
  ·subst h1;rfl
  ·rw [decide_eq_false (show ¬ (d:Int)=1 by omega),decide_eq_false h1]
 ·have h2:=of_decide_eq_false h
  have h1:d≠1:=by
   rintro rfl
   rw [(Jg (b:=1) (by decide +kernel)).1] at h2
   simp at h2
  rw [decide_eq_false h1]
abbrev Fr:=Int×Int
def Red (p:Fr):Prop:=0<p.2/\Nat.gcd p.1.natAbs p.2.natAbs=1
def mkF (x y:Int):Fr:=(x / Qr x y,y / Qr x y)
theorem Hs (x y:Int):(Qr x y).natAbs=Nat.gcd x.natAbs y.natAbs:=by unfold Qr;split<;>simp
theorem K8 {x y:Int} (hy:y≠0):0<Nat.gcd x.natAbs y.natAbs:=Nat.gcd_pos_of_pos_right _ (by omega)
theorem Af4 {x y:Int} (hy:y≠0):Qr x y≠0:=by
 have h:=Hs x y
 have:=K8 (x:=x) hy
 intro e;rw [e] at h;simp at h;omega
theorem gcdI_sg {x y:Int} (hy:y≠0):Qr x y<0<->y<0:=by
 have:=K8 (x:=x) hy
 unfold Qr;split<;>omega
theorem gcdI_l (x y:Int):Qr x y∣x:=by rw [<- Int.natAbs_dvd_natAbs,Hs];exact Nat.gcd_dvd_left _ _
theorem gcdI_r (x y:Int):Qr x y∣y:=by rw [<- Int.natAbs_dvd_natAbs,Hs];exact Nat.gcd_dvd_right _ _
theorem mkF_l (x y:Int):Qr x y*(mkF x y).1=x:=Int.mul_ediv_cancel' (gcdI_l x y)
theorem mkF_r (x y:Int):Qr x y*(mkF x y).2=y:=Int.mul_ediv_cancel' (gcdI_r x y)
theorem mul_sg {g m y:Int} (h:g*m=y) (hy:y≠0) (hs:g<0<->y<0):0<m:=by
 rcases Int.lt_trichotomy m 0 with h1|h1|h1
 ·rcases Int.lt_trichotomy g 0 with h2|h2|h2
  ·have:=Int.mul_pos_of_neg_of_neg h2 h1;omega
  ·subst h2;simp at h;omega
  ·have:=Int.mul_neg_of_pos_of_neg h2 h1;omega
 ·subst h1;simp at h;omega
 ·exact h1
theorem Agp {x y:Int} (hy:y≠0):Red (mkF x y):=by
 have h1:=mkF_l x y
 have h2:=mkF_r x y
 have ha:=Hs x y
 have hp:=K8 (x:=x) hy
 refine ⟨mul_sg h2 hy (gcdI_sg hy),?_⟩
 generalize mkF x y=p at *
 generalize Qr x y=g at *
 have h3:Nat.gcd x.natAbs y.natAbs=g.natAbs*Nat.gcd p.1.natAbs p.2.natAbs:=by
  rw [<- h1,<- h2,Int.natAbs_mul,Int.natAbs_mul,Nat.gcd_mul_left]
 rw [<- ha] at h3 hp
 exact Nat.eq_of_mul_eq_mul_left hp (by rw [Nat.mul_one];exact h3.symm)
theorem red_eq {p q:Fr} (hp:Red p) (hq:Red q) (h:p.1*q.2=q.1*p.2):p=q:=by
 have hn:p.1.natAbs*q.2.natAbs=q.1.natAbs*p.2.natAbs:=by rw [<- Int.natAbs_mul,h,Int.natAbs_mul]
 have h1:p.2.natAbs∣q.2.natAbs:=Nat.Coprime.dvd_of_dvd_mul_left (Nat.Coprime.symm hp.2) (by rw [hn];exact Nat.dvd_mul_left _ _)
 have h2:q.2.natAbs∣p.2.natAbs:=Nat.Coprime.dvd_of_dvd_mul_left (Nat.Coprime.symm hq.2) (by rw [<- hn];exact Nat.dvd_mul_left _ _)
 have h3:=Nat.dvd_antisymm h1 h2
 have h4:p.2=q.2:=by have:=hp.1;have:=hq.1;omega
 rw [<- h4] at h
 have h5:p.1=q.1:=Int.eq_of_mul_eq_mul_right (by have:=hp.1;omega) h
 exact Prod.ext h5 h4
theorem mkF_eq {x y:Int} {p:Fr} (hp:Red p) (hy:y≠0) (h:p.1*y=x*p.2):mkF x y=p:=by
 refine red_eq (Agp hy) hp ?_
 have h1:=mkF_l x y
 have h2:=mkF_r x y
 have hg:=Af4 (x:=x) hy
 generalize mkF x y=m at *
 generalize Qr x y=g at *
 refine Int.eq_of_mul_eq_mul_left hg ?_
 rw [<- Int.mul_assoc,h1,<- h,<- Int.mul_assoc,Int.mul_comm g,Int.mul_assoc,h2]
theorem mkF_id {p:Fr} (hp:Red p):mkF p.1 p.2=p:=mkF_eq hp (by have:=hp.1;omega) rfl
theorem mkF_one (n:Int):mkF n 1=(n,1):=mkF_eq (p:=(n,1)) ⟨by omega,by simp⟩ (by omega) rfl
theorem mkF_le1 {x y:Int} (hy:y≠0):(mkF x y).1.natAbs<=x.natAbs:=by
 have h1:=congrArg Int.natAbs (mkF_l x y)
 have hp:=K8 (x:=x) hy
 rw [Int.natAbs_mul,Hs] at h1
 rw [<- h1];exact Nat.le_mul_of_pos_left _ hp
theorem mkF_le2 {x y:Int} (hy:y≠0):(mkF x y).2.natAbs<=y.natAbs:=by
 have h1:=congrArg Int.natAbs (mkF_r x y)
 have hp:=K8 (x:=x) hy
 rw [Int.natAbs_mul,Hs] at h1
 rw [<- h1];exact Nat.le_mul_of_pos_left _ hp
theorem dv_mul {g m:Int} (hg:g≠0):dQ (g*m) g=m/\dR (g*m) g=0:=by
 have h1:(g*m).natAbs / g.natAbs=m.natAbs:=by rw [Int.natAbs_mul,Nat.mul_div_cancel_left _ (by omega)]
 have h2:(g*m).natAbs % g.natAbs=0:=by rw [Int.natAbs_mul,Nat.mul_mod_right]
 refine ⟨?_,by unfold dR;rw [h2];split<;>rfl⟩
 unfold dQ
 rw [h1]
 rcases Int.lt_trichotomy m 0 with h|h|h
 ·rcases Int.lt_or_gt_of_ne hg with h3|h3
  ·have h4:=Int.mul_pos_of_neg_of_neg h3 h
   have h5:¬ g*m<0:=Int.not_lt.2 (Int.le_of_lt h4)
   rw [decide_eq_false h5,decide_eq_true h3,if_pos (by rfl)];omega
  ·have h4:=Int.mul_neg_of_pos_of_neg h3 h
   have h5:¬ g<0:=by omega
   rw [decide_eq_true h4,decide_eq_false h5,if_pos (by rfl)];omega
 ·subst h;split<;>rfl
 ·rcases Int.lt_or_gt_of_ne hg with h3|h3
  ·have h4:=Int.mul_neg_of_neg_of_pos h3 h
   rw [decide_eq_true h4,decide_eq_true h3,if_neg (by decide)];omega
  ·have h4:=Int.mul_pos h3 h
   have h5:¬ g*m<0:=Int.not_lt.2 (Int.le_of_lt h4)
   have h6:¬ g<0:=by omega
   rw [decide_eq_false h5,decide_eq_false h6,if_neg (by decide)];omega
theorem div_is {g m x:Int} (hg:g≠0) (hx:g*m=x) (hxl:(Al x.natAbs).length<=100000) (hgl:(Al g.natAbs).length<=100000):Aea x g m 0:=by
 subst hx
 have h:=wdiv_do (g*m) g hg hxl hgl
 obtain ⟨h1,h2⟩:=dv_mul (m:=m) hg
 have h3:dF (g*m) g=false:=by unfold dF;rw [h2];rfl
 rw [h3,if_neg (by simp),if_neg (by simp),h1,h2] at h
 exact h
theorem Agq (x y:Int) (hy:y≠0) (hxl:(Al x.natAbs).length<=100000) (hyl:(Al y.natAbs).length<=100000):My x y (mkF x y).1 (mkF x y).2:=by
 have h1:=mkF_l x y
 have h2:=mkF_r x y
 have hg:=Af4 (x:=x) hy
 have hgl:(Al (Qr x y).natAbs).length<=100000:=Nat.le_trans (Hw (by rw [Hs];exact Nat.gcd_le_right _ (by omega))) hyl
 refine make_of x y _ _ 0 0 hxl hyl hy (fun e=>?_) (fun _=>div_is hg h1 hxl hgl) (fun _=>div_is hg h2 hyl hgl)
 rw [e,Int.one_mul] at h1 h2
 exact ⟨h1,h2⟩
def Lim (k n:Nat):Prop:=n<1000000000 ^ k
theorem Lim.mul {j k a b:Nat} (h1:Lim j a) (h2:Lim k b):Lim (j+k) (a*b):=by
 unfold Lim at *
 rw [Nat.pow_add]
 exact Nat.mul_lt_mul'' h1 h2
theorem Lim.mono {j k a:Nat} (h:Lim j a) (hk:j<=k):Lim k a:=Nat.lt_of_lt_of_le h (Nat.pow_le_pow_right (by decide) hk)
theorem Lim.le {k a b:Nat} (h:Lim k b) (hab:a<=b):Lim k a:=Nat.lt_of_le_of_lt hab h
theorem Lim.add {k a b:Nat} (h1:Lim k a) (h2:Lim k b):Lim (k+1) (a+b):=by
 unfold Lim at *
 rw [Nat.pow_succ];omega
theorem Lim.len {k a:Nat} (h:Lim k a):(Al a).length<=k:=Jf h
structure Fit (k:Nat) (p:Fr):Prop where
 red:Red p
 num:Lim k p.1.natAbs
 den:Lim k p.2.natAbs
theorem Fit.mono {j k:Nat} {p:Fr} (h:Fit j p) (hk:j<=k):Fit k p:=⟨h.red,h.num.mono hk,h.den.mono hk⟩
theorem Afs {k:Nat} {x y:Int} (hy:y≠0) (h1:Lim k x.natAbs) (h2:Lim k y.natAbs):Fit k (mkF x y):=⟨Agp hy,h1.le (mkF_le1 hy),h2.le (mkF_le2 hy)⟩
def addF (p q:Fr):Fr:=mkF (p.1*q.2+q.1*p.2) (p.2*q.2)
def subF (p q:Fr):Fr:=mkF (p.1*q.2 + -q.1*p.2) (p.2*q.2)
def mulF (p q:Fr):Fr:=mkF (p.1*q.1) (p.2*q.2)
def divF (p q:Fr):Fr:=mkF (p.1*q.2) (p.2*q.1)
def Yt (p:Fr):Fr:=(-p.1,p.2)
def cmpF (p q:Fr):Int:=Cp (p.1*q.2) (q.1*p.2)
@[reducible] def fcP (p:Fr):PV:=J6 p.1 p.2
section
variable {j k:Nat} {p q:Fr}
theorem Bn {x y:Int} (h1:Lim j x.natAbs) (h2:Lim k y.natAbs):Lim (j+k) (x*y).natAbs:=by rw [Int.natAbs_mul];exact h1.mul h2
theorem Yo {x y:Int} (h1:Lim k x.natAbs) (h2:Lim k y.natAbs):Lim (k+1) (x+y).natAbs:=(h1.add h2).le (Int.natAbs_add_le _ _)
theorem Ux {x y:Int} (h1:0<x) (h2:0<y):x*y≠0:=by have:=Int.mul_pos h1 h2;omega
theorem Yi (hp:Fit j p):Fit j (Yt p):=⟨⟨hp.red.1,by unfold Yt;rw [Int.natAbs_neg];exact hp.red.2⟩,by unfold Yt;rw [Int.natAbs_neg];exact hp.num,hp.den⟩
theorem sub_neg:subF p q=addF p (Yt q):=rfl
theorem Yh (hp:Fit j p) (hq:Fit k q):Fit (j+k+1) (addF p q) :=
 Afs (Ux hp.red.1 hq.red.1) (Yo (Bn hp.num hq.den) ((Bn hq.num hp.den).mono (by omega))) ((Bn hp.den hq.den).mono (by omega))
theorem Afu (hp:Fit j p) (hq:Fit k q):Fit (j+k+1) (subF p q):=by rw [sub_neg];exact Yh hp (Yi hq)
theorem Aft (hp:Fit j p) (hq:Fit k q):Fit (j+k) (mulF p q):=Afs (Ux hp.red.1 hq.red.1) (Bn hp.num hq.num) (Bn hp.den hq.den)
theorem Afr (hp:Fit j p) (hq:Fit k q) (h0:q.1≠0):Fit (j+k) (divF p q):=Afs (by have:=hp.red.1;exact Int.mul_ne_zero (by omega) h0) (Bn hp.num hq.den) (Bn hp.den hq.num)
theorem Afn (hp:Fit j p) (hq:Fit k q) (hj:j<=1000) (hk:k<=1000):Am 44 [fcP p,fcP q] ⟨[],[]⟩ (.ret (fcP (addF p q))) ⟨[],[]⟩:=by
 have l1:=hp.num.len
 have l2:=hp.den.len
 have l3:=hq.num.len
 have l4:=hq.den.len
 have l5:=(Bn hp.num hq.den).len
 have l6:=(Bn hq.num hp.den).len
 refine Ags p.1 p.2 q.1 q.2 _ _ (by omega) (by omega) (by omega) (by omega) (by omega) (by omega) (Agq _ _ (Ux hp.red.1 hq.red.1) ?_ ?_)
 ·have:=(Yo (Bn hp.num hq.den) ((Bn hq.num hp.den).mono (show k+j<=j+k by omega))).len;omega
 ·have:=(Bn hp.den hq.den).len;omega
theorem fneg_do (p:Fr):Am 60 [fcP p] ⟨[],[]⟩ (.ret (fcP (Yt p))) ⟨[],[]⟩:=Ag2 p.1 p.2
theorem Af1 (hp:Fit j p) (hq:Fit k q) (hj:j<=1000) (hk:k<=1000):Am 43 [fcP p,fcP q] ⟨[],[]⟩ (.ret (fcP (subF p q))) ⟨[],[]⟩:=by
 have hq':=Yi hq
 have l1:=hp.num.len
 have l2:=hp.den.len
 have l3:=hq.num.len
 have l4:=hq.den.len
 have l5:=(Bn hp.num hq.den).len
 have l6:=(Bn hq'.num hp.den).len
 refine nsub_of p.1 p.2 q.1 q.2 _ _ (by omega) (by omega) (by omega) (by omega) (by omega) (by show (Al (-q.1*p.2).natAbs).length<=_;exact Nat.le_trans l6 (by omega)) (Agq _ _ (Ux hp.red.1 hq.red.1) ?_ ?_)
 ·have:=(Yo (Bn hp.num hq.den) ((Bn hq'.num hp.den).mono (show k+j<=j+k by omega))).len;exact Nat.le_trans this (by omega)
 ·have:=(Bn hp.den hq.den).len;omega
theorem Afw (hp:Fit j p) (hq:Fit k q) (hj:j<=1000) (hk:k<=1000):Am 45 [fcP p,fcP q] ⟨[],[]⟩ (.ret (fcP (mulF p q))) ⟨[],[]⟩:=by
 have l1:=hp.num.len
 have l2:=hp.den.len
 have l3:=hq.num.len
 have l4:=hq.den.len
 refine nmul_of p.1 p.2 q.1 q.2 _ _ (by omega) (by omega) (by omega) (by omega) (Agq _ _ (Ux hp.red.1 hq.red.1) ?_ ?_)
 ·have:=(Bn hp.num hq.num).len;omega
 ·have:=(Bn hp.den hq.den).len;omega
theorem Afq (hp:Fit j p) (hq:Fit k q) (h0:q.1≠0) (hj:j<=1000) (hk:k<=1000):Am 50 [fcP p,fcP q] ⟨[],[]⟩ (.ret (fcP (divF p q))) ⟨[],[]⟩:=by
 have l1:=hp.num.len
 have l2:=hp.den.len
 have l3:=hq.num.len
 have l4:=hq.den.len
 refine ndiv_of p.1 p.2 q.1 q.2 _ _ (by omega) (by omega) (by omega) (by omega) (Agq _ _ (by have:=hp.red.1;exact Int.mul_ne_zero (by omega) h0) ?_ ?_)
 ·have:=(Bn hp.num hq.den).len;omega
 ·have:=(Bn hp.den hq.num).len;omega
theorem Afp (hp:Fit j p) (hq:Fit k q) (hj:j<=1000) (hk:k<=1000):Am 53 [fcP p,fcP q] ⟨[],[]⟩ (.ret (Ah (cmpF p q))) ⟨[],[]⟩:=by
 have l1:=hp.num.len
 have l2:=hp.den.len
 have l3:=hq.num.len
 have l4:=hq.den.len
 have l5:=(Bn hp.num hq.den).len
 have l6:=(Bn hq.num hp.den).len
 exact ncmp_do p.1 p.2 q.1 q.2 (by omega) (by omega) (by omega) (by omega) (by omega) (by omega)
theorem Oq (n:Int) (h:n.natAbs<1000000000):Fit 1 (n,1):=⟨⟨by omega,by simp⟩,by unfold Lim;simpa using h,by unfold Lim;simp⟩
theorem fof_do (n:Int) (h:n.natAbs<1000000000):Am 58 [Ah n,Ah 1] ⟨[],[]⟩ (.ret (fcP (n,1))) ⟨[],[]⟩:=by
 have hm:=Agq n 1 (by omega) (by have:=(Oq n h).num.len;exact Nat.le_trans this (by decide)) (by have:=(Oq n h).den.len;exact Nat.le_trans this (by decide))
 rw [mkF_one] at hm
 exact nof_of n 1 n 1 (by omega) (by omega) hm
end
def e1:Ex := .mk 1 1 ⟨#[]⟩ []
def e2:Ex := .mk 1 2 ⟨#[]⟩ []
def e3:Ex := .mk 1 3 ⟨#[]⟩ []
def e0:Ex := .mk 1 0 ⟨#[]⟩ []
def eX:Ex := .mk 2 0 ⟨#[120]⟩ []
def eY:Ex := .mk 2 0 ⟨#[121]⟩ []
def eT:Ex := .mk 3 0 ⟨#[]⟩ []
def eF:Ex := .mk 4 0 ⟨#[]⟩ []
def nd (op:Int) (l:List Ex):Ex := .mk op 0 ⟨#[]⟩ l
def txt1:ByteArray:=⟨#[49,32,43,32,50,32,42,32,120,32,45,32,51]⟩
def txt2:ByteArray:=⟨#[49,32,60,32,120,32,60,32,50]⟩
def txt3:ByteArray:=⟨#[40,32,49,32,43,32,41]⟩
def txt4:ByteArray:=⟨#[49,32,43,32,45,32,50]⟩
def txt5:ByteArray:=⟨#[110,111,116,32,49]⟩
def txt6:ByteArray:=⟨#[111,114]⟩
def tl1:List TkZ:=[(3,⟨#[49]⟩,0),(4,⟨#[43]⟩,2),(3,⟨#[50]⟩,4),(4,⟨#[42]⟩,6),(1,⟨#[120]⟩,8),(4,⟨#[45]⟩,10),(3,⟨#[51]⟩,12)]
def tl2:List TkZ:=[(3,⟨#[49]⟩,0),(4,⟨#[60]⟩,2),(1,⟨#[120]⟩,4),(4,⟨#[60]⟩,6),(3,⟨#[50]⟩,8)]
def tl3:List TkZ:=[(4,⟨#[40]⟩,0),(3,⟨#[49]⟩,2),(4,⟨#[43]⟩,4),(4,⟨#[41]⟩,6)]
def tl4:List TkZ:=[(3,⟨#[49]⟩,0),(4,⟨#[43]⟩,2),(4,⟨#[45]⟩,4),(3,⟨#[50]⟩,6)]
def tl5:List TkZ:=[(2,⟨#[110,111,116]⟩,0),(3,⟨#[49]⟩,4)]
def tl6:List TkZ:=[(2,⟨#[111,114]⟩,0)]
mutual
def Rb:Ex->Bool
 |.mk _ _ s l=>Nat.ble s.size 9223372036854775807&&Tj l
def Tj:List Ex->Bool
 |[]=>true
 |x::l=>Rb x&&Tj l
end
mutual
theorem C4:∀ {x:Ex},Rb x=true->x.small
 |.mk _ _ s l,h=>by
  simp only [Rb,Bool.and_eq_true] at h
  exact ⟨Nat.le_of_ble_eq_true h.1,Rc h.2⟩
theorem Rc:∀ {l:List Ex},Tj l=true->W7 l
 |[],_=>trivial
 |x::l,h=>by
  simp only [Tj,Bool.and_eq_true] at h
  exact ⟨C4 h.1,Rc h.2⟩
end
theorem reads1:Am 36 [Bf txt1,exP (nd 8 [nd 7 [e1,nd 9 [e2,eX]],e3]),Ah 7] ⟨[],[]⟩ (.ret (An true)) ⟨[],[]⟩ :=
 Ll tl1 _ (by decide +kernel) (by decide +kernel) (by decide +kernel) (by decide +kernel) (by kernel_rfl) (C4 (by decide +kernel)) (by decide +kernel) (by decide +kernel)
theorem reads2:Am 36 [Bf txt2,exP (nd 13 [e1,eX]),Ah 3] ⟨[],[]⟩ (.ret (An true)) ⟨[],[]⟩ :=
 Ll tl2 _ (by decide +kernel) (by decide +kernel) (by decide +kernel) (by decide +kernel) (by kernel_rfl) (C4 (by decide +kernel)) (by decide +kernel) (by decide +kernel)
theorem reads4:Am 36 [Bf txt4,exP (nd 7 [e1,nd 5 [e2]]),Ah 4] ⟨[],[]⟩ (.ret (An true)) ⟨[],[]⟩ :=
 Ll tl4 _ (by decide +kernel) (by decide +kernel) (by decide +kernel) (by decide +kernel) (by kernel_rfl) (C4 (by decide +kernel)) (by decide +kernel) (by decide +kernel)
theorem reads5:Am 36 [Bf txt5,exP (nd 6 [e1]),Ah 2] ⟨[],[]⟩ (.ret (An true)) ⟨[],[]⟩ :=
 Ll tl5 _ (by decide +kernel) (by decide +kernel) (by decide +kernel) (by decide +kernel) (by kernel_rfl) (C4 (by decide +kernel)) (by decide +kernel) (by decide +kernel)
theorem fails3:Am 37 [Bf txt3,Ah 3,Ah 350] ⟨[],[]⟩ (.ret (An true)) ⟨[],[]⟩ :=
 U6 tl3 (by decide +kernel) (by decide +kernel) (by decide +kernel) (by decide +kernel) (by kernel_rfl)
theorem fails6:Am 37 [Bf txt6,Ah 0,Ah 350] ⟨[],[]⟩ (.ret (An true)) ⟨[],[]⟩ :=
 U6 tl6 (by decide +kernel) (by decide +kernel) (by decide +kernel) (by decide +kernel) (by kernel_rfl)
theorem tab_of {K:Kx} {w:World} {name:String} (h:Tryz.prog.globalNamed name=some 1) (hf:Fz K w):Lib.TabIs Tryz.prog w name .u64 Lib.pow10Tab:=by
 obtain ⟨⟨ty,r,h1⟩,_⟩:=hf _ (List.mem_singleton.2 rfl)
 unfold Lib.TabIs World.var?
 rw [h]
 simp only [Option.bind_some]
 dsimp only at h1
 rw [h1]
theorem Aga (n:Int) (h0 : -9223372036854775808<=n) (h1:n<=9223372036854775807):Am 91 [.d (.v (.int .i64 n))] ⟨[],[]⟩ (.ret (.d (.v (.string ⟨(Lib.itoa n).toArray⟩)))) ⟨[],[]⟩:=by
 refine G4 Tryz.func91 rfl rfl rfl fun K w vs hf hA=>?_
 simp only [Ao,Rep,Ci] at hA
 obtain ⟨u,us,rfl,hr,rfl⟩:=hA
 rw [hr.1]
 refine (Tryz.strconv_Itoa n h0 h1 w (tab_of (by kernel_rfl) hf)).mono ?_
 rintro e w' ⟨rfl,k,os,rfl⟩
 exact ⟨rfl,⟨rfl,rfl,rfl,by show w.heap.size<=(w.heap++os).size;rw [Array.size_append];omega,fun j hj=>by show (w.heap++os)[j]? = _;rw [Array.getElem?_append_left hj]⟩⟩
def Cw (n:Int):ByteArray:=⟨(Lib.itoa n).toArray⟩
theorem Nw (n:Nat):Lib.itoa (n:Int)=Lib.decDigits n:=by
 unfold Lib.itoa;rw [if_neg (by omega)];rfl
theorem Fl:∀ (k u:Nat),u<10 ^ (k+1)->(Lib.decDigits u).length<=k+1
 |0,u,h=>by rw [Lib.decDigits,dif_pos (by simpa using h)];simp
 |k+1,u,h=>by
  rw [Lib.decDigits]
  split
  ·simp
  ·have:=Fl k (u / 10) (by rw [Nat.pow_succ] at h;omega)
   simp;omega
theorem Ae6 {n:Nat} (h:n<=9223372036854775807):(Cw n).size<=19:=by
 unfold Cw;rw [Nw]
 exact Fl 18 n (by omega)
def sIf:ByteArray:=⟨#[105,102,32]⟩
def Y6:ByteArray:=⟨#[32,116,104,101,110,32]⟩
def sElse:ByteArray:=⟨#[32,101,108,115,101,32]⟩
def sSp:ByteArray:=⟨#[32]⟩
def sOpen:ByteArray:=⟨#[40,32]⟩
def sShut:ByteArray:=⟨#[32,41]⟩
def sTrue:ByteArray:=⟨#[116,114,117,101]⟩
def sFalse:ByteArray:=⟨#[102,97,108,115,101]⟩
def Gj (p:ByteArray×Int) (least:Int):ByteArray:=if p.2<least then (sOpen++p.1)++sShut else p.1
def P5 (o n:Int) (s:ByteArray) (l:List (ByteArray×Int)):ByteArray :=
 if o=1 then Cw n else if o=2 then s else if o=3 then sTrue else if o=4 then sFalse else
 match l with
 |[a,b,c]=>if o=19 then ((((sIf++a.1)++Y6)++b.1)++sElse)++c.1 else ⟨#[]⟩
 |[a]=>(Ew o++sSp)++Gj a (Be o)
 |[a,b]=>if Be o=4 then (((Gj a 5++sSp)++Ew o)++sSp)++Gj b 5 else (((Gj a (Be o)++sSp)++Ew o)++sSp)++Gj b (Be o+1)
 |_=>⟨#[]⟩
mutual
def A0:Ex->ByteArray
 |.mk o n s l=>P5 o n s (Kr l)
def Kr:List Ex->List (ByteArray×Int)
 |[]=>[]
 |.mk o n s l::r=>(A0 (.mk o n s l),Be o)::Kr r
end
theorem Aev (x:Ex):A0 x=P5 x.op x.n x.name (Kr x.args):=by cases x;rw [A0];rfl
theorem G1:∀ l:List Ex,Kr l=l.map fun x=>(A0 x,Be x.op)
 |[]=>rfl
 |.mk o n s l::r=>by rw [Kr,G1 r];rfl
mutual
def wtX:Ex->Nat
 |.mk _ _ s l=>40+s.size+wtL l
def wtL:List Ex->Nat
 |[]=>0
 |x::r=>wtX x+wtL r
end
mutual
def Ex.fine:Ex->Bool
 |.mk o n _ l=>decide ((l.length:Int)=Dq o)&&decide (0<=n)&&decide (n<=9999)&&Rw l
def Rw:List Ex->Bool
 |[]=>true
 |x::l=>x.fine&&Rw l
end
theorem Oo {x:Ex} (h:x.fine=true):(x.args.length:Int)=Dq x.op/\0<=x.n/\x.n<=9999/\Rw x.args=true:=by
 cases x;simp only [Ex.fine,Bool.and_eq_true,decide_eq_true_eq] at h;exact ⟨h.1.1.1,h.1.1.2,h.1.2,h.2⟩
theorem U7:∀ {l:List Ex},Rw l=true->∀ x∈l,x.fine=true
 |y::l,h,x,hx=>by
  simp only [Rw,Bool.and_eq_true] at h
  rcases List.mem_cons.1 hx with rfl|hx
  ·exact h.1
  ·exact U7 h.2 x hx
theorem size_ite {c:Prop} [Decidable c] {a b:ByteArray} {k:Nat} (ha:a.size<=k) (hb:b.size<=k):(if c then a else b).size<=k:=by split<;>assumption
theorem Adh (o:Int):(Ew o).size<=3:=by
 unfold Ew
 repeat' apply size_ite
 all_goals exact Nat.le_of_ble_eq_true rfl
theorem C6 (p:ByteArray×Int) (k:Int):(Gj p k).size<=p.1.size+4:=by
 unfold Gj
 split
 ·simp only [ByteArray.size_append];show 2+_+2<=_;omega
 ·omega
theorem Ae5 {n:Int} (h0:0<=n) (h1:n<=9999):(Cw n).size<=19:=by
 obtain ⟨m,rfl⟩:=Int.eq_ofNat_of_zero_le h0
 exact Ae6 (by omega)
theorem Acn {o n:Int} {s:ByteArray} {l:List (ByteArray×Int)} (h0:0<=n) (h1:n<=9999):(P5 o n s l).size<=36+s.size+(l.map fun p=>p.1.size+4).sum:=by
 have hs:=Adh o
 unfold P5
 split
 ·have:=Ae5 h0 h1;omega
 split
 ·omega
 split
 ·show 4<=_;omega
 split
 ·show 5<=_;omega
 split
 ·rename_i a b c
  split
  ·simp only [ByteArray.size_append,List.map_cons,List.map_nil,List.sum_cons,List.sum_nil];show 3+_+6+_+6+_<=_;omega
  ·show 0<=_;omega
 ·rename_i a
  have:=C6 a (Be o)
  simp only [ByteArray.size_append,List.map_cons,List.map_nil,List.sum_cons,List.sum_nil];show _+1+_<=_;omega
 ·rename_i a b
  split
  ·have:=C6 a 5
   have:=C6 b 5
   simp only [ByteArray.size_append,List.map_cons,List.map_nil,List.sum_cons,List.sum_nil];show _+1+_+1+_<=_;omega
  ·have:=C6 a (Be o)
   have:=C6 b (Be o+1)
   simp only [ByteArray.size_append,List.map_cons,List.map_nil,List.sum_cons,List.sum_nil];show _+1+_+1+_<=_;omega
 ·show 0<=_;omega
mutual
theorem Kb:∀ x:Ex,x.fine=true->(A0 x).size+4<=wtX x
 |.mk o n s l,h=>by
  have h':=Oo h
  rw [A0,wtX]
  have h1:=Acn (o:=o) (n:=n) (s:=s) (l:=Kr l) h'.2.1 h'.2.2.1
  have h2:=Oh l h'.2.2.2
  omega
theorem Oh:∀ l:List Ex,Rw l=true->((Kr l).map fun p=>p.1.size+4).sum<=wtL l
 |[],_=>by simp [Kr,wtL]
 |.mk o n s a::r,h=>by
  simp only [Rw,Bool.and_eq_true] at h
  have h1:=Kb (.mk o n s a) h.1
  have h2:=Oh r h.2
  rw [Kr,wtL]
  simp only [List.map_cons,List.sum_cons]
  omega
end
theorem Ag3 (op:Int) (l:List Ex):Am 15 [Ah op,.d (.sl 4 (Ij l))] ⟨[],[]⟩ (.ret (exP (.mk op 0 ⟨#[]⟩ l))) ⟨[],[]⟩:=by
 refine Ad Tryz.func15 rfl rfl (Nat.le_of_ble_eq_true rfl) rfl (Nat.le_refl _) ?_
 repeat' (first|refine rl0 ?_|refine rs0 ?_ ?_<;>intro h|fail)
 rfl
abbrev If:=Nat×List PV×POut
def If.holds (e:If):Prop:=Am e.1 e.2.1 ⟨[],[]⟩ e.2.2 ⟨[],[]⟩
def normA:PV->PV
 |.d (.v (.slice none 0 0)) => .d (.sl 1 [])
 |p=>normX p
theorem Ag4 (S:PS) (p:PV):Coe S p (normA p):=by
 unfold normA
 split
 ·exact Fg
 ·exact V7 S _
theorem Q0 (S:PS):∀ l:List PV,Ga S l (l.map normA)
 |[]=>Ae
 |p::r=>Ab (Ag4 S p) (Q0 S r)
def eqPA:PV->PV->Bool
 |.agg l,.agg l'=>eqPs l l'
 |p,q=>eqP p q
theorem eqPA_ok {p q:PV} (h:eqPA p q=true):p=q:=by
 unfold eqPA at h
 split at h
 ·rw [Yf h]
 ·exact eqP_ok h
def Ye:List PV->List PV->Bool
 |[],[]=>true
 |c::r,c'::r'=>eqPA c c'&&Ye r r'
 |_,_=>false
theorem Z6:∀ {l l':List PV},Ye l l'=true->l=l'
 |[],[],_=>rfl
 |c::r,c'::r',h=>by
  simp only [Ye,Bool.and_eq_true] at h
  rw [eqPA_ok h.1,Z6 h.2]
 |[],_::_,h=>by simp [Ye] at h
 |_::_,[],h=>by simp [Ye] at h
def findT (f:Nat) (args:List PV):List If->Option POut
 |[]=>none
 |e::r=>bif Nat.beq e.1 f&&Ye e.2.1 args then some e.2.2 else findT f args r
def orcT (T:List If) (f:Nat) (args:List PV) (S:PS):Option (POut×PS):=match S with
 |⟨[],[]⟩=>match findT f (args.map normA) T with
  |some o=>some (o,⟨[],[]⟩)
  |none=>none
 |_=>none
theorem Acj {f:Nat} {args args':List PV} {S S':PS} {out:POut} (h:Am f args' S out S') (hc:Ga S args args'):Am f args S out S' :=
 ⟨h.1,fun K w vs hI hA=>h.2 K w vs hI (Ga.rep hI hc hA)⟩
theorem Aab {f:Nat} {args:List PV} {o:POut}:∀ {T:List If},(∀ e∈T,If.holds e)->findT f args T=some o->Am f args ⟨[],[]⟩ o ⟨[],[]⟩
 |[],_,h=>by cases h
 |e::r,hT,h=>by
  unfold findT at h
  cases hb:(Nat.beq e.1 f&&Ye e.2.1 args) with
  |true =>
   rw [hb] at h
   simp only [Bool.and_eq_true] at hb
   simp only [cond_true,Option.some.injEq] at h
   have:=hT e List.mem_cons_self
   unfold If.holds at this
   rw [Nat.eq_of_beq_eq_true hb.1,Z6 hb.2,h] at this
   exact this
  |false =>
   rw [hb] at h
   exact Aab (fun e he=>hT e (List.mem_cons_of_mem _ he)) h
theorem orcT_ok {T:List If} (hT:∀ e∈T,If.holds e):Pz (orcT T):=by
 intro f args S out S' h
 unfold orcT at h
 split at h
 ·split at h
  ·rename_i o ho
   cases h
   exact Acj (Aab hT ho) (Q0 _ _)
  ·cases h
 ·cases h
theorem Afm:∀ e∈([]:List If),If.holds e:=fun _ h=>by cases h
theorem A3 {e:If} {T:List If} (h:e.holds) (h':∀ e∈T,If.holds e):∀ x∈e::T,If.holds x:=fun x hx=>by
 rcases List.mem_cons.1 hx with rfl|hx
 ·exact h
 ·exact h' x hx
theorem Rx {x y:Ex} (h:x.fine=true) (hy:y∈x.args):y.fine=true:=U7 (Oo h).2.2.2 y hy
theorem wt_mem:∀ {l:List Ex} {y:Ex},y∈l->wtX y<=wtL l
 |x::l,y,h=>by
  rw [wtL]
  rcases List.mem_cons.1 h with rfl|h
  ·omega
  ·have:=wt_mem h;omega
theorem wt_eq (x:Ex):wtX x=40+x.name.size+wtL x.args:=by cases x;rw [wtX];rfl
theorem one_arg {x:Ex} (h:(x.args.length:Int)=1):∃ a,x.args=[a]:=by
 match e:x.args,h with
 |[a],_=>exact ⟨a,rfl⟩
 |[],h=>simp at h
 |_::_::_,h=>simp at h;omega
theorem Abv {x:Ex} (h:(x.args.length:Int)=2):∃ a b,x.args=[a,b]:=by
 match e:x.args,h with
 |[a,b],_=>exact ⟨a,b,rfl⟩
 |[],h=>simp at h
 |[_],h=>simp at h
 |_::_::_::_,h=>simp at h;omega
theorem R8 {o n : Int} {s : ByteArray} {l : List (ByteArray × Int)} (h : 5 <= o /\ o <= 18) : P5 o n s l = match l with
    | [_, _, _] => ⟨#[]⟩
    | [a] => (Ew o ++ sSp) ++ Gj a (Be o)
    | [a, b] => if Be o = 4 then (((Gj a 5 ++ sSp) ++ Ew o) ++ sSp) ++ Gj b 5 else (((Gj a (Be o) ++ sSp) ++ Ew o) ++ sSp) ++ Gj b (Be o + 1)
    | _ => ⟨#[]⟩ := by
  unfold P5
  rw [if_neg (by omega), if_neg (by omega), if_neg (by omega), if_neg (by omega)]
  split
  . rw [if_neg (by omega)]
  . rfl
  . rfl
  . rename_i h1 h2 h3
    first
      | rfl
      | (split
         . exact absurd rfl (h1 _ _ _)
         . exact absurd rfl (h2 _)
         . exact absurd rfl (h3 _ _)
         . rfl)
theorem opZ_all {op:Int} (h1:1<=op) (h2:op<=19):(opZ op).1=Dq op/\(opZ op).2.2.2.1=Be op/\(5<=op->op<=18->(opZ op).2.2.2.2=Ew op)/\(op=3->(opZ op).2.2.2.2=sTrue)/\(op=4->(opZ op).2.2.2.2=sFalse):=by
 rcases Kh h1 h2 with rfl|rfl|rfl|rfl|rfl|rfl|rfl|rfl|rfl|rfl|rfl|rfl|rfl|rfl|rfl|rfl|rfl|rfl|rfl<;>exact ⟨rfl,rfl,fun _ _=>by first|rfl|omega,fun h=>by first|rfl|omega,fun h=>by first|rfl|omega⟩
theorem ar_lv {op:Int} (h1:1<=op) (h2:op<=19):0<=Be op/\Be op<=8/\((op=1\/op=2\/op=3\/op=4)/\Dq op=0/\Be op=8\/op=19/\Dq op=3\/5<=op/\op<=18/\(Dq op=1/\Be op≠4\/Dq op=2)):=by
 rcases Kh h1 h2 with rfl|rfl|rfl|rfl|rfl|rfl|rfl|rfl|rfl|rfl|rfl|rfl|rfl|rfl|rfl|rfl|rfl|rfl|rfl<;>decide
theorem sg_size {op:Int} (h1:1<=op) (h2:op<=19):(opZ op).2.2.2.2.size<=5:=by
 rcases Kh h1 h2 with rfl|rfl|rfl|rfl|rfl|rfl|rfl|rfl|rfl|rfl|rfl|rfl|rfl|rfl|rfl|rfl|rfl|rfl|rfl<;>exact Nat.le_of_ble_eq_true rfl
set_option maxHeartbeats 4000000 in
theorem text_do:∀ (n:Nat) (x:Ex),x.hgt<=n->x.fine=true->wtX x<=1000000->∀ k:Int,0<=k->k<=9->Am 108 [exP x,Ah k] ⟨[],[]⟩ (.ret (Bf (Gj (A0 x,Be x.op) k))) ⟨[],[]⟩:=by
 intro n
 induction n with
 |zero=>intro a h;cases a;simp [Ex.hgt] at h
 |succ n ih =>
  intro x hn hx hw k hk0 hk9
  have hf:=Oo hx
  have hc:=Aev x
  have hsz:=Kb x hx
  have hsub:∀ y∈x.args,(∀ k:Int,0<=k->k<=9->Am 108 [exP y,Ah k] ⟨[],[]⟩ (.ret (Bf (Gj (A0 y,Be y.op) k))) ⟨[],[]⟩)/\(A0 y).size+4<=wtX y:=fun y hy =>
   ⟨ih y (by have:=Gc hy;omega) (Rx hx hy) (by have:=wt_mem hy;have:=wt_eq x;omega),Kb y (Rx hx hy)⟩
  have hwx:=wt_eq x
  have hop:1<=x.op/\x.op<=19:=by
   have:=hf.1
   unfold Dq at this
   repeat' split at this
   all_goals omega
  have hkd:=Sa x.op
  have hall:=opZ_all hop.1 hop.2
  have hcs:=ar_lv hop.1 hop.2
  have hss:=sg_size hop.1 hop.2
  rw [show E7 x.op=true from by simp [E7,hop],cond_true] at hkd
  obtain ⟨z,hz⟩:∃ z,opZ x.op=z:=⟨_,rfl⟩
  rw [hz] at hall hss hkd
  obtain ⟨ar,wa,is,lv,sg⟩:=z
  simp only at hall hss
  obtain ⟨rfl,rfl,h5,h3,h4⟩:=hall
  refine Ad Tryz.func108 rfl rfl (Nat.le_of_ble_eq_true rfl) rfl (Nat.le_refl _) ?_
  repeat' (first|refine rl4 ?_|refine rs4 ?_ ?_<;>intro h|fail)
  refine E2 hkd rfl rfl rfl rfl rfl (by repeat (first|exact Ae|refine Ab (Ac _) ?_)) ?_
  repeat' (first|refine rl4 ?_|refine rs4 ?_ ?_<;>intro h|fail)
  refine Wt (ι := Unit) (fun _=>True) (fun _=>[(1,Ah k),(5,.ptr 1 0),(7,Bf (A0 x))]) (fun _=>⟨[(exP x).parts,opP (Dq x.op,wa,is,Be x.op,sg)],[]⟩) ?_ (fun _ _=>?_)
  ·repeat' (first|refine rl0 ?_|refine rs0 ?_ ?_<;>intro h|fail)
   ·have ho:x.op=1:=by simpa using h
    refine E2 (Aga x.n (by omega) (by omega)) rfl rfl rfl rfl rfl (by repeat (first|exact Ae|refine Ab (Ac _) ?_)) ?_
    repeat' (first|refine rl0 ?_|refine rs0 ?_ ?_<;>intro h|fail)
    refine ⟨(),trivial,Aa rfl (Aa rfl (Aa (show PV.d (.v (.string _))=_ from ?_) Ag)),rfl⟩
    rw [hc];unfold P5;rw [if_pos ho];rfl
   ·have ho:x.op=2:=by simpa using h
    refine ⟨(),trivial,Aa rfl (Aa rfl (Aa (show PV.d (.v (.string _))=_ from ?_) Ag)),rfl⟩
    rw [hc];unfold P5;rw [if_neg (by omega),if_pos ho]
   ·have ho:x.op=19:=by simpa using h
    obtain ⟨a,b,c,he⟩:∃ a b c,x.args=[a,b,c]:=by
     have:=hf.1
     rw [ho,show Dq 19=3 from rfl] at this
     match e:x.args,this with
     |[a,b,c],_=>exact ⟨a,b,c,rfl⟩
     |[],h=>simp at h
     |[_],h=>simp at h
     |[_,_],h=>simp at h
     |_::_::_::_::_,h=>simp at h;omega
    have ha:=hsub a (by rw [he];simp)
    have hb:=hsub b (by rw [he];simp)
    have hcc:=hsub c (by rw [he];simp)
    have hwl:wtL x.args=wtX a+(wtX b+(wtX c+0)):=by rw [he];rfl
    have l0:∀ y:Ex,y.op>=1->y.op<=19->Gj (A0 y,Be y.op) 0=A0 y:=fun y h1 h2=>if_neg (by have:=ar_lv h1 h2;simp only;omega)
    have hop':∀ y∈x.args,1<=y.op/\y.op<=19:=fun y hy=>by
     have:=(Oo (Rx hx hy)).1
     unfold Dq at this
     repeat' split at this
     all_goals omega
    have da:=ha.1 0 (by omega) (by omega)
    have db:=hb.1 0 (by omega) (by omega)
    have dc:=hcc.1 0 (by omega) (by omega)
    rw [l0 a (hop' a (by rw [he];simp)).1 (hop' a (by rw [he];simp)).2] at da
    rw [l0 b (hop' b (by rw [he];simp)).1 (hop' b (by rw [he];simp)).2] at db
    rw [l0 c (hop' c (by rw [he];simp)).1 (hop' c (by rw [he];simp)).2] at dc
    have e1:(sIf++A0 a).size=3+(A0 a).size:=by rw [ByteArray.size_append];rfl
    have e2:((sIf++A0 a)++Y6).size=9+(A0 a).size:=by rw [ByteArray.size_append,e1];show 3+_+6=_;omega
    have e3:(((sIf++A0 a)++Y6)++A0 b).size=9+(A0 a).size+(A0 b).size:=by rw [ByteArray.size_append,e2]
    have e4:((((sIf++A0 a)++Y6)++A0 b)++sElse).size=15+(A0 a).size+(A0 b).size:=by rw [ByteArray.size_append,e3];show _+6=_;omega
    refine T1 _ rfl rfl rfl rfl rfl (Ai (i:=0) (x:=a) (by rw [he];rfl)) (by omega) ?_
    repeat' (first|refine rl0 ?_|refine rs0 ?_ ?_<;>intro h|fail)
    refine wcn da rfl rfl rfl rfl rfl (by repeat (first|exact Ae|refine Ab (Ac _) ?_)) ?_
    refine wan rfl rfl (by show 3+(A0 a).size<=_;omega) ?_
    refine wan rfl rfl (by show (sIf++A0 a).size+6<=_;omega) ?_
    repeat' (first|refine rl0 ?_|refine rs0 ?_ ?_<;>intro h|fail)
    refine T1 _ rfl rfl rfl rfl rfl (Ai (i:=1) (x:=b) (by rw [he];rfl)) (by omega) ?_
    repeat' (first|refine rl0 ?_|refine rs0 ?_ ?_<;>intro h|fail)
    refine wcn db rfl rfl rfl rfl rfl (by repeat (first|exact Ae|refine Ab (Ac _) ?_)) ?_
    refine wan rfl rfl (by show ((sIf++A0 a)++Y6).size+(A0 b).size<=_;omega) ?_
    refine wan rfl rfl (by show (((sIf++A0 a)++Y6)++A0 b).size+6<=_;omega) ?_
    repeat' (first|refine rl0 ?_|refine rs0 ?_ ?_<;>intro h|fail)
    refine T1 _ rfl rfl rfl rfl rfl (Ai (i:=2) (x:=c) (by rw [he];rfl)) (by omega) ?_
    repeat' (first|refine rl0 ?_|refine rs0 ?_ ?_<;>intro h|fail)
    refine wcn dc rfl rfl rfl rfl rfl (by repeat (first|exact Ae|refine Ab (Ac _) ?_)) ?_
    refine wan rfl rfl (by show ((((sIf++A0 a)++Y6)++A0 b)++sElse).size+(A0 c).size<=_;omega) ?_
    repeat' (first|refine rl0 ?_|refine rs0 ?_ ?_<;>intro h|fail)
    refine ⟨(),trivial,Aa rfl (Aa rfl (Aa (show PV.d (.v (.string _))=_ from ?_) Ag)),rfl⟩
    rw [hc,he,G1];unfold P5;rw [if_neg (by omega),if_neg (by omega),if_neg (by omega),if_neg (by omega)]
    simp only [List.map_cons,List.map_nil];rw [if_pos ho];rfl
   ·rename_i g1 g2 g3
    simp at g1 g2 g3
    have h1:Dq x.op=1:=by simpa using h
    have hops:5<=x.op/\x.op<=18:=by omega
    obtain rfl:=h5 hops.1 hops.2
    obtain ⟨a,he⟩:=one_arg (by rw [hf.1];omega:(x.args.length:Int)=1)
    have ha:=hsub a (by rw [he];simp)
    have hwl:wtL x.args=wtX a+0:=by rw [he];rfl
    have hwr:=C6 (A0 a,Be a.op) (Be x.op)
    have e1:(Ew x.op++sSp).size=(Ew x.op).size+1:=by rw [ByteArray.size_append];rfl
    refine wan rfl rfl (by show (Ew x.op).size+1<=_;omega) ?_
    repeat' (first|refine rl0 ?_|refine rs0 ?_ ?_<;>intro h|fail)
    refine T1 _ rfl rfl rfl rfl rfl (Ai (i:=0) (x:=a) (by rw [he];rfl)) (by omega) ?_
    repeat' (first|refine rl0 ?_|refine rs0 ?_ ?_<;>intro h|fail)
    refine wcn (ha.1 (Be x.op) (by omega) (by omega)) rfl rfl rfl rfl rfl (by repeat (first|exact Ae|refine Ab (Ac _) ?_)) ?_
    refine wan rfl rfl (by show (Ew x.op++sSp).size+(Gj (A0 a,Be a.op) (Be x.op)).size<=_;dsimp only at hwr;omega) ?_
    repeat' (first|refine rl0 ?_|refine rs0 ?_ ?_<;>intro h|fail)
    refine ⟨(),trivial,Aa rfl (Aa rfl (Aa (show PV.d (.v (.string _))=_ from ?_) Ag)),rfl⟩
    rw [hc,R8 hops,he,G1];rfl
   ·rename_i g1 g2 g3 g4
    simp at g1 g2 g3 g4
    have h4':Be x.op=4:=by simpa using h
    have hops:5<=x.op/\x.op<=18:=by omega
    obtain rfl:=h5 hops.1 hops.2
    obtain ⟨a,b,he⟩:=Abv (by rw [hf.1];omega:(x.args.length:Int)=2)
    have ha:=hsub a (by rw [he];simp)
    have hb:=hsub b (by rw [he];simp)
    have hwl:wtL x.args=wtX a+(wtX b+0):=by rw [he];rfl
    have w1:=C6 (A0 a,Be a.op) 5
    have w2:=C6 (A0 b,Be b.op) 5
    have dA:=ha.1 5 (by omega) (by omega)
    have dB:=hb.1 5 (by omega) (by omega)
    dsimp only at w1 w2
    generalize hA:Gj (A0 a,Be a.op) 5=A at w1 dA
    generalize hB:Gj (A0 b,Be b.op) 5=B at w2 dB
    have e1:(A++sSp).size=A.size+1:=by rw [ByteArray.size_append];rfl
    have e2:((A++sSp)++Ew x.op).size=A.size+1+(Ew x.op).size:=by rw [ByteArray.size_append,e1]
    have e3:(((A++sSp)++Ew x.op)++sSp).size=A.size+1+(Ew x.op).size+1:=by rw [ByteArray.size_append,e2];rfl
    refine T1 _ rfl rfl rfl rfl rfl (Ai (i:=0) (x:=a) (by rw [he];rfl)) (by omega) ?_
    repeat' (first|refine rl0 ?_|refine rs0 ?_ ?_<;>intro h|fail)
    refine wcn dA rfl rfl rfl rfl rfl (by repeat (first|exact Ae|refine Ab (Ac _) ?_)) ?_
    refine wan rfl rfl (by show A.size+1<=_;omega) ?_
    repeat' (first|refine rl0 ?_|refine rs0 ?_ ?_<;>intro h|fail)
    refine wan rfl rfl (by show (A++sSp).size+(Ew x.op).size<=_;omega) ?_
    refine wan rfl rfl (by show ((A++sSp)++Ew x.op).size+1<=_;omega) ?_
    repeat' (first|refine rl0 ?_|refine rs0 ?_ ?_<;>intro h|fail)
    refine T1 _ rfl rfl rfl rfl rfl (Ai (i:=1) (x:=b) (by rw [he];rfl)) (by omega) ?_
    repeat' (first|refine rl0 ?_|refine rs0 ?_ ?_<;>intro h|fail)
    refine wcn dB rfl rfl rfl rfl rfl (by repeat (first|exact Ae|refine Ab (Ac _) ?_)) ?_
    refine wan rfl rfl (by show (((A++sSp)++Ew x.op)++sSp).size+B.size<=_;omega) ?_
    repeat' (first|refine rl0 ?_|refine rs0 ?_ ?_<;>intro h|fail)
    refine ⟨(),trivial,Aa rfl (Aa rfl (Aa (show PV.d (.v (.string _))=_ from ?_) Ag)),rfl⟩
    rw [hc,R8 hops,he,G1]
    simp only [List.map_cons,List.map_nil]
    rw [hA,hB]
    rw [if_pos h4'];rfl
   ·rename_i g1 g2 g3 g4 g5
    simp at g1 g2 g3 g4 g5
    have h2:Dq x.op=2:=by simpa using h
    have hops:5<=x.op/\x.op<=18:=by omega
    obtain rfl:=h5 hops.1 hops.2
    obtain ⟨a,b,he⟩:=Abv (by rw [hf.1];omega:(x.args.length:Int)=2)
    have ha:=hsub a (by rw [he];simp)
    have hb:=hsub b (by rw [he];simp)
    have hwl:wtL x.args=wtX a+(wtX b+0):=by rw [he];rfl
    have w1:=C6 (A0 a,Be a.op) (Be x.op)
    have w2:=C6 (A0 b,Be b.op) (Be x.op+1)
    have dA:=ha.1 (Be x.op) (by omega) (by omega)
    have dB:=hb.1 (Be x.op+1) (by omega) (by omega)
    dsimp only at w1 w2
    generalize hA:Gj (A0 a,Be a.op) (Be x.op)=A at w1 dA
    generalize hB:Gj (A0 b,Be b.op) (Be x.op+1)=B at w2 dB
    have e1:(A++sSp).size=A.size+1:=by rw [ByteArray.size_append];rfl
    have e2:((A++sSp)++Ew x.op).size=A.size+1+(Ew x.op).size:=by rw [ByteArray.size_append,e1]
    have e3:(((A++sSp)++Ew x.op)++sSp).size=A.size+1+(Ew x.op).size+1:=by rw [ByteArray.size_append,e2];rfl
    refine T1 _ rfl rfl rfl rfl rfl (Ai (i:=0) (x:=a) (by rw [he];rfl)) (by omega) ?_
    repeat' (first|refine rl0 ?_|refine rs0 ?_ ?_<;>intro h|fail)
    refine wcn dA rfl rfl rfl rfl rfl (by repeat (first|exact Ae|refine Ab (Ac _) ?_)) ?_
    refine wan rfl rfl (by show A.size+1<=_;omega) ?_
    repeat' (first|refine rl0 ?_|refine rs0 ?_ ?_<;>intro h|fail)
    refine wan rfl rfl (by show (A++sSp).size+(Ew x.op).size<=_;omega) ?_
    refine wan rfl rfl (by show ((A++sSp)++Ew x.op).size+1<=_;omega) ?_
    repeat' (first|refine rl0 ?_|refine rs0 ?_ ?_<;>intro h|fail)
    refine T1 _ rfl rfl rfl rfl rfl (Ai (i:=1) (x:=b) (by rw [he];rfl)) (by omega) ?_
    repeat' (first|refine rl0 ?_|refine rs0 ?_ ?_<;>intro h|fail)
    refine wcn dB rfl rfl rfl rfl rfl (by repeat (first|exact Ae|refine Ab (Ac _) ?_)) ?_
    refine wan rfl rfl (by show (((A++sSp)++Ew x.op)++sSp).size+B.size<=_;omega) ?_
    repeat' (first|refine rl0 ?_|refine rs0 ?_ ?_<;>intro h|fail)
    refine ⟨(),trivial,Aa rfl (Aa rfl (Aa (show PV.d (.v (.string _))=_ from ?_) Ag)),rfl⟩
    rw [hc,R8 hops,he,G1]
    simp only [List.map_cons,List.map_nil]
    rw [hA,hB]
    rw [if_neg g5];rfl
   ·rename_i g1 g2 g3 g4 g5
    simp at g1 g2 g3 g4 g5 h
    refine ⟨(),trivial,Aa rfl (Aa rfl (Aa (show PV.d (.v (.string _))=_ from ?_) Ag)),rfl⟩
    rw [hc];unfold P5
    rcases hcs.2.2 with ⟨h1,_⟩|⟨h1,_⟩|⟨h1,h2,h3⟩
    ·rcases h1 with h1|h1|h1|h1
     ·omega
     ·omega
     ·rw [if_neg (by omega),if_neg (by omega),if_pos h1];exact congrArg _ (congrArg _ (congrArg _ (h3 h1)))
     ·rw [if_neg (by omega),if_neg (by omega),if_neg (by omega),if_pos h1];exact congrArg _ (congrArg _ (congrArg _ (h4 h1)))
    ·omega
    ·omega
  have e1:(sOpen++A0 x).size<=1000002:=by simp only [ByteArray.size_append];show 2+_<=_;omega
  repeat' (first|refine rl0 ?_|refine rs0 ?_ ?_<;>intro h|fail)
  ·refine wst rfl rfl (by show 2+(A0 x).size<=_;omega) ?_
   refine wst rfl rfl (by show (sOpen++A0 x).size+2<=_;omega) ?_
   repeat' (first|refine rl0 ?_|refine rs0 ?_ ?_<;>intro h|fail)
   rw [show Gj (A0 x,Be x.op) k=(sOpen++A0 x)++sShut from if_pos (by simpa using h)];rfl
  ·rw [show Gj (A0 x,Be x.op) k=A0 x from if_neg (by simpa using h)]
theorem name_12 {l:List UInt8} (h:Ds 1 l 0=0):l.length<=12:=by
 unfold Ds at h
 split at h
 ·omega
 ·rename_i hc
  simp only [not_or] at hc
  have h1:Cx 1 l=true:=by simpa using hc.2.2
  have h2:Kg l=true:=h1
  rw [Acr] at h2
  simp only [Bool.and_eq_true,decide_eq_true_eq] at h2
  exact h2.1.2
theorem plain_wt {x:Ex} (h:C3 x=true):x.name.size<=12:=by
 simp only [C3,Bool.and_eq_true] at h
 have h2:=h.2
 split at h2
 ·have:=name_12 (by simpa using h2);simpa using this
 ·have:x.name.size=0:=by simpa using h2
  omega
mutual
theorem vis_wt:∀ (x:Ex) (left d k:Nat),vis left d x=some k->x.fine=true/\wtX x+52*k<=52*left
 |.mk o n s l,left,d,k,h=>by
  rw [vis] at h
  split at h
  ·simp at h
  ·rename_i hc
   simp only [not_or] at hc
   have hp:C3 (.mk o n s l)=true:=by simpa using hc.2.2
   have hw:=plain_wt hp
   simp only [C3,Bool.and_eq_true,decide_eq_true_eq] at hp
   obtain ⟨h1,h2⟩:=Ai3 l _ _ _ h
   simp only [Ex.fine,Bool.and_eq_true,decide_eq_true_eq]
   refine ⟨⟨⟨⟨hp.1.1.1.1,hp.1.1.1.2⟩,hp.1.1.2⟩,h1⟩,?_⟩
   rw [wtX]
   simp only [Ex.name] at hw
   omega
theorem Ai3:∀ (l:List Ex) (left d k:Nat),L3 left d l=some k->Rw l=true/\wtL l+52*k<=52*left
 |[],left,d,k,h=>by
  rw [L3] at h;cases h
  exact ⟨rfl,by rw [wtL];omega⟩
 |x::r,left,d,k,h=>by
  rw [L3] at h
  split at h
  ·cases h
  ·rename_i j e
   obtain ⟨h1,h2⟩:=vis_wt x _ _ _ e
   obtain ⟨h3,h4⟩:=Ai3 r _ _ _ h
   refine ⟨by simp only [Rw,h1,h3,Bool.and_self],?_⟩
   rw [wtL];omega
end
theorem Acd {x:Ex} (h:Bm x=0):x.fine=true/\wtX x<=1000000:=by
 have:=(Ez x).1 h
 unfold Nb at this
 obtain ⟨k,hk⟩:=Option.isSome_iff_exists.1 this
 obtain ⟨h1,h2⟩:=vis_wt x _ _ _ hk
 exact ⟨h1,by omega⟩
theorem fine_op {x:Ex} (h:x.fine=true):1<=x.op/\x.op<=19:=by
 have:=(Oo h).1
 unfold Dq at this
 repeat' split at this
 all_goals omega
theorem wrap0 {x:Ex} (h:x.fine=true):Gj (A0 x,Be x.op) 0=A0 x:=if_neg (by have h1:=fine_op h;have:=ar_lv h1.1 h1.2;simp only;omega)
def Adv (x:Ex):ByteArray×Int:=if Bm x=0 then (A0 x,0) else (⟨#[]⟩,350)
theorem ptext_do (x:Ex) (hs:x.small):Am 72 [exP x] ⟨[],[]⟩ (.ret (.tup [Bf (Adv x).1,Ah (Adv x).2])) ⟨[],[]⟩:=by
 refine Ad Tryz.func72 rfl rfl (Nat.le_of_ble_eq_true rfl) rfl (Nat.le_refl _) ?_
 repeat' (first|refine rl0 ?_|refine rs0 ?_ ?_<;>intro h|fail)
 refine E2 (Eb x hs) rfl rfl rfl rfl rfl (by repeat (first|exact Ae|refine Ab (Ac _) ?_)) ?_
 repeat' (first|refine rl0 ?_|refine rs0 ?_ ?_<;>intro h|fail)
 ·rw [show Adv x=(⟨#[]⟩,Bm x) from by unfold Adv Bm at *;split<;>simp_all]
 have hc:Bm x=0:=by simpa using h
 have hf:=Acd hc
 have hd:=text_do x.hgt x (Nat.le_refl _) hf.1 hf.2 0 (by omega) (by omega)
 rw [wrap0 hf.1] at hd
 refine E2 hd rfl rfl rfl rfl rfl (by repeat (first|exact Ae|refine Ab (Ac _) ?_)) ?_
 repeat' (first|refine rl0 ?_|refine rs0 ?_ ?_<;>intro h|fail)
 rw [show Adv x=(A0 x,0) from if_pos hc]
theorem Aau {zs:List (List UInt8)} {l:List UInt8}:T6 zs l=true<->l∈zs:=by
 unfold T6
 rw [List.any_eq_true]
 constructor
 ·rintro ⟨y,hy,h⟩
  have:l=y:=by simpa using h
  rwa [this]
 ·intro h;exact ⟨l,h,by simp⟩
theorem Ah8 {kd:Int} {x:List UInt8} (h:Cx kd x=true):x.length<=12:=by
 have hw:(Em.all fun x=>decide (x.length<=12))=true:=by decide +kernel
 have hs:(Ek.all fun x=>decide (x.length<=12))=true:=by decide +kernel
 unfold Cx at h
 split at h
 ·simp only [Kg,Bool.and_eq_true,decide_eq_true_eq] at h;exact h.1.2
 ·split at h
  ·simpa using List.all_eq_true.1 hw _ (Aau.1 h)
  ·split at h
   ·simp only [Eg,Bool.and_eq_true,Bool.or_eq_true,decide_eq_true_eq,beq_iff_eq] at h
    rcases h.2 with h|h
    ·rw [h];simp
    ·omega
   ·split at h
    ·simpa using List.all_eq_true.1 hs _ (Aau.1 h)
    ·cases h
inductive Good:Ex->Prop
 |num (n:Int):0<=n->n<=9999->Good (.mk 1 n ⟨#[]⟩ [])
 |name (s:ByteArray):Kg s.data.toList=true->Good (.mk 2 0 s [])
 |yes:Good (nd 3 [])
 |no:Good (nd 4 [])
 |neg (a:Ex):Good a->Good (nd 5 [a])
 |not (a:Ex):Good a->Good (nd 6 [a])
 |bin (op:Int) (a b:Ex):7<=op->op<=18->Good a->Good b->Good (nd op [a,b])
 |ite (a b c:Ex):Good a->Good b->Good c->Good (nd 19 [a,b,c])
theorem Fm {s:ByteArray} (h:s.size=0):s=⟨#[]⟩:=by
 apply ByteArray.ext;apply Array.eq_empty_of_size_eq_zero;exact h
theorem Si {l:List UInt8} (h:Ds 1 l 0=0):Kg l=true:=by
 unfold Ds at h
 split at h
 ·omega
 ·rename_i hc
  simp only [not_or] at hc
  have h1:Cx 1 l=true:=by simpa using hc.2.2
  exact h1
theorem Xw {op:Int} {n:Nat} (h:(n:Int)=J2 op):(op=1\/op=2\/op=3\/op=4)/\n=0\/(op=5\/op=6)/\n=1\/(7<=op/\op<=18)/\n=2\/op=19/\n=3:=by
 have h':(n:Int)=Dq op:=h
 unfold Dq at h'
 repeat' split at h'
 all_goals omega
mutual
theorem Aby:∀ (x:Ex) (left d k:Nat),vis left d x=some k->Good x
 |.mk o n s l,left,d,k,h=>by
  rw [vis] at h
  split at h
  ·simp at h
  ·rename_i hc
   simp only [not_or] at hc
   have hp:C3 (.mk o n s l)=true:=by simpa using hc.2.2
   simp only [C3,Bool.and_eq_true,Bool.or_eq_true,Ex.args,Ex.op,Ex.n,Ex.name] at hp
   obtain ⟨⟨⟨⟨h1,h2⟩,h3⟩,h4⟩,h5⟩:=hp
   have h1:=of_decide_eq_true h1
   have h2:=of_decide_eq_true h2
   have h3:=of_decide_eq_true h3
   have h4:n=0\/o=1:=h4.imp (fun h=>of_decide_eq_true h) (fun h=>of_decide_eq_true h)
   have hl:=Xj l _ _ _ h
   rcases Xw h1 with ⟨h6,h7⟩|⟨h6,h7⟩|⟨h6,h7⟩|⟨h6,h7⟩
   ·have e:l=[]:=List.eq_nil_of_length_eq_zero h7
    subst e
    rcases h6 with rfl|rfl|rfl|rfl
    ·have:=Fm (s:=s) (of_decide_eq_true (show decide (s.size=0)=true from h5))
     subst this
     exact .num n (of_decide_eq_true ‹decide (0<=n)=true›) (of_decide_eq_true ‹decide (n<=9999)=true›)
    ·have:n=0:=by rcases h4 with h4|h4<;>omega
     subst this
     exact .name s (Si (of_decide_eq_true (show decide (Ds 1 s.data.toList 0=0)=true from h5)))
    ·have:=Fm (s:=s) (of_decide_eq_true (show decide (s.size=0)=true from h5))
     subst this
     have:n=0:=by rcases h4 with h4|h4<;>omega
     subst this
     exact .yes
    ·have:=Fm (s:=s) (of_decide_eq_true (show decide (s.size=0)=true from h5))
     subst this
     have:n=0:=by rcases h4 with h4|h4<;>omega
     subst this
     exact .no
   all_goals
    have h5':s.size=0:=by
     have ho:o≠2:=by omega
     revert h5
     show (if o=2 then _ else decide (s.size=0))=true->_
     rw [if_neg ho];exact fun h=>of_decide_eq_true h
    have:=Fm h5'
    subst this
    have:n=0:=by rcases h4 with h4|h4<;>omega
    subst this
   ·obtain ⟨a,rfl⟩:∃ a,l=[a]:=by
     match l,h7 with
     |[a],_=>exact ⟨a,rfl⟩
    rcases h6 with rfl|rfl
    ·exact .neg a (hl a (by simp))
    ·exact .not a (hl a (by simp))
   ·obtain ⟨a,b,rfl⟩:∃ a b,l=[a,b]:=by
     match l,h7 with
     |[a,b],_=>exact ⟨a,b,rfl⟩
    exact .bin o a b h6.1 h6.2 (hl a (by simp)) (hl b (by simp))
   ·obtain ⟨a,b,c,rfl⟩:∃ a b c,l=[a,b,c]:=by
     match l,h7 with
     |[a,b,c],_=>exact ⟨a,b,c,rfl⟩
    subst h6
    exact .ite a b c (hl a (by simp)) (hl b (by simp)) (hl c (by simp))
theorem Xj:∀ (l:List Ex) (left d k:Nat),L3 left d l=some k->∀ x∈l,Good x
 |[],left,d,k,h=>by simp
 |x::r,left,d,k,h=>by
  rw [L3] at h
  split at h
  ·cases h
  ·rename_i j e
   intro y hy
   rcases List.mem_cons.1 hy with hy|hy
   ·rw [hy];exact Aby x _ _ _ e
   ·exact Xj r _ _ _ h y hy
end
theorem Acf {x:Ex} (h:Bm x=0):Good x:=by
 have:=(Ez x).1 h
 unfold Nb at this
 obtain ⟨k,hk⟩:=Option.isSome_iff_exists.1 this
 exact Aby x _ _ _ hk
@[reducible] def Bl (x:Ex):Nat:=(Ab7 x).length
theorem A7 (o n:Int) (s:ByteArray) (l:List Ex):Bl (.mk o n s l)=1+(Id l).length:=by unfold Bl;rw [Ab7];simp;omega
theorem Cb:(Id []).length=0:=by rw [Id];rfl
theorem Bg (x:Ex) (r:List Ex):(Id (x::r)).length=Bl x+(Id r).length:=by rw [Id];simp
theorem Ib:Ym []=0:=by rw [Ym]
theorem Io (x:Ex) (r:List Ex):Ym (x::r)=max x.hgt (Ym r):=by rw [Ym]
theorem Nc (k d:Nat):L3 k d []=some k:=by rw [L3]
theorem Pu {k d j:Nat} {x:Ex} {r:List Ex} (h:vis k d x=some j):L3 k d (x::r)=L3 j d r:=by rw [L3,h]
theorem Nd {left d:Nat} {x:Ex} (h1:left≠0) (h2:d<=12) (h3:C3 x=true):vis left d x=L3 (left-1) (d+1) x.args:=by
 rw [Ai4,if_neg]
 simp only [h3,not_or]
 exact ⟨h1,by omega,by simp⟩
theorem Jr {o:Int} {l:List Ex} (h:(l.length:Int)=J2 o) (h2:o≠2):C3 (nd o l)=true:=by
 unfold C3
 show (decide ((l.length:Int)=J2 o)&&decide ((0:Int)<=0)&&decide ((0:Int)<=9999)&&(decide ((0:Int)=0)||decide (o=1))&&(if o=2 then _ else decide ((⟨#[]⟩:ByteArray).size=0)))=true
 rw [if_neg h2,decide_eq_true h]
 simp;rfl
theorem good_vis {x:Ex} (hx:Good x):∀ (left d:Nat),Bl x<=left->d+x.hgt<=13->vis left d x=some (left-Bl x):=by
 have hh:∀ o n s l,(Ex.mk o n s l).hgt=Ym l+1:=fun o n s l=>by rw [Ex.hgt]
 induction hx with
 |num n h1 h2 =>
  intro left d hn hd
  rw [A7,Cb] at hn |-
  rw [hh,Ib] at hd
  rw [Nd (by omega) (by omega) (by
   unfold C3
   show (decide (((([]:List Ex).length:Nat):Int)=J2 1)&&decide (0<=n)&&decide (n<=9999)&&(decide (n=0)||decide ((1:Int)=1))&&(if (1:Int)=2 then _ else decide ((⟨#[]⟩:ByteArray).size=0)))=true
   rw [decide_eq_true h1,decide_eq_true h2,if_neg (by decide)]
   simp only [Bool.and_true,Bool.or_true,decide_true,Bool.and_eq_true,decide_eq_true_eq]
   decide)]
  exact Nc _ _
 |name s h1 =>
  intro left d hn hd
  rw [A7,Cb] at hn |-
  rw [hh,Ib] at hd
  rw [Nd (by omega) (by omega) (by
   unfold C3
   show (decide (((([]:List Ex).length:Nat):Int)=J2 2)&&decide ((0:Int)<=0)&&decide ((0:Int)<=9999)&&(decide ((0:Int)=0)||decide ((2:Int)=1))&&(if (2:Int)=2 then decide (Ds 1 s.data.toList 0=0) else _))=true
   have:Ds 1 s.data.toList 0=0:=by
    unfold Ds
    rw [if_neg]
    rw [show Cx 1 s.data.toList=true from h1]
    simp
   rw [if_pos rfl,decide_eq_true this]
   decide)]
  exact Nc _ _
 |yes =>
  intro left d hn hd
  rw [nd,A7,Cb] at hn
  rw [nd,hh,Ib] at hd
  rw [Nd (by omega) (by omega) (Jr (by decide) (by decide)),nd,A7,Cb]
  exact Nc _ _
 |no =>
  intro left d hn hd
  rw [nd,A7,Cb] at hn
  rw [nd,hh,Ib] at hd
  rw [Nd (by omega) (by omega) (Jr (by decide) (by decide)),nd,A7,Cb]
  exact Nc _ _
 |neg y hy ih =>
  intro left d hn hd
  rw [nd,A7,Bg,Cb] at hn
  rw [nd,hh,Io,Ib] at hd
  rw [Nd (by omega) (by omega) (Jr (by rfl) (by decide)),nd,A7,Bg,Cb]
  show L3 _ _ [y]=_
  rw [Pu (ih _ _ (by omega) (by omega)),Nc]
  congr 1;omega
 |not y hy ih =>
  intro left d hn hd
  rw [nd,A7,Bg,Cb] at hn
  rw [nd,hh,Io,Ib] at hd
  rw [Nd (by omega) (by omega) (Jr (by rfl) (by decide)),nd,A7,Bg,Cb]
  show L3 _ _ [y]=_
  rw [Pu (ih _ _ (by omega) (by omega)),Nc]
  congr 1;omega
 |bin o y z h1 h2 hy hz ih1 ih2 =>
  intro left d hn hd
  rw [nd,A7,Bg,Bg,Cb] at hn
  rw [nd,hh,Io,Io,Ib] at hd
  rw [Nd (by omega) (by omega) (Jr (by
   have:o=7\/o=8\/o=9\/o=10\/o=11\/o=12\/o=13\/o=14\/o=15\/o=16\/o=17\/o=18:=by omega
   rcases this with rfl|rfl|rfl|rfl|rfl|rfl|rfl|rfl|rfl|rfl|rfl|rfl<;>rfl) (by omega)),nd,A7,Bg,Bg,Cb]
  show L3 _ _ [y,z]=_
  rw [Pu (ih1 _ _ (by omega) (by omega)),Pu (ih2 _ _ (by omega) (by omega)),Nc]
  congr 1;omega
 |ite y z w hy hz hw ih1 ih2 ih3 =>
  intro left d hn hd
  rw [nd,A7,Bg,Bg,Bg,Cb] at hn
  rw [nd,hh,Io,Io,Io,Ib] at hd
  rw [Nd (by omega) (by omega) (Jr (by rfl) (by decide)),nd,A7,Bg,Bg,Bg,Cb]
  show L3 _ _ [y,z,w]=_
  rw [Pu (ih1 _ _ (by omega) (by omega)),Pu (ih2 _ _ (by omega) (by omega)),Pu (ih3 _ _ (by omega) (by omega)),Nc]
  congr 1;omega
theorem Acl {x:Ex} (hx:Good x) (h1:Bl x<=60) (h2:x.hgt<=12):Bm x=0:=by
 rw [Ez];unfold Nb
 rw [good_vis hx 60 1 h1 (by omega)];rfl
theorem X4 {x:Ex} (h:Bm x=0):Bl x<=60:=by
 obtain ⟨k,hk⟩:=Option.isSome_iff_exists.1 ((Ez x).1 h)
 have:=(Zj x _ _ _ hk).1
 unfold Bl;omega
theorem Agt {s:ByteArray} (h:Kg s.data.toList=true):s.size<=12:=by
 have:Cx 1 s.data.toList=true:=h
 have:=Ah8 this
 simpa using this
theorem Jc {x:Ex} (hx:Good x):x.small:=by
 induction hx with
 |num n h1 h2=>exact ⟨Nat.zero_le _,trivial⟩
 |name s h1=>exact ⟨by have:=Agt h1;omega,trivial⟩
 |yes=>exact ⟨Nat.zero_le _,trivial⟩
 |no=>exact ⟨Nat.zero_le _,trivial⟩
 |neg y hy ih=>exact ⟨Nat.zero_le _,ih,trivial⟩
 |not y hy ih=>exact ⟨Nat.zero_le _,ih,trivial⟩
 |bin o y z h1 h2 hy hz ih1 ih2=>exact ⟨Nat.zero_le _,ih1,ih2,trivial⟩
 |ite y z w hy hz hw ih1 ih2 ih3=>exact ⟨Nat.zero_le _,ih1,ih2,ih3,trivial⟩
theorem Vp (num:Bool) {n:Int} (h:0<=n/\n<256):Good (Gv num n):=by
 unfold Gv
 split
 ·have:n / 16 % 2=0\/n / 16 % 2=1:=by omega
  rcases this with e|e<;>rw [e]
  ·exact .yes
  ·exact .no
 ·split
  ·have:n / 16 % 3=0\/n / 16 % 3=1\/n / 16 % 3=2:=by omega
   rcases this with e|e|e<;>rw [e]<;>exact .name _ (by decide +kernel)
  ·have:n / 16 % 8=0\/n / 16 % 8=1\/n / 16 % 8=2\/n / 16 % 8=3\/n / 16 % 8=4\/n / 16 % 8=5\/n / 16 % 8=6\/n / 16 % 8=7:=by omega
   rcases this with e|e|e|e|e|e|e|e<;>rw [e]<;>exact .num _ (by decide) (by decide)
theorem Aco {num:Bool} {n:Int} (h:0<=n/\n<256) {l:List Ex} (hl:l.length=(Ch num n).2.length) (hg:∀ x∈l,Good x):Good (.mk (Ch num n).1 0 ⟨#[]⟩ l):=by
 have one:l.length=1->∃ a,l=[a]/\Good a:=fun h=>by
  match l,h,hg with
  |[a],_,hg=>exact ⟨a,rfl,hg a (by simp)⟩
 have two:l.length=2->∃ a b,l=[a,b]/\Good a/\Good b:=fun h=>by
  match l,h,hg with
  |[a,b],_,hg=>exact ⟨a,b,rfl,hg a (by simp),hg b (by simp)⟩
 have three:l.length=3->∃ a b c,l=[a,b,c]/\Good a/\Good b/\Good c:=fun h=>by
  match l,h,hg with
  |[a,b,c],_,hg=>exact ⟨a,b,c,rfl,hg a (by simp),hg b (by simp),hg c (by simp)⟩
 unfold Ch at hl |-
 split at hl
 ·rename_i h1
  rw [if_pos h1]
  split at hl
  ·rename_i h2;rw [if_pos h2]
   obtain ⟨a,b,rfl,g1,g2⟩:=two hl
   exact .bin _ a b (by simp only;omega) (by simp only;omega) g1 g2
  ·rename_i h2;rw [if_neg h2]
   split at hl
   ·rename_i h3;rw [if_pos h3]
    obtain ⟨a,rfl,g1⟩:=one hl
    exact .not a g1
   ·rename_i h3;rw [if_neg h3]
    split at hl
    ·rename_i h4;rw [if_pos h4]
     obtain ⟨a,b,rfl,g1,g2⟩:=two hl
     exact .bin _ a b (by simp only;omega) (by simp only;omega) g1 g2
    ·rename_i h4;rw [if_neg h4]
     obtain ⟨a,b,c,rfl,g1,g2,g3⟩:=three hl
     exact .ite a b c g1 g2 g3
 ·rename_i h1
  rw [if_neg h1]
  split at hl
  ·rename_i h2;rw [if_pos h2]
   obtain ⟨a,rfl,g1⟩:=one hl
   exact .neg a g1
  ·rename_i h2;rw [if_neg h2]
   split at hl
   ·rename_i h3;rw [if_pos h3]
    obtain ⟨a,b,rfl,g1,g2⟩:=two hl
    exact .bin _ a b (by simp only;omega) (by simp only;omega) g1 g2
   ·rename_i h3;rw [if_neg h3]
    obtain ⟨a,b,c,rfl,g1,g2,g3⟩:=three hl
    exact .ite a b c g1 g2 g3
theorem Oz {g:Int->Nat->Ex×Nat} {R:Ex->Prop} (hg:∀ t a,R (g t a).1):∀ (ts:List Int) (a:Nat),∀ x∈(Cd g ts a).1,R x
 |[],a,x,h=>by simp [Cd] at h
 |t::ts,a,x,h=>by
  simp only [Cd] at h
  rcases List.mem_cons.1 h with rfl|h
  ·exact hg t a
  ·exact Oz hg ts _ x h
theorem Aa3 (l:List UInt8):∀ (f:Nat) (want:Int) (a:Nat),Good (Jm l f want a).1
 |0,want,a=>by rw [Jm];exact Vp _ (H0 l a)
 |f+1,want,a=>by
  rw [Jm]
  split
  ·exact Vp _ (H0 l a)
  ·exact Aco (H0 l a) (by rw [O0,K7]) (Oz (Aa3 l f) _ _)
theorem hgts_le {l:List Ex} {k:Nat} (h:∀ x∈l,x.hgt<=k):Ym l<=k:=by
 induction l with
 |nil=>rw [Ib];omega
 |cons x r ih =>
  rw [Io]
  have h1:=h x (by simp)
  have h2:=ih fun y hy=>h y (List.mem_cons_of_mem _ hy)
  omega
theorem F5 (num:Bool) (n:Int):(Gv num n).hgt=1/\Bl (Gv num n)=1:=by
 have hh:∀ o n s l,(Ex.mk o n s l).hgt=Ym l+1:=fun o n s l=>by rw [Ex.hgt]
 unfold Gv
 repeat' split
 all_goals rw [hh,Ib,A7,Cb]
 all_goals exact ⟨rfl,rfl⟩
theorem O1 {g:Int->Nat->Ex×Nat} (hg:∀ t a,(g t a).2=a+Bl (g t a).1/\(g t a).2+3*(18-(g t a).2)<=a+3*(18-a)+1):∀ (ts:List Int) (a:Nat),(Cd g ts a).2=a+(Id (Cd g ts a).1).length/\(Cd g ts a).2+3*(18-(Cd g ts a).2)<=a+3*(18-a)+ts.length
 |[],a=>by simp [Cd,Id]
 |t::ts,a=>by
  simp only [Cd]
  have h1:=hg t a
  have h2:=O1 hg ts (g t a).2
  rw [Bg]
  simp only [List.length_cons]
  omega
theorem V9 (l:List UInt8):∀ (f:Nat) (want:Int) (a:Nat),(Jm l f want a).2=a+Bl (Jm l f want a).1/\(Jm l f want a).2+3*(18-(Jm l f want a).2)<=a+3*(18-a)+1
 |0,want,a=>by
  rw [Jm]
  simp only
  rw [(F5 _ _).2]
  omega
 |f+1,want,a=>by
  rw [Jm]
  split
  ·simp only
   rw [(F5 _ _).2]
   omega
  ·rename_i h5
   have ha:a<18:=by
    have h6:B2 l a≠0:=by intro h;rw [h] at h5;omega
    unfold B2 at h6
    split at h6
    ·rename_i h7;exact h7.2
    ·exact absurd rfl h6
   have h1:=O1 (V9 l f) (K6 want (Ch (Ho want (B2 l a)) (B2 l a)).2) (a+1)
   have h2:=Ox (Ho want (B2 l a)) (B2 l a)
   rw [K7] at h1
   simp only
   rw [A7]
   omega
theorem Vy (l:List UInt8) (want:Int):Good (Sf l want):=Aa3 l 9 want 0
end Go.Proofs.YtjagmmmcibdibaaGreatDoor
