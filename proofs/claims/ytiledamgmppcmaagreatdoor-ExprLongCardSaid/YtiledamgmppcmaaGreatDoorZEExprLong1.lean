/- A part of the proofs of some statements of this chapter: texts of these claims, merged. -/
import Derived.Below
import Derived.WalkKit
import Derived.BigQuiet
import Derived.Lib.Hide
import Derived.ControlIn
import Derived.OwnWalkIn
import Derived.Lib.ItoaNum
import Derived.OrdersIn
import Derived.TacticsIn
import Derived.Deep.MidRow
import Derived.OpenShut
import Derived.Lib.SmallJoins
import Derived.Laws.Tables
import Derived.Laws.OwnMore
import Derived.Orders
import Derived.Test.YtiledamgmppcmaaGreatDoorProg
import Derived.Shelf.Abstract
import Derived.Test.YtiledamgmppcmaaGreatDoorRows
import Derived.Carry
import Derived.Lib.LaidU8
import Derived.Lib.LaidTab
import Derived.Lay
import Derived.MakeChecks
import Derived.Laws.Strings
import Derived.WalkSpells
import Derived.WalkLawsBesides
import Derived.Laws.EntriesVeiled
import Derived.Deep.RegionHeld3
import Derived.Deep.QuietTactic
import Derived.Lib.Bytealg
import Derived.Shelf.Strings.Builder1
import Derived.Shelf.Small.Strs
import Derived.Shelf.Small.Wraps
import Derived.Shelf.Strings.BuilderF
import Derived.Shelf.Strings.BuilderK
import Derived.Shelf.Strconv.Atoi
import Derived.Shelf.Strconv.Itoa0
import Derived.Shelf.Strconv.Itoa1
import Derived.Shelf.LaysM
import Derived.Shelf.Strconv.Itoa2
import Derived.Shelf.Strconv.Itoa3
import Derived.Shelf.Strconv.AtoiErrFast
import Derived.Shelf.Strconv.ParseIntEmpty
import Derived.Shelf.Strconv.AtoiFail
import Derived.Shelf.Strconv.Clone
import Derived.Shelf.Strconv.SyntaxError
import Derived.Shelf.LaysC
import Derived.Shelf.Strconv.ToError
import Derived.Shelf.Strconv.AtoiErr
import Derived.Shelf.Strconv.ErrVar
import Derived.Shelf.Strconv.Lower
import Derived.Shelf.Strconv.ParseUint10
import Derived.Shelf.Strconv.ParseUint10Empty
import Derived.Shelf.Strconv.ParseUint10Any
import Derived.Shelf.Strconv.ParseInt10
import Derived.Shelf.Strconv.AtoiLong
import Derived.Shelf.Strconv.AtoiInnerAll
import Derived.Shelf.Strconv.RangeError
import Derived.Shelf.Strconv.ToErrorRange
import Derived.Shelf.Strconv.AtoiAll
import Derived.Shelf.Strconv.ErrVarAll
import Derived.Shelf.Strconv.ParseUintEmpty
import Derived.Shelf.Strconv.ParseUint10b64
import Derived.Shelf.Strconv.ParseUint10b32
import Derived.Shelf.Strconv.ParseUint10b16
import Derived.Shelf.Strconv.ParseUint10b8
import Derived.Shelf.Strconv.ParseUint10At
import Derived.Ground.MpProg
import Derived.Shelf.Pu.ParseUintPublic10
import Derived.Shelf.Pu.ErrVarParseUint
import Derived.Shelf.Strings.Search1
import Derived.Shelf.Strings.Search2
import Derived.Shelf.Strings.Cut
import Derived.Shelf.Strings.Shaped
import Derived.Shelf.Strings.Prefix
import Derived.Deep.DeepCutAuto
import Derived.Lib.IndexBytes
import Derived.Deep.LoopGhost
import Derived.StillTail
import Derived.BigRegion
import Derived.Deep.CutBlock
import Derived.RangeFuncBox
import Derived.RangeFuncLeaves
import Derived.RangeFuncCalls
import Derived.TacticsInMore
import Derived.LoopNIn
import Derived.LoopIn
import Derived.RecoverIn
import Derived.RangeFuncNested
import Derived.Maps.AppendAt
import Derived.Shelf.RegionOpen
import Derived.Laws.StructEq
import Derived.Lib.Join
import Derived.Deep.AppendLies
import Derived.Deep.RegionLaw
import Derived.Laws.Rows
import Derived.RangeFuncOwn
import Derived.Laws.MakeOwn
import Derived.Lib.AppendStr
import Derived.Laws.BytesArg
import Derived.Test.YtiledamgmppcmaaGreatDoorZE4
set_option linter.unusedVariables false
set_option linter.unusedSimpArgs false
set_option linter.unusedSectionVars false
set_option linter.all false
namespace Go.Proofs.YtiledamgmppcmaaGreatDoor
open Go.RowKit
section
variable {N : Nat} {ops : Array Oper} {rest : List Oper} {o : Oper} {F : Nat -> PV} {S S' : PS} {q : WRes -> Prop} {C : Prop} {r : PV} {Q : Exit -> (Nat -> PV) -> PS -> Prop}
variable {ch : Nat -> Bool} {U Ut : List Nat} {k : Nat} {bm : Bool} {D : List Nat}
variable {c : Operand} {al : Array Operand} {ats : Array TypeId} {f : Nat} {caps args : List PV}
theorem wcba {id : Nat} {c0 c1 : List PV} (hD : An f args ⟨[c0], []⟩ (.ret r) ⟨[c1], []⟩) (hg : Am ops F o = some true) (hcc : ch k = true) (ho : o.op = .call { callee := .value c, args := al, argTypes := ats }) (hc : evP F c = .fn f caps) (hbox : S.boxes[id]? = some c0) (hl0 : PV.ltL 0 0 c0 = true) (hl1 : PV.ltL 0 0 c1 = true) (hlr : r.lt 0 0 = true)
    (hlt : PV.ltL 1 0 args = true) (ha : F6 S (al.toList.map (evP F) ++ caps) (PV.renL (fbN [id]) (ftN [] S.toks.length) args)) (hS : S.setBox id c1 = S') (hA : Agree U Ut S S') (kk : WA Tryz.prog N ops ch U Ut (k + 1) rest (Ch N o.dst r F) S' false D q) : WA Tryz.prog N ops ch U Ut k (o :: rest) F S false D q := by
  subst hS; exact Qw hg hcc (K3 hD ho hc hbox hl0 hl1 hlr hlt ha) hA kk
end
section
variable {N : Nat} {ops : Array Oper} {rest : List Oper} {o : Oper} {F : Nat -> PV} {S S' S'' : PS} {q : WRes -> Prop} {C : Prop} {r r' : PV} {Q : Exit -> (Nat -> PV) -> PS -> Prop} {ch : Nat -> Bool} {U Ut : List Nat} {k : Nat} {bm : Bool} {D : List Nat}
theorem q10 (kk : WA Tryz.prog N ops ch U Ut (k + 1) rest (Ch N o.dst r F) S bm D q) (hg : Am ops F o = some true := by exact rfl) (hc : ch k = false := by exact rfl) (h : ∀ S', Agree U Ut S S' -> Le tyi Bq F S' o.op = some (C, r, S') := by exact fun _ _ => rfl) (hC : C := by first | exact True.intro | (simp only [IntKind.lo, IntKind.hi]; omega) | omega | decide) : WA Tryz.prog N ops ch U Ut k (o :: rest) F S bm D q := waf hg hc h hC kk
theorem q12 (kk : WA Tryz.prog N ops ch U Ut (k + 1) rest (Ch N o.dst r' F) S bm D q) (hg : Am ops F o = some true := by exact rfl) (hc : ch k = false := by exact rfl) (h : ∀ S', Agree U Ut S S' -> Hz tyi Bq F S' o.op = some (C, r, S') := by exact fun _ _ => rfl) (hr : r = r' := by first | (apply Ck rfl; repeat (first | exact Bp rfl | apply Gx rfl | apply Gy rfl | apply Gz rfl)) | exact Lk rfl | (dsimp only [List.length_cons, List.length_nil, List.length_append, Nat.reduceAdd]; rfl) | rfl) (hC : C := by first | exact True.intro | (simp only [IntKind.lo, IntKind.hi]; omega) | omega | decide) : WA Tryz.prog N ops ch U Ut k (o :: rest) F S bm D q := wafB hg hc h hr hC kk
end
theorem rs2 {G X Y : Prop} (h1 : X) (h2 : Y) (t : Hx X -> Hx Y -> G := by (intro h1 h2; first | exact q17 h1.out h2.out | exact q18 h1.out h2.out | exact q16 h1.out h2.out | fail)) : G := t ⟨h1⟩ ⟨h2⟩
end Go.Proofs.YtiledamgmppcmaaGreatDoor
namespace Go.Proofs.YtiledamgmppcmaaGreatDoor
open Go.RowKit Go.ChangeShapes Go.ChangeAt Go.WideShapes
section
variable {P : Program} {W : World} {H : Type} {enc : TypeId × Value -> H} {base : Nat} {spare : Nat -> Bool} {held : Bool} {r : Reach} {b0 : Nat} {ts : List TypeId} {t : TypeId} {v : Value} {d : DataW H} {p : List MemPlace}
theorem Rv {k : IntKind} (hu : P.underlying t = some (.int k)) (hv : Value.okWide P W r b0 t v) (h : DataW.Trod enc P W base spare held t v d p) : ∃ z, Rep Kz W (.d (.v (.int k z))) v /\ (Lit.int k z).wf = true := by
  obtain ⟨z, rfl, _, _, hw⟩ := open_int hu hv h
  exact ⟨z, ⟨rfl, rfl⟩, hw⟩
variable {n : Nat} {ds : List DV}
end
end Go.Proofs.YtiledamgmppcmaaGreatDoor
namespace Go.Proofs.YtiledamgmppcmaaGreatDoor
open Go.RowKit
theorem Cg (c : UInt8) (w : World) : Calls Tryz.prog 104 #[.int .u8 (c.toNat : Int)] w fun e w' => e = .returned (.bool (B7 c)) /\ w = w' := by
  by_cases h1 : 97 <= (c.toNat : Int)
  . go_enter Tryz.func104, Tryz.ntmps104
    go_wp2
    go_ret
    exact ⟨Au (by simp [B7, h1]), rfl⟩
  . go_enter Tryz.func104, Tryz.ntmps104
    go_wp2
    go_ret
    exact ⟨Au (by rw [Ht (by omega)]), rfl⟩
theorem Es (c : UInt8) (w : World) : Calls Tryz.prog 106 #[.int .u8 (c.toNat : Int)] w fun e w' => e = .returned (.bool (Bi c)) /\ w = w' := by
  by_cases h1 : 48 <= (c.toNat : Int)
  . go_enter Tryz.func106, Tryz.ntmps106
    go_wp2
    go_ret
    exact ⟨Au (by simp [Bi, h1]), rfl⟩
  . go_enter Tryz.func106, Tryz.ntmps106
    go_wp2
    go_ret
    exact ⟨Au (by rw [M6 (by omega)]), rfl⟩
theorem Jv (c : UInt8) (w : World) : Calls Tryz.prog 103 #[.int .u8 (c.toNat : Int)] w fun e w' => e = .returned (.bool (B9 c)) /\ w = w' := by
  have HP : Hid (B9 c = (B7 c || Bi c || Ov c)) := Lib.hid rfl
  have HU : Hid (Ov c = ((c.toNat : Int) == 95)) := Lib.hid (by rw [Bool.eq_iff_iff]; simp [Ov]; omega)
  cases h1 : B7 c <;> cases h2 : Bi c
  all_goals
    go_enter Tryz.func103, Tryz.ntmps103
    go_wp2_with (first | (go_at_call 104; refine (Cg _ _).mono ?_; rintro e w' ⟨rfl, rfl⟩) | (go_at_call 106; refine (Es _ _).mono ?_; rintro e w' ⟨rfl, rfl⟩))
    go_ret
    exact ⟨Au (by rw [HP.out, HU.out, h1, h2]; simp), rfl⟩
theorem Gv (b n c : Nat) (zs : List ByteArray) (x : ByteArray) (w : World) (hz : zs.length = n) (hbig : n <= 1000000)
    (hc : ∀ j, j < n -> w.cell? ⟨b, j, none⟩ = some (.string (zs.getD j ByteArray.empty))) :
    Calls Tryz.prog 105 #[.slice (some ⟨b, 0, none⟩) n c, .string x] w fun e w' => e = .returned (.bool (Q0 zs x)) /\ w = w' := by
  have HZ := Lib.hid hz
  have hz' : n <= zs.length := by omega
  clear hz
  go_enter Tryz.func105, Tryz.ntmps105
  go_wp2
  go_loop [5] (fun i => ∃ k : Nat, k <= n /\ i = .int .i64 k /\ Q0 (zs.take k) x = false) (fun i => n - (intOf i).toNat)
  case atStart => exact ⟨0, Nat.zero_le _, rfl, by simp [Q0]⟩
  case round =>
    obtain ⟨k, hk, rfl, hm⟩ := hrel
    have hcell : k < n -> w.cell? ⟨b, k, none⟩ = some (.string (zs.getD k ByteArray.empty)) := fun h => hc k h
    have HM := Lib.hid hm
    clear hm hc
    go_wp2
    . rename_i hlt _ _ heq _
      go_ret
      exact ⟨Au (Xx zs x k (by omega) (by simpa using (beq_iff_eq.1 heq).symm)).symm, rfl⟩
    . rename_i hlt hne
      refine ⟨⟨k + 1, by omega, by simp, ?_⟩, by simp [intOf]; omega⟩
      exact U9 zs x k (by omega) HM.out (fun h => absurd h.symm (by simpa using hne))
    . rename_i hge _
      go_ret
      refine ⟨Au ?_, rfl⟩
      have hk : k = zs.length := by have := HZ.out; omega
      have h := HM.out
      rw [hk, List.take_length] at h
      exact h.symm
end Go.Proofs.YtiledamgmppcmaaGreatDoor
namespace Go.Proofs.YtiledamgmppcmaaGreatDoor
open Go.RowKit
theorem Dj (w : World) :
    Calls Tryz.prog 58 #[] w fun e w' => e = .returned (.slice (some ⟨w.heap.size, 0, none⟩) 23 23) /\ w.alloc (.cells Cm 9) = w' := by
  go_enter Tryz.func58, Tryz.ntmps58
  go_wp2
  go_ret
  exact ⟨rfl, rfl⟩
theorem Gi (w : World) :
    Calls Tryz.prog 59 #[] w fun e w' => e = .returned (.slice (some ⟨w.heap.size, 0, none⟩) 21 21) /\ w.alloc (.cells Cq 9) = w' := by
  go_enter Tryz.func59, Tryz.ntmps59
  go_wp2
  go_ret
  exact ⟨rfl, rfl⟩
set_option maxHeartbeats 1000000 in
theorem Nw (s : ByteArray) (w : World) (hs : s.size <= 9223372036854775807) :
    Calls Tryz.prog 142 #[.string s] w fun e w' => e = .returned (.bool (Ei s.data.toList)) /\ Below w.heap.size w w' := by
  have hlen : s.data.toList.length = s.size := by simp
  have HL := Lib.hid hlen
  clear hlen
  by_cases h1 : s.size < 1
  . have HF : Hid (Ei s.data.toList = false) := Lib.hid (by
      have hz : s.toList = [] := Ce (by omega)
      rw [Ea, <- Df, hz]; rfl)
    go_enter Tryz.func142, Tryz.ntmps142
    go_wp2
    go_ret
    exact ⟨Au HF.out.symm, Below.refl _ _⟩
  . have hp : 0 < s.size := by omega
    have HH := Lib.hid (Tx hp)
    by_cases h2 : 12 < s.size
    . have HF : Hid (Ei s.data.toList = false) := Lib.hid (by
        rw [Ea, decide_eq_false (by rw [HL.out]; omega)]; simp)
      go_enter Tryz.func142, Tryz.ntmps142
      go_wp2
      go_ret
      exact ⟨Au HF.out.symm, Below.refl _ _⟩
    . cases h3 : B7 s[0]
      . have HF : Hid (Ei s.data.toList = false) := Lib.hid (by
          rw [Ea, HH.out]; simp [h3])
        go_enter Tryz.func142, Tryz.ntmps142
        go_wp2_with (go_at_call 104; refine (Cg _ _).mono ?_; rintro e w' ⟨rfl, rfl⟩)
        go_ret
        exact ⟨Au HF.out.symm, Below.refl _ _⟩
      . cases h4 : Q0 Cc s
        . have HG : Hid (Ei s.data.toList = s.data.toList.all B9) := Lib.hid (by
            rw [Ea, HH.out, <- Cx, h4]; simp [h3]; intro _; omega)
          go_enter Tryz.func142, Tryz.ntmps142
          go_wp2_with (first | (go_at_call 104; refine (Cg _ _).mono ?_; rintro e w' ⟨rfl, rfl⟩) | (go_at_call 58; refine (Dj _).mono ?_; rintro e w' ⟨rfl, rfl⟩) | (go_at_call 105; refine (Gv _ 23 _ Cc _ _ rfl (by omega) (F3 _)).mono ?_; rintro e w' ⟨rfl, rfl⟩))
          go_loop [3] (fun i => ∃ k : Nat, k <= s.size /\ i = .int .i64 k /\ (s.data.toList.take k).all B9 = true) (fun i => s.size - (intOf i).toNat)
          case atStart => exact ⟨0, by omega, rfl, by simp⟩
          case round =>
            obtain ⟨k, hk, rfl, hm⟩ := hrel
            have HM := Lib.hid hm
            clear hm h3 h4
            by_cases hlt : k < s.size
            . have hl : k < s.data.toList.length := by simpa using hlt
              cases h5 : B9 s[k]
              . have HF : Hid (s.data.toList.all B9 = false) := Lib.hid (Il hl h5)
                go_wp2_with (go_at_call 103; refine (Jv _ _).mono ?_; rintro e w' ⟨rfl, rfl⟩)
                go_ret
                exact ⟨Au (by rw [HG.out, HF.out]), (Below.refl _ _).alloc (Nat.le_refl _) _⟩
              . have HP : Hid (B9 s.data.toList[k] = true) := Lib.hid h5
                go_wp2_with (go_at_call 103; refine (Jv _ _).mono ?_; rintro e w' ⟨rfl, rfl⟩)
                go_round
                case rel => exact ⟨k + 1, by omega, by go_num, Mq hl HM.out HP.out⟩
                case measure => simp [intOf]; omega
            . have HA : Hid (s.data.toList.all B9 = true) := Lib.hid (Qt (by simp; omega) HM.out)
              go_wp2
              go_ret
              exact ⟨Au (by rw [HG.out, HA.out]), (Below.refl _ _).alloc (Nat.le_refl _) _⟩
        . have HF : Hid (Ei s.data.toList = false) := Lib.hid (by
            rw [Ea, <- Cx, h4]; simp)
          go_enter Tryz.func142, Tryz.ntmps142
          go_wp2_with (first | (go_at_call 104; refine (Cg _ _).mono ?_; rintro e w' ⟨rfl, rfl⟩) | (go_at_call 58; refine (Dj _).mono ?_; rintro e w' ⟨rfl, rfl⟩) | (go_at_call 105; refine (Gv _ 23 _ Cc _ _ rfl (by omega) (F3 _)).mono ?_; rintro e w' ⟨rfl, rfl⟩))
          go_ret
          exact ⟨Au HF.out.symm, (Below.refl _ _).alloc (Nat.le_refl _) _⟩
theorem Gq (l : List UInt8) : Bl l = (l.all Bi && (l == [48] || (!l.isEmpty && l.head? != some 48 && decide (l.length <= 4)))) := rfl
set_option maxHeartbeats 1000000 in
theorem T5 (s : ByteArray) (w : World) (hs : s.size <= 9223372036854775807) :
    Calls Tryz.prog 146 #[.string s] w fun e w' => e = .returned (.bool (Bl s.data.toList)) /\ w = w' := by
  have hlen : s.data.toList.length = s.size := by simp
  have HL := Lib.hid hlen
  clear hlen
  by_cases h1 : s.size < 1
  . have HF : Hid (Bl s.data.toList = false) := Lib.hid (by
      have hz : s.toList = [] := Ce (by omega)
      rw [Gq, <- Df, hz]; rfl)
    go_enter Tryz.func146, Tryz.ntmps146
    go_wp2
    go_ret
    exact ⟨Au HF.out.symm, rfl⟩
  . have hp : 0 < s.size := by omega
    have HH := Lib.hid (Tx hp)
    have HE : Hid (s.data.toList.isEmpty = false) := Lib.hid (by rw [<- Df]; exact Do hp)
    by_cases h2 : 4 < s.size
    . have HF : Hid (Bl s.data.toList = false) := Lib.hid (by
        have h48 : (s.data.toList == [48]) = false := by
          rw [beq_eq_false_iff_ne]; intro h
          have := HL.out
          rw [h] at this; simp at this; omega
        rw [Gq, decide_eq_false (by rw [HL.out]; omega), h48]; simp)
      go_enter Tryz.func146, Tryz.ntmps146
      go_wp2
      go_ret
      exact ⟨Au HF.out.symm, rfl⟩
    . by_cases h3 : 1 < s.size /\ s[0] = 48
      . obtain ⟨h3, h4⟩ := h3
        have h5 : ((s[0].toNat : Int) == 48) = true := by rw [h4]; rfl
        have HF : Hid (Bl s.data.toList = false) := Lib.hid (by
          have h48 : (s.data.toList == [48]) = false := by
            rw [beq_eq_false_iff_ne]; intro h
            have := HL.out
            rw [h] at this; simp at this; omega
          rw [Gq, HH.out, h4, h48]; simp)
        clear h4
        go_enter Tryz.func146, Tryz.ntmps146
        go_wp2
        go_ret
        exact ⟨Au HF.out.symm, rfl⟩
      . have HG : Hid (Bl s.data.toList = s.data.toList.all Bi) := Lib.hid (by
          have : (s.data.toList == [48] || (!s.data.toList.isEmpty && s.data.toList.head? != some 48 && decide (s.data.toList.length <= 4))) = true := by
            rw [HE.out, HH.out, HL.out, decide_eq_true (by omega : s.size <= 4)]
            by_cases h4 : s[0] = 48
            . have h6 : s.size = 1 := by
                rcases Nat.lt_or_ge 1 s.size with h | h
                . exact absurd ⟨h, h4⟩ h3
                . omega
              have h7 : s.data.toList = [48] := by
                have hh := HH.out
                rw [h4] at hh
                cases e : s.data.toList with
                | nil => rw [e] at hh; simp at hh
                | cons a t =>
                  rw [e] at hh
                  have hl := HL.out
                  rw [e, h6] at hl
                  simp at hh hl
                  rw [hh, hl]
              rw [h7]; rfl
            . simp [h4]
          rw [Gq, this]; simp)
        by_cases h6 : 1 < s.size
        case' pos =>
          have h7 : ((s[0].toNat : Int) == 48) = false := by
            rw [beq_eq_false_iff_ne]; intro h; exact h3 ⟨h6, UInt8.toNat_inj.1 (by simpa using Int.ofNat.inj h)⟩
        all_goals
          clear h3
          go_enter Tryz.func146, Tryz.ntmps146
          go_wp2
          go_loop [3] (fun i => ∃ k : Nat, k <= s.size /\ i = .int .i64 k /\ (s.data.toList.take k).all Bi = true) (fun i => s.size - (intOf i).toNat)
          case atStart => exact ⟨0, by omega, rfl, by simp⟩
          case round =>
            obtain ⟨k, hk, rfl, hm⟩ := hrel
            have HM := Lib.hid hm
            clear hm
            by_cases hlt : k < s.size
            . have hl : k < s.data.toList.length := by simpa using hlt
              cases h5 : Bi s[k]
              . have HF : Hid (s.data.toList.all Bi = false) := Lib.hid (Il hl h5)
                go_wp2_with (go_at_call 106; refine (Es _ _).mono ?_; rintro e w' ⟨rfl, rfl⟩)
                go_ret
                exact ⟨Au (by rw [HG.out, HF.out]), rfl⟩
              . have HP : Hid (Bi s.data.toList[k] = true) := Lib.hid h5
                go_wp2_with (go_at_call 106; refine (Es _ _).mono ?_; rintro e w' ⟨rfl, rfl⟩)
                go_round
                case rel => exact ⟨k + 1, by omega, by go_num, Mq hl HM.out HP.out⟩
                case measure => simp [intOf]; omega
            . have HA : Hid (s.data.toList.all Bi = true) := Lib.hid (Qt (by simp; omega) HM.out)
              go_wp2
              go_ret
              exact ⟨Au (by rw [HG.out, HA.out]), rfl⟩
end Go.Proofs.YtiledamgmppcmaaGreatDoor
namespace Go.Proofs.YtiledamgmppcmaaGreatDoor
open Go.RowKit
set_option maxHeartbeats 1000000 in
theorem I8 (kind : Int) (s : ByteArray) (w : World) (hs : s.size <= 9223372036854775807) :
    Calls Tryz.prog 107 #[.int .i64 kind, .string s] w fun e w' => e = .returned (.bool (Ay kind s.data.toList)) /\ Below w.heap.size w w' := by
  by_cases h1 : kind = 1
  . subst h1
    go_enter Tryz.func107, Tryz.ntmps107
    go_wp2_with (go_at_call 142; refine (Nw _ _ hs).mono ?_; rintro e w1 ⟨rfl, hb1⟩)
    go_ret
    exact ⟨Au rfl, hb1⟩
  . by_cases h2 : kind = 2
    . subst h2
      go_enter Tryz.func107, Tryz.ntmps107
      go_wp2_with (first | (go_at_call 58; refine (Dj _).mono ?_; rintro e w' ⟨rfl, rfl⟩) | (go_at_call 105; refine (Gv _ 23 _ Cc _ _ rfl (by omega) (F3 _)).mono ?_; rintro e w' ⟨rfl, rfl⟩))
      go_ret
      exact ⟨Au (by rw [Ep, Cx]; rfl), (Below.refl _ _).alloc (Nat.le_refl _) _⟩
    . by_cases h3 : kind = 3
      . subst h3
        go_enter Tryz.func107, Tryz.ntmps107
        go_wp2_with (go_at_call 146; refine (T5 _ _ hs).mono ?_; rintro e w' ⟨rfl, rfl⟩)
        go_ret
        exact ⟨Au rfl, Below.refl _ _⟩
      . by_cases h4 : kind = 4
        . subst h4
          go_enter Tryz.func107, Tryz.ntmps107
          go_wp2_with (first | (go_at_call 59; refine (Gi _).mono ?_; rintro e w' ⟨rfl, rfl⟩) | (go_at_call 105; refine (Gv _ 21 _ Dc _ _ rfl (by omega) (Qq _)).mono ?_; rintro e w' ⟨rfl, rfl⟩))
          go_ret
          exact ⟨Au (by rw [Ep, Em]; rfl), (Below.refl _ _).alloc (Nat.le_refl _) _⟩
        . have HF : Hid (Ay kind s.data.toList = false) := Lib.hid (by rw [Ep, if_neg h1, if_neg h2, if_neg h3, if_neg h4])
          go_enter Tryz.func107, Tryz.ntmps107
          go_wp2
          go_ret
          exact ⟨Au HF.out.symm, Below.refl _ _⟩
set_option maxHeartbeats 1000000 in
theorem We (kind : Int) (s : ByteArray) (a : Int) (w : World) (hs : s.size <= 9223372036854775807) :
    Calls Tryz.prog 72 #[.agg #[.int .i64 kind, .string s, .int .i64 a]] w fun e w' => e = .returned (.int .i64 (B5 kind s.data.toList a)) /\ Below w.heap.size w w' := by
  by_cases h1 : a < 0
  . have HF : Hid (B5 kind s.data.toList a = 340) := Lib.hid (if_pos (.inl h1))
    go_enter Tryz.func72, Tryz.ntmps72
    go_wp2
    go_ret
    exact ⟨Jl HF.out.symm, (Below.refl _ _).alloc (Nat.le_refl _) _⟩
  . by_cases h2 : 20000 <= a
    . have HF : Hid (B5 kind s.data.toList a = 340) := Lib.hid (if_pos (.inr (.inl h2)))
      go_enter Tryz.func72, Tryz.ntmps72
      go_wp2
      go_ret
      exact ⟨Jl HF.out.symm, (Below.refl _ _).alloc (Nat.le_refl _) _⟩
    . cases h3 : Ay kind s.data.toList
      . have HF : Hid (B5 kind s.data.toList a = 340) := Lib.hid (if_pos (.inr (.inr h3)))
        go_enter Tryz.func72, Tryz.ntmps72
        go_wp2_with (go_at_call 107; refine (I8 _ _ _ hs).mono ?_; rintro e w1 ⟨rfl, hb1⟩)
        go_ret
        exact ⟨Jl HF.out.symm, ((Below.refl _ _).alloc (Nat.le_refl _) _).trans (hb1.mono (by simp))⟩
      . have HF : Hid (B5 kind s.data.toList a = 0) := Lib.hid (if_neg (by rw [h3]; simp; omega))
        go_enter Tryz.func72, Tryz.ntmps72
        go_wp2_with (go_at_call 107; refine (I8 _ _ _ hs).mono ?_; rintro e w1 ⟨rfl, hb1⟩)
        go_ret
        exact ⟨Jl HF.out.symm, ((Below.refl _ _).alloc (Nat.le_refl _) _).trans (hb1.mono (by simp))⟩
end Go.Proofs.YtiledamgmppcmaaGreatDoor
namespace Go.Proofs.YtiledamgmppcmaaGreatDoor
open Go.RowKit
theorem Abq {a b : UInt8} (h : a ≠ b) : ((a.toNat : Int) != (b.toNat : Int)) = true := by rw [bne, Nh h]; rfl
theorem Pz {l : List UInt8} {k : Nat} (h : k < l.length) (hc : l[k] ≠ 10) : Bb true (l.drop k) = Bb true (l.drop (k + 1)) := by
  rw [H4 h]; simp [Bb, hc]
theorem T8 {l : List UInt8} {k : Nat} (h : k < l.length) (hc : l[k] = 35) : Bb true (l.drop k) = Bb false (l.drop k) := by
  rw [Oo h hc]; exact Pz h (by rw [hc]; decide)
theorem Acz {l : List UInt8} {k : Nat} (h : k < l.length) (hc : l[k] = 10) : Bb false (l.drop k) = Bb true (l.drop k) := by
  rw [H4 h]; simp [Bb, hc]
theorem Zl {l : List UInt8} {k : Nat} (h : l.length <= k) : Bb false (l.drop k) = Bb true (l.drop k) := by
  rw [List.drop_eq_nil_of_le h]; rfl
set_option maxRecDepth 100000 in
set_option maxHeartbeats 4000000 in
theorem R1 (s : ByteArray) (k : Nat) (w : World) (hs : s.size <= 1000000) (hk : k <= s.size) :
    Calls Tryz.prog 61 #[.string s, .int .i64 k] w fun e w' => e = .returned (.int .i64 (M3 s.data.toList k)) /\ w = w' := by
  go_enter Tryz.func61, Tryz.ntmps61
  go_wp2
  go_loop [1] (fun i => ∃ k' : Nat, k <= k' /\ k' <= s.size /\ i = .int .i64 k' /\ Bb false (s.data.toList.drop k') = Bb false (s.data.toList.drop k)) (fun i => s.size - (intOf i).toNat)
  case atStart => exact ⟨k, Nat.le_refl _, hk, rfl, rfl⟩
  case round =>
    obtain ⟨k', hk1, hk2, rfl, hsk⟩ := hrel
    have HK := Lib.hid hsk
    clear hsk
    by_cases hlt : k' < s.size
    . have hl : k' < s.data.toList.length := by simpa using hlt
      by_cases h32 : s[k'] = 32
      . have f1 : ((s[k'].toNat : Int) == 32) = true := by rw [h32]; rfl
        have f2 : ((s[k'].toNat : Int) != 35) = true := by rw [h32]; rfl
        have HN : Hid (Bb false (s.data.toList.drop (k' + 1)) = Bb false (s.data.toList.drop k)) := Lib.hid ((Nd hl (.inl h32)).symm.trans HK.out)
        clear h32
        go_wp2
        go_round
        case rel => exact ⟨k' + 1, by omega, by omega, by go_num, HN.out⟩
        case measure => simp [intOf]; omega
      . have f1 : ((s[k'].toNat : Int) == 32) = false := Nh h32
        by_cases h10 : s[k'] = 10
        . have f2 : ((s[k'].toNat : Int) == 10) = true := by rw [h10]; rfl
          have f3 : ((s[k'].toNat : Int) != 35) = true := by rw [h10]; rfl
          have HN : Hid (Bb false (s.data.toList.drop (k' + 1)) = Bb false (s.data.toList.drop k)) := Lib.hid ((Nd hl (.inr h10)).symm.trans HK.out)
          clear h32 h10
          go_wp2
          go_round
          case rel => exact ⟨k' + 1, by omega, by omega, by go_num, HN.out⟩
          case measure => simp [intOf]; omega
        . have f2 : ((s[k'].toNat : Int) == 10) = false := Nh h10
          by_cases h35 : s[k'] = 35
          . have f3 : ((s[k'].toNat : Int) == 35) = true := by rw [h35]; rfl
            have f4 : ((s[k'].toNat : Int) != 35) = false := by rw [h35]; rfl
            have HC := Lib.hid h35
            clear h32 h10 h35
            go_wp2
            go_loop [1] (fun i => ∃ e : Nat, k' <= e /\ e <= s.size /\ i = .int .i64 e /\ Bb true (s.data.toList.drop e) = Bb false (s.data.toList.drop k)) (fun i => s.size - (intOf i).toNat)
            case atStart => exact ⟨k', Nat.le_refl _, by omega, rfl, (T8 hl HC.out).trans HK.out⟩
            case round =>
              obtain ⟨e, he1, he2, rfl, hE⟩ := hrel
              have HE := Lib.hid hE
              clear hE
              by_cases hle : e < s.size
              . have hle' : e < s.data.toList.length := by simpa using hle
                by_cases hn : s[e] = 10
                . have g1 : ((s[e].toNat : Int) != 10) = false := by rw [hn]; rfl
                  have hgt : k' < e := by
                    rcases Nat.lt_or_ge k' e with h | h
                    . exact h
                    . obtain rfl : e = k' := by omega
                      have h2 := HC.out
                      rw [hn] at h2
                      exact absurd h2 (by decide)
                  have HN : Hid (Bb false (s.data.toList.drop e) = Bb false (s.data.toList.drop k)) := Lib.hid ((Acz hle' hn).trans HE.out)
                  clear hn
                  go_wp2
                  go_round
                  case rel => exact ⟨e, by omega, by omega, rfl, HN.out⟩
                  case measure => simp [intOf]; omega
                . have g1 : ((s[e].toNat : Int) != 10) = true := Abq hn
                  have HN : Hid (Bb true (s.data.toList.drop (e + 1)) = Bb false (s.data.toList.drop k)) := Lib.hid ((Pz hle' hn).symm.trans HE.out)
                  clear hn
                  go_wp2
                  go_round
                  case rel => exact ⟨e + 1, by omega, by omega, by go_num, HN.out⟩
                  case measure => simp [intOf]; omega
              . have HN : Hid (Bb false (s.data.toList.drop e) = Bb false (s.data.toList.drop k)) := Lib.hid ((Zl (by simp; omega)).trans HE.out)
                go_wp2
                go_round
                case rel => exact ⟨e, by omega, by omega, rfl, HN.out⟩
                case measure => simp [intOf]; omega
          . have f3 : ((s[k'].toNat : Int) == 35) = false := Nh h35
            have HN : Hid (M3 s.data.toList k = k') := Lib.hid (Td HK.out (Wr hl h32 h10 h35) (by omega))
            clear h32 h10 h35
            go_wp2
            go_ret
            exact ⟨Jl (by rw [HN.out]), rfl⟩
    . have HN : Hid (M3 s.data.toList k = k') := Lib.hid (Td HK.out (Ac0 (by simp; omega)) (by simp; omega))
      go_wp2
      go_ret
      exact ⟨Jl (by rw [HN.out]), rfl⟩
end Go.Proofs.YtiledamgmppcmaaGreatDoor
namespace Go.Proofs.YtiledamgmppcmaaGreatDoor
open Go.RowKit
section
variable {P : Program} {ops : Array Oper} {md : Region.Mode} {C : World -> Prop}
def N6 (P : Program) (md : Region.Mode) (ops : Array Oper) (C : World -> Prop) (n : Nat) (L : Array Bool -> Act -> Prop) : Nat -> Array Bool -> Act -> Prop
  | 0, listed, a => L listed a
  | f + 1, listed, a =>
    Region.ready md ops listed ≠ [] /\ ∀ i ∈ Region.ready md ops listed, i < n /\ qOp P ops C i (N6 P md ops C n L f (listed.setIfInBounds i true)) a
theorem Ju {n g : Nat} {L : Array Bool -> Act -> Prop} {Q' : Exit -> Act -> World -> Prop} (hL : ∀ listed a w, C w -> L listed a -> wpAny P md ops Q' g listed a w) :
    ∀ (f : Nat) (listed : Array Bool) (a : Act) (w : World), C w -> N6 P md ops C n L f listed a -> wpAny P md ops Q' (f + g) listed a w
  | 0, listed, a, w, hw, h => by rw [Nat.zero_add]; exact hL _ _ _ hw h
  | f + 1, listed, a, w, hw, h => by
    rw [show f + 1 + g = (f + g) + 1 by omega]
    exact ⟨fun h0 => absurd h0 h.1, fun i hi => wpOp_of_qOp hw (fun a' w' hw' h' => Ju hL f _ a' w' hw' h') (h.2 i hi).2⟩
theorem Qy {n i : Nat} {oi : Oper} {v : Value} {L : Array Bool -> Act -> Prop} (hi : ops[i]? = some oi) (hsel : ∀ (j : Nat) (o : Oper) cs b, ops[j]? = some o -> o.op ≠ .select cs b)
    (hs : Region.sinkB md ops n = true) (hc : Region.chainB md ops n = true) (hn : n < ops.size) (hin : i < n)
    (hdone : ∀ listed a, L listed a -> ∀ j ∈ Region.ready md ops listed, n <= j) :
    ∀ (f : Nat) (listed : Array Bool) (a : Act), HeadInv md ops n listed ->
      (∀ j oj, ops[j]? = some oj -> j ≠ i -> listed.getD j true = false -> (∀ e ∈ oj.after, Region.binds md e = true -> e.on ≠ i) -> oi.apart ops oj = true) ->
      i ∈ Region.ready md ops listed -> YieldsIn P ops C oi v a ->
      N6 P md ops C n L f (listed.setIfInBounds i true) (a.put oi.dst v) -> N6 P md ops C n L (f + 1) listed a := by
  intro f
  induction f with
  | zero =>
    intro listed a inv _ hr hy H
    have hun := (mem_ready.1 hr).1
    refine ⟨fun h => (by rw [h] at hr; cases hr), fun j hj => ?_⟩
    have hjn : j < n := by
      rcases Nat.lt_or_ge j n with h | h
      . exact h
      . exact absurd hj (tail_waits hs hc hn inv _ i rfl hin hun j h)
    refine ⟨hjn, ?_⟩
    by_cases hji : j = i
    . subst hji; exact hy.qOp hi H
    . have := hdone _ _ H j (ready_mono hj hji)
      omega
  | succ f ih =>
    intro listed a inv hfree hr hy H
    have hun := (mem_ready.1 hr).1
    refine ⟨fun h => (by rw [h] at hr; cases hr), fun j hj => ?_⟩
    have hjn : j < n := by
      rcases Nat.lt_or_ge j n with h | h
      . exact h
      . exact absurd hj (tail_waits hs hc hn inv _ i rfl hin hun j h)
    refine ⟨hjn, ?_⟩
    by_cases hji : j = i
    . subst hji; exact hy.qOp hi H
    . have h1 := (H.2 j (ready_mono hj hji)).2
      obtain ⟨hjun, oj, hoj, hall⟩ := mem_ready.1 hj
      have hnot : ∀ e ∈ oj.after, Region.binds md e = true -> e.on ≠ i := fun e he hb heq => by
        have h1 := hall e he hb
        rw [heq, getD_both hun] at h1
        cases h1
      have h2 := qOp_put hoj (hfree j oj hoj hji hjun hnot) (fun cs b => hsel i oi cs b hi) (fun cs b => hsel j oj cs b hoj) hy h1
      have hfree' : ∀ k ok, ops[k]? = some ok -> k ≠ i -> (listed.setIfInBounds j true).getD k true = false ->
          (∀ e ∈ ok.after, Region.binds md e = true -> e.on ≠ i) -> oi.apart ops ok = true := fun k ok hk hki hun hno => by
        refine hfree k ok hk hki ?_ hno
        by_cases hjk : j = k
        . subst hjk; exact hjun
        . rw [getD_set_ne true hjk] at hun; exact hun
      refine qOp_mono (fun a' h3 => ih (listed.setIfInBounds j true) a' (inv.set hj hjn) hfree' (ready_mono hr (Ne.symm hji)) h3.1 ?_) h2
      rw [Array.setIfInBounds_comm _ _ hji]
      exact h3.2
theorem N7 {n g : Nat} {Lq : Act -> Prop} (hsel : Region.noSelect ops = true) (hs : Region.sinkB md ops n = true) (hc : Region.chainB md ops n = true) (hn : n < ops.size) :
    ∀ (l : List Oper) (k : Nat) (listed : Array Bool) (a : Act), (∀ j, j < l.length -> l[j]? = ops[k + j]?) -> k + l.length = n -> HeadInv md ops n listed ->
    Region.lexHead md ops g l.length k listed = true -> wpQuiet P ops C Lq l a ->
    N6 P md ops C n (fun listed' a' => Region.seqB md ops g n listed' = true /\ Lq a') l.length listed a
  | [], k, listed, a, _, hk, _, hB, h => by
    have : k = n := by simpa using hk
    subst this
    exact ⟨by simpa [Region.lexHead] using hB, h⟩
  | o :: l, k, listed, a, hl, hk, inv, hB, h => by
    have h0 : ops[k]? = some o := by simpa using (hl 0 (by simp)).symm
    simp only [List.length_cons, Region.lexHead, Bool.and_eq_true] at hB
    obtain ⟨⟨hr, hf⟩, hB'⟩ := hB
    have hkn : k < n := by simp only [List.length_cons] at hk; omega
    have hr' : k ∈ Region.ready md ops listed := by simpa using hr
    have hst : qOp P ops C k (wpQuiet P ops C Lq l) a := by unfold qOp; simp only [h0]; exact h
    obtain ⟨v, hy, hK⟩ := yieldsIn_of_qOp h0 hst
    exact Qy h0 (Region.noSelect_spec hsel) hs hc hn hkn (fun listed' a' hL => seqB_ready hL.1) l.length listed a inv (Region.free_spec h0 hf) hr' hy
      (N7 hsel hs hc hn l (k + 1) _ _ (fun j hj => by have := hl (j + 1) (by simp; omega); simpa [Nat.add_assoc, Nat.add_comm 1 j] using this) (by simp only [List.length_cons] at hk; omega) (inv.set hr' hkn) hB' hK)
theorem Jo {id : Nat} {Q : Exit -> Act -> World -> Prop} {a : Act} {w : World} {l : List Oper} (n : Nat) (hm : P.follows .mixedOrders = true) (hB : Region.lexTailB .any l.toArray n = true) (hC : C { w with drawn := w.drawn + 1 })
    (h : wpQuiet P l.toArray C (fun a' => ∀ w', C w' -> wpList P l.toArray Q (l.drop n) a' w') (l.take n) a) : (Code.region id l.toArray true).wp P Q a w := by
  simp only [Region.lexTailB, Bool.and_eq_true, decide_eq_true_eq] at hB
  obtain ⟨⟨⟨⟨hsel, hn⟩, hs⟩, hc⟩, hlex⟩ := hB
  have hn' : n < l.length := by simpa using hn
  have htl : (l.take n).length = n := by simp; omega
  have hdl : (l.drop n).length = l.toArray.size - n := by simp
  have inv0 : HeadInv .any l.toArray n (Array.replicate l.toArray.size false) :=
    ⟨by simp, fun j oj _ hl => (by rw [getD_replicate_false] at hl; cases hl), fun t _ ht => getD_in (by simpa using ht) (getD_replicate_false _ _)⟩
  have H := N7 (C := C) (md := .any) (g := l.toArray.size - n) hsel hs hc hn (l.take n) 0 _ a (fun j hj => by
    have hj' : j < n := by rw [htl] at hj; exact hj
    simp [hj']) (by simpa using htl) inv0 (by rw [htl]; exact hlex) h
  refine wp_region_any hm ?_
  have := Ju (Q' := Q) (g := l.toArray.size - n) (fun listed a' w' hw' hL => by
    have := wpAny_of_seq (md := .any) (Q' := Q) (l.drop n) n listed a' w' (fun j => by simp [List.getElem?_drop]) (by rw [hdl]; exact hL.1) (hL.2 w' hw')
    rwa [hdl] at this) _ _ _ _ hC H
  rw [htl, show n + (l.toArray.size - n) = l.toArray.size by omega] at this
  exact this
theorem Fb {id : Nat} {Q : Exit -> Act -> World -> Prop} {a : Act} {w : World} {l : List Oper} (n : Nat) (hm : P.follows .mixedOrders = true) (hB : Region.lexTailB .any l.toArray n = true)
    (h : wpQuiet P l.toArray (fun w' => ∃ x : Later w, w' = x.world) (fun a' => ∀ w', Below w.heap.size w w' -> wpList P l.toArray Q (l.drop n) a' w') (l.take n) a) : (Code.region id l.toArray true).wp P Q a w := by
  refine Jo (C := fun w' => ∃ x : Later w, w' = x.world) n hm hB ⟨⟨_, Oz w⟩, rfl⟩ ?_
  have e : (fun a' => ∀ w', (∃ x : Later w, w' = x.world) -> wpList P l.toArray Q (l.drop n) a' w') = (fun a' => ∀ w', Below w.heap.size w w' -> wpList P l.toArray Q (l.drop n) a' w') := by
    funext a'
    exact propext ⟨fun h w' hb => h w' ⟨⟨w', hb⟩, rfl⟩, fun h w' ⟨x, hx⟩ => by rw [hx]; exact h _ x.below⟩
  rw [e]
  exact h
end
end Go.Proofs.YtiledamgmppcmaaGreatDoor
namespace Go.Proofs.YtiledamgmppcmaaGreatDoor
open Go.RowKit
def Kd (s : ByteArray) (k : Nat) (w : World) (e : Ending) (w' : World) : Prop :=
  e = .returned (.tuple #[.agg #[.int .i64 (Dk (s.data.toList.drop k)).1, .string (Aq (Dk (s.data.toList.drop k)).2), .int .i64 k], .bool (Ay (Dk (s.data.toList.drop k)).1 (Dk (s.data.toList.drop k)).2)]) /\ Below w.heap.size w w'
def Adu (s : ByteArray) (k : Nat) (w w' : World) : Prop :=
  ∃ tx : ByteArray, Cw w' (w.heap.size + 1) (Dk (s.data.toList.drop k)).1 tx k /\ tx.data.toList = (Dk (s.data.toList.drop k)).2 /\ Cw w' w.heap.size 0 ⟨#[]⟩ 0 /\ Below w.heap.size w w'
theorem Hs {s : ByteArray} {k : Nat} : (s.extract k (k + 1)).data.toList = (s.data.toList.drop k).take 1 := by
  rw [Cj, show k + 1 - k = 1 from by omega]
theorem Gp {s : ByteArray} {k : Nat} : (s.extract k (k + 2)).data.toList = (s.data.toList.drop k).take 2 := by
  rw [Cj, show k + 2 - k = 2 from by omega]
theorem Zu {s : ByteArray} {k : Nat} (h : ¬ k + 2 <= s.size) : (s.data.toList.drop k).take 2 = (s.data.toList.drop k).take 1 := by
  rw [List.take_of_length_le (by simp; omega), List.take_of_length_le (by simp; omega)]
set_option maxRecDepth 100000 in
set_option maxHeartbeats 4000000 in
theorem Acs (s : ByteArray) (k : Nat) (w : World) (hs : s.size <= 1000000) (hk : k < s.size) :
    Calls Tryz.prog 62 #[.string s, .int .i64 k] w (Kd s k w) := by
  go_enter Tryz.func62, Tryz.ntmps62
  go_wp2
  go_loop [6] (fun i => ∃ e : Nat, k <= e /\ e <= s.size /\ i = .int .i64 e /\ ((s.data.toList.drop k).take (e - k)).all B9 = true) (fun i => s.size - (intOf i).toNat)
  case atStart => exact ⟨k, Nat.le_refl _, by omega, rfl, by simp⟩
  case round =>
    obtain ⟨e, he1, he2, rfl, hall⟩ := hrel
    have HA := Lib.hid hall
    clear hall
    by_cases hmore : ∃ h : e < s.size, B9 s[e] = true
    . obtain ⟨hlt, hp⟩ := hmore
      have HP := Lib.hid hp
      go_wp2_with (go_at_call 103; refine (Jv _ _).mono ?_; rintro e' w1 ⟨rfl, rfl⟩)
      go_round
      case rel =>
        refine ⟨e + 1, by omega, by omega, by go_num, ?_⟩
        rw [show e + 1 - k = (e - k) + 1 from by omega]
        exact Mq (by simp; omega) HA.out (by rw [V7 hlt he1]; exact HP.out)
      case measure => simp [intOf]; omega
    . have HW : Hid ((s.data.toList.drop k).takeWhile B9 = (s.data.toList.drop k).take (e - k)) := Lib.hid (Sb (by simp; omega) HA.out (fun h' => by
        have hlt : e < s.size := by simp at h'; omega
        have : B9 s[e] = false := by
          cases hp : B9 s[e]
          . rfl
          . exact absurd ⟨hlt, hp⟩ hmore
        rw [V7 hlt he1]; exact this))
      by_cases hlt : e < s.size
      . have hp : B9 s[e] = false := by
          cases hp : B9 s[e]
          . rfl
          . exact absurd ⟨hlt, hp⟩ hmore
        clear hmore
        go_wp2_with fail
        refine (Jv _ _).mono ?_
        rintro e' w1 ⟨rfl, rfl⟩
        go_upto_block 2 with (fail)
        have hne : ¬ w.heap.size = w.heap.size + 1 := by omega
        go_cut [] (fun w' => Adu s k w w')
        case first =>
          refine E1 (F := fun w' => Cw w' (w.heap.size + 1) 0 ⟨#[]⟩ k /\ Cw w' w.heap.size 0 ⟨#[]⟩ 0 /\ Below w.heap.size w w') ⟨A2 (by simp), At (A2 rfl), ((Below.refl _ _).alloc (Nat.le_refl _) _).alloc (by simp) _⟩ ?_
          rintro w2 ⟨hT2, hZ2, hB2⟩
          have HT2 := Lib.hid hT2
          have HZ2 := Lib.hid hZ2
          have HB2 := Lib.hid hB2
          have d20 := hT2.cells
          have d21 := hT2.free
          have d22 := B8 hT2
          clear hT2 hZ2 hB2
          cases hlet : B7 s[k]
          . cases hdig : Bi s[k]
            . have HS : Hid (Dk (s.data.toList.drop k) = (4, if Oi Bz ((s.data.toList.drop k).take 2) then (s.data.toList.drop k).take 2 else (s.data.toList.drop k).take 1)) := Lib.hid (Pm hk hlet hdig)
              go_wp2_with (first | (go_at_call 104; refine (Cg _ _).mono ?_; rintro e' w' ⟨rfl, rfl⟩) | (go_at_call 106; refine (Es _ _).mono ?_; rintro e' w' ⟨rfl, rfl⟩))
              have g1 : (0 : Int) <= (k : Int) + 1 := by omega
              have g2 : (k : Int) + 1 <= s.size := by omega
              have g3 : ((k : Int) + 1).toNat = k + 1 := by omega
              have g4 : IntKind.i64.wrap ((k : Int) + 1) = (k : Int) + 1 := IntWalk.i64_in _ (by omega)
              go_region
              go_wp2_with fail
              clear g1 g2 g3 g4
              refine E1 (F := fun w' => Cw w' (w.heap.size + 1) (4) (s.extract k (k + 1)) k /\ Cw w' w.heap.size 0 ⟨#[]⟩ 0 /\ Below w.heap.size w w') ⟨(HT2.out.set0 4).set1 _, (HZ2.out.far hne _ _).far hne _ _, ((HB2.out.setCell (p := ⟨w.heap.size + 1, 0, none⟩) (Nat.le_succ _) _).setCell (p := ⟨w.heap.size + 1, 1, none⟩) (Nat.le_succ _) _).drew⟩ ?_
              rintro w3 ⟨hT3, hZ3, hB3⟩
              clear d20 d21 d22 HT2 HZ2 HB2
              have HT3 := Lib.hid hT3
              have HZ3 := Lib.hid hZ3
              have HB3 := Lib.hid hB3
              have d30 := hT3.cells
              have d31 := hT3.free
              have d32 := B8 hT3
              clear hT3 hZ3 hB3
              have d31' := d31.2.1
              by_cases h2 : k + 2 <= s.size
              . have g1 : decide ((k : Int) + 2 <= s.size) = true := by simp; omega
                have g5 : (0 : Int) <= (k : Int) + 2 := by omega
                have g6 : (k : Int) <= (k : Int) + 2 := by omega
                have g7 : (0 : Int) <= (k : Int) := by omega
                have g8 : ((k : Int)).toNat = k := by omega
                have g2 : (k : Int) + 2 <= s.size := by omega
                have g3 : ((k : Int) + 2).toNat = k + 2 := by omega
                have g4 : IntKind.i64.wrap ((k : Int) + 2) = (k : Int) + 2 := IntWalk.i64_in _ (by omega)
                have HB4 := Lib.hid (((Below.refl w3.heap.size w3).alloc (Nat.le_refl _) (.cells Cq 9)).drew)
                have HT5 := Lib.hid (HT3.out.set1 (s.extract k (k + 2)))
                have HZ5 := Lib.hid (HZ3.out.far hne 1 (.string (s.extract k (k + 2))))
                have HB5 := Lib.hid (HB3.out.setCell (p := ⟨w.heap.size + 1, 1, none⟩) (Nat.le_succ _) (.string (s.extract k (k + 2))))
                have HB6 := Lib.hid (((Below.refl (w3.setCell ⟨w.heap.size + 1, 1, none⟩ (.string (s.extract k (k + 2)))).heap.size (w3.setCell ⟨w.heap.size + 1, 1, none⟩ (.string (s.extract k (k + 2))))).alloc (Nat.le_refl _) (.cells Cq 9)).drew)
                cases hm : Q0 Dc (s.extract k (k + 2))
                . have HO : Hid (Dk (s.data.toList.drop k) = (4, (s.extract k (k + 1)).data.toList)) := Lib.hid (by
                    rw [HS.out, <- Gp, <- Em, hm, Hs]; rfl)
                  clear hlet hdig
                  go_region_held3 (fun _ => True) (trivial) (first | (go_at_call 59; refine (Gi _).mono ?_; rintro e w' ⟨rfl, rfl⟩) | (go_at_call 105; refine (Gv _ 21 _ Dc _ _ rfl (by omega) (Du _)).mono ?_; rintro e w' ⟨rfl, rfl⟩))
                  all_goals clear g1 g2 g3 g4 g5 g6 g7 g8
                  all_goals go_wp2_with fail
                  all_goals go_meet
                  all_goals exact ⟨s.extract k (k + 1), by rw [HO.out]; exact HT3.out.below HB4.out, by rw [HO.out], HZ3.out.below HB4.out, HB3.out.trans (HB4.out.mono HB3.out.size)⟩
                . have HO : Hid (Dk (s.data.toList.drop k) = (4, (s.extract k (k + 2)).data.toList)) := Lib.hid (by
                    rw [HS.out, <- Gp, <- Em, hm]; rfl)
                  clear hlet hdig
                  go_region_held3 (fun _ => True) (trivial) (first | (go_at_call 59; refine (Gi _).mono ?_; rintro e w' ⟨rfl, rfl⟩) | (go_at_call 105; refine (Gv _ 21 _ Dc _ _ rfl (by omega) (Du _)).mono ?_; rintro e w' ⟨rfl, rfl⟩))
                  all_goals go_wp2_with fail
                  all_goals go_meet
                  all_goals exact ⟨s.extract k (k + 2), by rw [HO.out]; exact HT5.out.below HB6.out, by rw [HO.out], HZ5.out.below HB6.out, HB5.out.trans (HB6.out.mono HB5.out.size)⟩
              . have g1 : decide ((k : Int) + 2 <= s.size) = false := by simp; omega
                have g4 : IntKind.i64.wrap ((k : Int) + 2) = (k : Int) + 2 := IntWalk.i64_in _ (by omega)
                have HO : Hid (Dk (s.data.toList.drop k) = (4, (s.extract k (k + 1)).data.toList)) := Lib.hid (by
                    rw [HS.out, Zu h2, <- Hs]; simp)
                refine Al (by kernel_rfl) (by kernel_rfl) ?_
                repeat (go_big_quiet_step (fail))
                refine wpQuiet_nil ?_
                intro w4 hb4
                clear g1 g4
                go_wp2_with fail
                go_meet
                case rel => exact ⟨s.extract k (k + 1), by rw [HO.out]; exact HT3.out.below hb4, by rw [HO.out], HZ3.out.below hb4, HB3.out.trans (hb4.mono HB3.out.size)⟩
            . have HO : Hid (Dk (s.data.toList.drop k) = (3, (s.extract k e).data.toList)) := Lib.hid (by rw [M9 hk hlet hdig, Cj, <- HW.out])
              go_wp2_with (first | (go_at_call 104; refine (Cg _ _).mono ?_; rintro e' w' ⟨rfl, rfl⟩) | (go_at_call 106; refine (Es _ _).mono ?_; rintro e' w' ⟨rfl, rfl⟩))
              go_region
              go_wp2_with fail
              go_meet
              case rel =>
                exact ⟨s.extract k e, by rw [HO.out]; exact (HT2.out.set0 3).set1 _, by rw [HO.out], (HZ2.out.far hne _ _).far hne _ _, ((HB2.out.setCell (p := ⟨w.heap.size + 1, 0, none⟩) (Nat.le_succ _) _).setCell (p := ⟨w.heap.size + 1, 1, none⟩) (Nat.le_succ _) _).drew⟩
          . go_wp2_with (go_at_call 104; refine (Cg _ _).mono ?_; rintro e' w' ⟨rfl, rfl⟩)
            go_region
            go_wp2_with fail
            refine E1 (F := fun w' => Cw w' (w.heap.size + 1) (1) (s.extract k e) k /\ Cw w' w.heap.size 0 ⟨#[]⟩ 0 /\ Below w.heap.size w w') ⟨(HT2.out.set0 1).set1 _, (HZ2.out.far hne _ _).far hne _ _, ((HB2.out.setCell (p := ⟨w.heap.size + 1, 0, none⟩) (Nat.le_succ _) _).setCell (p := ⟨w.heap.size + 1, 1, none⟩) (Nat.le_succ _) _).drew⟩ ?_
            rintro w3 ⟨hT3, hZ3, hB3⟩
            clear d20 d21 d22 HT2 HZ2 HB2
            have HT3 := Lib.hid hT3
            have HZ3 := Lib.hid hZ3
            have HB3 := Lib.hid hB3
            have d30 := hT3.cells
            have d31 := hT3.free
            have d32 := B8 hT3
            clear hT3 hZ3 hB3
            have HX : Hid ((s.extract k e).data.toList = (s.data.toList.drop k).takeWhile B9) := Lib.hid (by rw [HW.out, Cj])
            have hb4 : Below w3.heap.size w3 (w3.alloc (.cells Cm 9)).drew := ((Below.refl _ _).alloc (Nat.le_refl _) _).drew
            have HB4 := Lib.hid hb4
            clear hb4
            have d31' := d31.1
            cases hm : Q0 Cc (s.extract k e)
            . have HO : Hid (Dk (s.data.toList.drop k) = (1, (s.extract k e).data.toList)) := Lib.hid (by rw [E5 hk hlet, HX.out, <- HX.out, <- Cx, hm]; rfl)
              clear hlet
              go_region_held3 (fun w' => w'.cell? ⟨w.heap.size + 1, 1, none⟩ = some (.string (s.extract k e))) (go_keep) (first | (go_at_call 58; refine (Dj _).mono ?_; rintro e w' ⟨rfl, rfl⟩) | (go_at_call 105; refine (Gv _ 23 _ Cc _ _ rfl (by omega) (Dv _)).mono ?_; rintro e w' ⟨rfl, rfl⟩))
              go_wp2_with fail
              go_meet
              case rel =>
                exact ⟨s.extract k e, by rw [HO.out]; exact HT3.out.below HB4.out, by rw [HO.out], HZ3.out.below HB4.out, HB3.out.trans (HB4.out.mono HB3.out.size)⟩
            . have HO : Hid (Dk (s.data.toList.drop k) = (2, (s.extract k e).data.toList)) := Lib.hid (by rw [E5 hk hlet, HX.out, <- HX.out, <- Cx, hm]; rfl)
              clear hlet
              go_region_held3 (fun w' => w'.cell? ⟨w.heap.size + 1, 1, none⟩ = some (.string (s.extract k e))) (go_keep) (first | (go_at_call 58; refine (Dj _).mono ?_; rintro e w' ⟨rfl, rfl⟩) | (go_at_call 105; refine (Gv _ 23 _ Cc _ _ rfl (by omega) (Dv _)).mono ?_; rintro e w' ⟨rfl, rfl⟩))
              go_wp2_with fail
              go_meet
              case rel =>
                have hT5 := HT3.out.set0 2
                have hZ5 := HZ3.out.far hne 0 (.int .i64 2)
                have hB5 := HB3.out.setCell (p := ⟨w.heap.size + 1, 0, none⟩) (Nat.le_succ _) (.int .i64 2)
                have hb6 := ((Below.refl (w3.setCell ⟨w.heap.size + 1, 0, none⟩ (.int .i64 2)).heap.size (w3.setCell ⟨w.heap.size + 1, 0, none⟩ (.int .i64 2))).alloc (Nat.le_refl _) (.cells Cm 9)).drew
                exact ⟨s.extract k e, by rw [HO.out]; exact hT5.below hb6, by rw [HO.out], hZ5.below hb6, hB5.trans (hb6.mono hB5.size)⟩
        case rest =>
          obtain ⟨tx, hTc, htx, hZc, hBc⟩ := hcut
          obtain rfl := Pa htx
          obtain ⟨kd, hkd⟩ : ∃ x, (Dk (s.data.toList.drop k)).1 = x := ⟨_, rfl⟩
          obtain ⟨tl, htl⟩ : ∃ x, (Dk (s.data.toList.drop k)).2 = x := ⟨_, rfl⟩
          have hpost : ∀ e w', Kd s k w e w' <-> (e = .returned (.tuple #[.agg #[.int .i64 kd, .string (Aq tl), .int .i64 k], .bool (Ay kd tl)]) /\ Below w.heap.size w w') := by
            intro e w'; unfold Kd; rw [hkd, htl]
          have HPO := Lib.hid hpost
          have htsz : (Aq tl).size <= 1000000 := by
            have := Mz (s := s) (k := k) (tx := Aq tl) (by rw [Dn, htl]); omega
          rw [hkd, htl] at hTc
          have HTc := Lib.hid hTc
          have HZc := Lib.hid hZc
          have HBc := Lib.hid hBc
          obtain ⟨p0, p1, p2⟩ := hTc.cells
          have q0 := Br p0
          have q1 := Br p1
          have q2 := Br p2
          clear hTc hZc hBc htx hkd htl hpost p0 p1 p2
          go_wp2_with fail
          refine Fb 6 (by kernel_rfl) (by kernel_rfl) ?_
          simp only [List.take_succ_cons, List.take_zero, List.drop_succ_cons, List.drop_zero]
          repeat (go_big_quiet_step ((go_at_call 107; exact Calls.later_of (I8 _ _ _ (by omega)))))
          refine wpQuiet_nil ?_
          intro w6 hb6
          have HZ6 := Lib.hid (HZc.out.below hb6)
          have HB6 := Lib.hid (HBc.out.trans (hb6.mono HBc.out.size))
          have z0 := HZ6.out.cells
          have z1 := HZ6.out.free
          rw [Dn]
          clear q0 q1 q2 hb6
          go_wp2
          have HE : Hid (Cw (((w6.setCell ⟨w.heap.size, 0, none⟩ (.int .i64 kd)).setCell ⟨w.heap.size, 1, none⟩ (.string (Aq tl))).setCell ⟨w.heap.size, 2, none⟩ (.int .i64 (k : Int))) w.heap.size kd (Aq tl) k) := Lib.hid (((HZ6.out.set0 kd).set1 _).set2 k)
          have HG := Lib.hid (((HB6.out.setCell (p := ⟨w.heap.size, 0, none⟩) (Nat.le_refl _) (.int .i64 kd)).setCell (p := ⟨w.heap.size, 1, none⟩) (Nat.le_refl _) (.string (Aq tl))).setCell (p := ⟨w.heap.size, 2, none⟩) (Nat.le_refl _) (.int .i64 (k : Int)))
          generalize (((w6.setCell ⟨w.heap.size, 0, none⟩ (.int .i64 kd)).setCell ⟨w.heap.size, 1, none⟩ (.string (Aq tl))).setCell ⟨w.heap.size, 2, none⟩ (.int .i64 (k : Int))) = w9 at HE HG |-
          have q := HE.out.cells
          exact bodyPost_ret (v := .tuple #[.agg #[.int .i64 kd, .string (Aq tl), .int .i64 k], .bool (Ay kd tl)]) (by simp [results, Tryz.results62, go_sem, q.1, q.2.1, q.2.2]) rfl ((HPO.out _ _).2 ⟨rfl, HG.out⟩)
      . clear hmore
        go_upto_block 2 with (fail)
        have hne : ¬ w.heap.size = w.heap.size + 1 := by omega
        go_cut [] (fun w' => Adu s k w w')
        case first =>
          refine E1 (F := fun w' => Cw w' (w.heap.size + 1) 0 ⟨#[]⟩ k /\ Cw w' w.heap.size 0 ⟨#[]⟩ 0 /\ Below w.heap.size w w') ⟨A2 (by simp), At (A2 rfl), ((Below.refl _ _).alloc (Nat.le_refl _) _).alloc (by simp) _⟩ ?_
          rintro w2 ⟨hT2, hZ2, hB2⟩
          have HT2 := Lib.hid hT2
          have HZ2 := Lib.hid hZ2
          have HB2 := Lib.hid hB2
          have d20 := hT2.cells
          have d21 := hT2.free
          have d22 := B8 hT2
          clear hT2 hZ2 hB2
          cases hlet : B7 s[k]
          . cases hdig : Bi s[k]
            . have HS : Hid (Dk (s.data.toList.drop k) = (4, if Oi Bz ((s.data.toList.drop k).take 2) then (s.data.toList.drop k).take 2 else (s.data.toList.drop k).take 1)) := Lib.hid (Pm hk hlet hdig)
              go_wp2_with (first | (go_at_call 104; refine (Cg _ _).mono ?_; rintro e' w' ⟨rfl, rfl⟩) | (go_at_call 106; refine (Es _ _).mono ?_; rintro e' w' ⟨rfl, rfl⟩))
              have g1 : (0 : Int) <= (k : Int) + 1 := by omega
              have g2 : (k : Int) + 1 <= s.size := by omega
              have g3 : ((k : Int) + 1).toNat = k + 1 := by omega
              have g4 : IntKind.i64.wrap ((k : Int) + 1) = (k : Int) + 1 := IntWalk.i64_in _ (by omega)
              go_region
              go_wp2_with fail
              clear g1 g2 g3 g4
              refine E1 (F := fun w' => Cw w' (w.heap.size + 1) (4) (s.extract k (k + 1)) k /\ Cw w' w.heap.size 0 ⟨#[]⟩ 0 /\ Below w.heap.size w w') ⟨(HT2.out.set0 4).set1 _, (HZ2.out.far hne _ _).far hne _ _, ((HB2.out.setCell (p := ⟨w.heap.size + 1, 0, none⟩) (Nat.le_succ _) _).setCell (p := ⟨w.heap.size + 1, 1, none⟩) (Nat.le_succ _) _).drew⟩ ?_
              rintro w3 ⟨hT3, hZ3, hB3⟩
              clear d20 d21 d22 HT2 HZ2 HB2
              have HT3 := Lib.hid hT3
              have HZ3 := Lib.hid hZ3
              have HB3 := Lib.hid hB3
              have d30 := hT3.cells
              have d31 := hT3.free
              have d32 := B8 hT3
              clear hT3 hZ3 hB3
              have d31' := d31.2.1
              by_cases h2 : k + 2 <= s.size
              . have g1 : decide ((k : Int) + 2 <= s.size) = true := by simp; omega
                have g5 : (0 : Int) <= (k : Int) + 2 := by omega
                have g6 : (k : Int) <= (k : Int) + 2 := by omega
                have g7 : (0 : Int) <= (k : Int) := by omega
                have g8 : ((k : Int)).toNat = k := by omega
                have g2 : (k : Int) + 2 <= s.size := by omega
                have g3 : ((k : Int) + 2).toNat = k + 2 := by omega
                have g4 : IntKind.i64.wrap ((k : Int) + 2) = (k : Int) + 2 := IntWalk.i64_in _ (by omega)
                have HB4 := Lib.hid (((Below.refl w3.heap.size w3).alloc (Nat.le_refl _) (.cells Cq 9)).drew)
                have HT5 := Lib.hid (HT3.out.set1 (s.extract k (k + 2)))
                have HZ5 := Lib.hid (HZ3.out.far hne 1 (.string (s.extract k (k + 2))))
                have HB5 := Lib.hid (HB3.out.setCell (p := ⟨w.heap.size + 1, 1, none⟩) (Nat.le_succ _) (.string (s.extract k (k + 2))))
                have HB6 := Lib.hid (((Below.refl (w3.setCell ⟨w.heap.size + 1, 1, none⟩ (.string (s.extract k (k + 2)))).heap.size (w3.setCell ⟨w.heap.size + 1, 1, none⟩ (.string (s.extract k (k + 2))))).alloc (Nat.le_refl _) (.cells Cq 9)).drew)
                cases hm : Q0 Dc (s.extract k (k + 2))
                . have HO : Hid (Dk (s.data.toList.drop k) = (4, (s.extract k (k + 1)).data.toList)) := Lib.hid (by
                    rw [HS.out, <- Gp, <- Em, hm, Hs]; rfl)
                  clear hlet hdig
                  go_region_held3 (fun _ => True) (trivial) (first | (go_at_call 59; refine (Gi _).mono ?_; rintro e w' ⟨rfl, rfl⟩) | (go_at_call 105; refine (Gv _ 21 _ Dc _ _ rfl (by omega) (Du _)).mono ?_; rintro e w' ⟨rfl, rfl⟩))
                  all_goals clear g1 g2 g3 g4 g5 g6 g7 g8
                  all_goals go_wp2_with fail
                  all_goals go_meet
                  all_goals exact ⟨s.extract k (k + 1), by rw [HO.out]; exact HT3.out.below HB4.out, by rw [HO.out], HZ3.out.below HB4.out, HB3.out.trans (HB4.out.mono HB3.out.size)⟩
                . have HO : Hid (Dk (s.data.toList.drop k) = (4, (s.extract k (k + 2)).data.toList)) := Lib.hid (by
                    rw [HS.out, <- Gp, <- Em, hm]; rfl)
                  clear hlet hdig
                  go_region_held3 (fun _ => True) (trivial) (first | (go_at_call 59; refine (Gi _).mono ?_; rintro e w' ⟨rfl, rfl⟩) | (go_at_call 105; refine (Gv _ 21 _ Dc _ _ rfl (by omega) (Du _)).mono ?_; rintro e w' ⟨rfl, rfl⟩))
                  all_goals go_wp2_with fail
                  all_goals go_meet
                  all_goals exact ⟨s.extract k (k + 2), by rw [HO.out]; exact HT5.out.below HB6.out, by rw [HO.out], HZ5.out.below HB6.out, HB5.out.trans (HB6.out.mono HB5.out.size)⟩
              . have g1 : decide ((k : Int) + 2 <= s.size) = false := by simp; omega
                have g4 : IntKind.i64.wrap ((k : Int) + 2) = (k : Int) + 2 := IntWalk.i64_in _ (by omega)
                have HO : Hid (Dk (s.data.toList.drop k) = (4, (s.extract k (k + 1)).data.toList)) := Lib.hid (by
                    rw [HS.out, Zu h2, <- Hs]; simp)
                refine Al (by kernel_rfl) (by kernel_rfl) ?_
                repeat (go_big_quiet_step (fail))
                refine wpQuiet_nil ?_
                intro w4 hb4
                clear g1 g4
                go_wp2_with fail
                go_meet
                case rel => exact ⟨s.extract k (k + 1), by rw [HO.out]; exact HT3.out.below hb4, by rw [HO.out], HZ3.out.below hb4, HB3.out.trans (hb4.mono HB3.out.size)⟩
            . have HO : Hid (Dk (s.data.toList.drop k) = (3, (s.extract k e).data.toList)) := Lib.hid (by rw [M9 hk hlet hdig, Cj, <- HW.out])
              go_wp2_with (first | (go_at_call 104; refine (Cg _ _).mono ?_; rintro e' w' ⟨rfl, rfl⟩) | (go_at_call 106; refine (Es _ _).mono ?_; rintro e' w' ⟨rfl, rfl⟩))
              go_region
              go_wp2_with fail
              go_meet
              case rel =>
                exact ⟨s.extract k e, by rw [HO.out]; exact (HT2.out.set0 3).set1 _, by rw [HO.out], (HZ2.out.far hne _ _).far hne _ _, ((HB2.out.setCell (p := ⟨w.heap.size + 1, 0, none⟩) (Nat.le_succ _) _).setCell (p := ⟨w.heap.size + 1, 1, none⟩) (Nat.le_succ _) _).drew⟩
          . go_wp2_with (go_at_call 104; refine (Cg _ _).mono ?_; rintro e' w' ⟨rfl, rfl⟩)
            go_region
            go_wp2_with fail
            refine E1 (F := fun w' => Cw w' (w.heap.size + 1) (1) (s.extract k e) k /\ Cw w' w.heap.size 0 ⟨#[]⟩ 0 /\ Below w.heap.size w w') ⟨(HT2.out.set0 1).set1 _, (HZ2.out.far hne _ _).far hne _ _, ((HB2.out.setCell (p := ⟨w.heap.size + 1, 0, none⟩) (Nat.le_succ _) _).setCell (p := ⟨w.heap.size + 1, 1, none⟩) (Nat.le_succ _) _).drew⟩ ?_
            rintro w3 ⟨hT3, hZ3, hB3⟩
            clear d20 d21 d22 HT2 HZ2 HB2
            have HT3 := Lib.hid hT3
            have HZ3 := Lib.hid hZ3
            have HB3 := Lib.hid hB3
            have d30 := hT3.cells
            have d31 := hT3.free
            have d32 := B8 hT3
            clear hT3 hZ3 hB3
            have HX : Hid ((s.extract k e).data.toList = (s.data.toList.drop k).takeWhile B9) := Lib.hid (by rw [HW.out, Cj])
            have hb4 : Below w3.heap.size w3 (w3.alloc (.cells Cm 9)).drew := ((Below.refl _ _).alloc (Nat.le_refl _) _).drew
            have HB4 := Lib.hid hb4
            clear hb4
            have d31' := d31.1
            cases hm : Q0 Cc (s.extract k e)
            . have HO : Hid (Dk (s.data.toList.drop k) = (1, (s.extract k e).data.toList)) := Lib.hid (by rw [E5 hk hlet, HX.out, <- HX.out, <- Cx, hm]; rfl)
              clear hlet
              go_region_held3 (fun w' => w'.cell? ⟨w.heap.size + 1, 1, none⟩ = some (.string (s.extract k e))) (go_keep) (first | (go_at_call 58; refine (Dj _).mono ?_; rintro e w' ⟨rfl, rfl⟩) | (go_at_call 105; refine (Gv _ 23 _ Cc _ _ rfl (by omega) (Dv _)).mono ?_; rintro e w' ⟨rfl, rfl⟩))
              go_wp2_with fail
              go_meet
              case rel =>
                exact ⟨s.extract k e, by rw [HO.out]; exact HT3.out.below HB4.out, by rw [HO.out], HZ3.out.below HB4.out, HB3.out.trans (HB4.out.mono HB3.out.size)⟩
            . have HO : Hid (Dk (s.data.toList.drop k) = (2, (s.extract k e).data.toList)) := Lib.hid (by rw [E5 hk hlet, HX.out, <- HX.out, <- Cx, hm]; rfl)
              clear hlet
              go_region_held3 (fun w' => w'.cell? ⟨w.heap.size + 1, 1, none⟩ = some (.string (s.extract k e))) (go_keep) (first | (go_at_call 58; refine (Dj _).mono ?_; rintro e w' ⟨rfl, rfl⟩) | (go_at_call 105; refine (Gv _ 23 _ Cc _ _ rfl (by omega) (Dv _)).mono ?_; rintro e w' ⟨rfl, rfl⟩))
              go_wp2_with fail
              go_meet
              case rel =>
                have hT5 := HT3.out.set0 2
                have hZ5 := HZ3.out.far hne 0 (.int .i64 2)
                have hB5 := HB3.out.setCell (p := ⟨w.heap.size + 1, 0, none⟩) (Nat.le_succ _) (.int .i64 2)
                have hb6 := ((Below.refl (w3.setCell ⟨w.heap.size + 1, 0, none⟩ (.int .i64 2)).heap.size (w3.setCell ⟨w.heap.size + 1, 0, none⟩ (.int .i64 2))).alloc (Nat.le_refl _) (.cells Cm 9)).drew
                exact ⟨s.extract k e, by rw [HO.out]; exact hT5.below hb6, by rw [HO.out], hZ5.below hb6, hB5.trans (hb6.mono hB5.size)⟩
        case rest =>
          obtain ⟨tx, hTc, htx, hZc, hBc⟩ := hcut
          obtain rfl := Pa htx
          obtain ⟨kd, hkd⟩ : ∃ x, (Dk (s.data.toList.drop k)).1 = x := ⟨_, rfl⟩
          obtain ⟨tl, htl⟩ : ∃ x, (Dk (s.data.toList.drop k)).2 = x := ⟨_, rfl⟩
          have hpost : ∀ e w', Kd s k w e w' <-> (e = .returned (.tuple #[.agg #[.int .i64 kd, .string (Aq tl), .int .i64 k], .bool (Ay kd tl)]) /\ Below w.heap.size w w') := by
            intro e w'; unfold Kd; rw [hkd, htl]
          have HPO := Lib.hid hpost
          have htsz : (Aq tl).size <= 1000000 := by
            have := Mz (s := s) (k := k) (tx := Aq tl) (by rw [Dn, htl]); omega
          rw [hkd, htl] at hTc
          have HTc := Lib.hid hTc
          have HZc := Lib.hid hZc
          have HBc := Lib.hid hBc
          obtain ⟨p0, p1, p2⟩ := hTc.cells
          have q0 := Br p0
          have q1 := Br p1
          have q2 := Br p2
          clear hTc hZc hBc htx hkd htl hpost p0 p1 p2
          go_wp2_with fail
          refine Fb 6 (by kernel_rfl) (by kernel_rfl) ?_
          simp only [List.take_succ_cons, List.take_zero, List.drop_succ_cons, List.drop_zero]
          repeat (go_big_quiet_step ((go_at_call 107; exact Calls.later_of (I8 _ _ _ (by omega)))))
          refine wpQuiet_nil ?_
          intro w6 hb6
          have HZ6 := Lib.hid (HZc.out.below hb6)
          have HB6 := Lib.hid (HBc.out.trans (hb6.mono HBc.out.size))
          have z0 := HZ6.out.cells
          have z1 := HZ6.out.free
          rw [Dn]
          clear q0 q1 q2 hb6
          go_wp2
          have HE : Hid (Cw (((w6.setCell ⟨w.heap.size, 0, none⟩ (.int .i64 kd)).setCell ⟨w.heap.size, 1, none⟩ (.string (Aq tl))).setCell ⟨w.heap.size, 2, none⟩ (.int .i64 (k : Int))) w.heap.size kd (Aq tl) k) := Lib.hid (((HZ6.out.set0 kd).set1 _).set2 k)
          have HG := Lib.hid (((HB6.out.setCell (p := ⟨w.heap.size, 0, none⟩) (Nat.le_refl _) (.int .i64 kd)).setCell (p := ⟨w.heap.size, 1, none⟩) (Nat.le_refl _) (.string (Aq tl))).setCell (p := ⟨w.heap.size, 2, none⟩) (Nat.le_refl _) (.int .i64 (k : Int)))
          generalize (((w6.setCell ⟨w.heap.size, 0, none⟩ (.int .i64 kd)).setCell ⟨w.heap.size, 1, none⟩ (.string (Aq tl))).setCell ⟨w.heap.size, 2, none⟩ (.int .i64 (k : Int))) = w9 at HE HG |-
          have q := HE.out.cells
          exact bodyPost_ret (v := .tuple #[.agg #[.int .i64 kd, .string (Aq tl), .int .i64 k], .bool (Ay kd tl)]) (by simp [results, Tryz.results62, go_sem, q.1, q.2.1, q.2.2]) rfl ((HPO.out _ _).2 ⟨rfl, HG.out⟩)
end Go.Proofs.YtiledamgmppcmaaGreatDoor
namespace Go.Proofs.YtiledamgmppcmaaGreatDoor
open Go.RowKit
def Ue (s : ByteArray) (w : World) (out i : Value) (wr : World) : Prop :=
  ∃ (k f : Nat) (acc : List Tok), i = .int .i64 k /\ k <= s.size /\ Bb false (s.data.toList.drop k) = s.data.toList.drop k /\ s.size - k < f /\
    Cv s.data.toList.length f (s.data.toList.drop k) acc = Cv s.data.toList.length (s.data.toList.length + 1) s.data.toList [] /\
    wr.ownsRow w.heap.size 47 3 out acc.length (Jb acc) /\ acc.length <= 2000 /\ Below w.heap.size w wr
theorem Qk {W W' : World} {base e size n : Nat} {v : Value} {xs : List Value} (h : W.ownsRow base e size v n xs) (hb : Below W.heap.size W W') : W'.ownsRow base e size v n xs :=
  h.kept (Jp hb) (by rcases h.2 with ⟨rfl, _⟩ | ⟨g, cap, cur, rfl, _⟩ <;> simp [Value.ownBlock])
theorem Anx {W : World} {base e size n : Nat} {v : Value} {xs : List Value} (h : W.ownsRow base e size v n xs) {b : Nat} (hb : W.heap.size <= b) : v.ownBlock ≠ some b := by
  intro e'
  have := h.lt b e'
  omega
theorem V5 (w : World) (o : Obj) (cs : List Value) (t : TypeId) : ∀ j u, cs[j]? = some u -> ((w.alloc o).alloc (.cells cs.toArray t)).cell? ((⟨w.heap.size + 1, 0, none⟩ : Addr).add j) = some u := by
  have h := Ur (w.alloc o) cs t
  rw [World.size_alloc] at h
  exact h
set_option maxRecDepth 100000 in
set_option maxHeartbeats 4000000 in
theorem Y8 (s : ByteArray) (w : World) : Calls Tryz.prog 26 #[.string s] w (P6 s w) := by
  rcases Nat.lt_or_ge 20000 s.size with hs | hs
  . have hsc : Cn s.data.toList = ([], 0, 3) := by unfold Cn; rw [if_pos (by simpa using hs)]
    have HSC := Lib.hid hsc
    clear hsc
    have hdec : decide (20000 < (s.size : Int)) = true := by simp; omega
    go_enter Tryz.func26, Tryz.ntmps26
    go_wp2
    go_ret3
    exact ⟨.slice none 0 0, by rw [HSC.out]; rfl, by rw [HSC.out]; exact World.ownsRow_nil _ _ _ _, Below.refl _ _⟩
  . have hsc : Cn s.data.toList = Cv s.data.toList.length (s.data.toList.length + 1) s.data.toList [] := T7 (by simpa using hs)
    have HSC := Lib.hid hsc
    clear hsc
    have hdec : decide (20000 < (s.size : Int)) = false := by simp; omega
    go_enter Tryz.func26, Tryz.ntmps26
    go_wp2_with fail
    refine (R1 s 0 w (by omega) (by omega)).mono ?_
    rintro e w' ⟨rfl, rfl⟩
    have hstart : Ue s w (.slice none 0 0) (.int .i64 (M3 s.data.toList 0)) w := ⟨M3 s.data.toList 0, s.data.toList.length + 1, [], rfl, by have := Tc s.data.toList 0 (by omega); simpa using this.2, by rw [Gk, L0], by simp; omega, by rw [Gk, Gj]; simp, World.ownsRow_nil _ _ _ _, by simp, Below.refl _ _⟩
    have HS := Lib.hid hstart
    clear hstart
    go_wp2
    go_loopw [5, 6] (fun out i wr => Ue s w out i wr) (fun _ i _ => s.size - (intOf i).toNat)
    case atStart => exact HS.out
    case round =>
      clear HS
      obtain ⟨k, f, acc, rfl, hk, hsk, hf, hsc, hrow, hacc, hB⟩ := hrel
      have HSK := Lib.hid hsk
      have HSG := Lib.hid hsc
      have HROW := Lib.hid hrow
      have HB := Lib.hid hB
      obtain ⟨pp, cap, rfl⟩ := Ol hrow
      have hBs := hB.size
      clear hsk hsc hrow hB
      by_cases hlt : k < s.size
      . have hlk : k < s.data.toList.length := by simpa using hlt
        have HNE : Hid (s.data.toList.drop k ≠ []) := Lib.hid (by rw [H4 hlk]; simp)
        have HPOS : Hid (s.data.toList.length - (s.data.toList.drop k).length = k) := Lib.hid (by simp; omega)
        go_wp2_with fail
        refine (Acs s k wr (by omega) hlt).mono ?_
        rintro e w1 ⟨rfl, hb1⟩
        have htsz : (Dk (s.data.toList.drop k)).2.length <= s.size - k := by
          have h := Mz (s := s) (k := k) (tx := Aq (Dk (s.data.toList.drop k)).2) (Dn _)
          have h2 : (Aq (Dk (s.data.toList.drop k)).2).size = (Dk (s.data.toList.drop k)).2.length := by simp [Aq, ByteArray.size]
          omega
        obtain ⟨kd, hkd⟩ : ∃ x, (Dk (s.data.toList.drop k)).1 = x := ⟨_, rfl⟩
        obtain ⟨tl, htl⟩ : ∃ x, (Dk (s.data.toList.drop k)).2 = x := ⟨_, rfl⟩
        rw [hkd, htl]
        rw [htl] at htsz
        have HKD := Lib.hid hkd
        have HTL := Lib.hid htl
        have HR1 := Lib.hid (Qk HROW.out hb1)
        have HB1 := Lib.hid (HB.out.trans (hb1.mono HB.out.size))
        have hbs1 := hb1.size
        clear hkd htl hb1 HROW HB
        obtain ⟨f', rfl⟩ : ∃ f', f = f' + 1 := ⟨f - 1, by omega⟩
        cases hri : Ay kd tl
        . have HF : Hid (Cv s.data.toList.length (s.data.toList.length + 1) s.data.toList [] = ([], k, 340)) := Lib.hid (by
            rw [<- HSG.out, Zf HSK.out HNE.out (by rw [HKD.out, HTL.out]; exact hri), HPOS.out])
          go_wp2
          go_ret3
          exact ⟨.slice none 0 0, by rw [HSC.out, HF.out]; rfl, by rw [HSC.out, HF.out]; exact World.ownsRow_nil _ _ _ _, HB1.out.alloc HB1.out.size _⟩
        . by_cases h2000 : acc.length = 2000
          . have HF : Hid (Cv s.data.toList.length (s.data.toList.length + 1) s.data.toList [] = ([], k, 3)) := Lib.hid (by
              rw [<- HSG.out, Wm HSK.out HNE.out (by rw [HKD.out, HTL.out]; exact hri) h2000, HPOS.out])
            have hd : ((acc.length : Int) == 2000) = true := by rw [h2000]; rfl
            clear h2000
            go_wp2
            go_ret3
            exact ⟨.slice none 0 0, by rw [HSC.out, HF.out]; rfl, by rw [HSC.out, HF.out]; exact World.ownsRow_nil _ _ _ _, HB1.out.alloc HB1.out.size _⟩
          . have HF : Hid (Cv s.data.toList.length (f' + 1) (s.data.toList.drop k) acc = Cv s.data.toList.length f' ((s.data.toList.drop k).drop tl.length) (acc ++ [⟨kd, tl, k⟩])) := Lib.hid (by
              rw [Na HSK.out HNE.out (by rw [HKD.out, HTL.out]; exact hri) h2000, HKD.out, HTL.out, HPOS.out])
            have hd : ((acc.length : Int) == 2000) = false := by simp; omega
            have hl2 : 1 <= tl.length := by
              have := Ek hri
              cases tl with | nil => exact absurd rfl this | cons => simp
            obtain ⟨i0, hi, hz0, hz1, hz2⟩ := info_parts Ab4
            have hle : k + tl.length <= s.size := by omega
            have HTK : Hid (Cw (w1.alloc (.cells #[.int .i64 kd, .string (Aq tl), .int .i64 (k : Int)] 47)) w1.heap.size kd (Aq tl) k) := Lib.hid (heap_alloc_new w1 _)
            have HB2 := Lib.hid (HB1.out.alloc HB1.out.size (.cells #[.int .i64 kd, .string (Aq tl), .int .i64 (k : Int)] 47))
            have HE : Hid ((k : Int) + ((Aq tl).size : Int) = ((k + tl.length : Nat) : Int)) := Lib.hid (by simp [Aq, ByteArray.size])
            have hbz : ((k : Int) + ((Aq tl).size : Int)) <= 1000000 := by rw [HE.out]; omega
            have hbz0 : 0 <= ((Aq tl).size : Int) := by omega
            go_wp2_with (at_builtin; refine wpList_append_own _ rfl _ _ 44 rfl w.heap.size 47 i0 (.agg #[.int .i64 0, .string ⟨#[]⟩, .int .i64 0]) 3 32 Adi hi hz0 hz1 hz2 rfl (by decide) _ _ _ rfl ((HR1.out.alloc _).alloc _) ⟨w1.heap.size + 1, 0, none⟩ 1 1 [.int .i64 kd, .string (Aq tl), .int .i64 (k : Int)] rfl rfl (V5 _ _ _ _) (by simp [Value.oneCell']) (by simp [maxLen]; omega) (by omega) (by simp; omega) ?_; intro v' w2 hown' hgrow _; obtain ⟨g', cap', rfl⟩ := ownsRow_succ hown'; have HT2 : Hid (Cw w2 w1.heap.size kd (Aq tl) k) := Lib.hid ((hgrow.block _ (by simp; omega) (fun e => Anx HR1.out (Nat.le_refl _) e.symm)).trans (At HTK.out)); have t2 := HT2.out.cells.2.1; have HO := Lib.hid hown'; have HG : Hid (Below w.heap.size w w2) := Lib.hid ((HB2.out.alloc HB2.out.size _).grown hgrow (Nat.le_trans HB2.out.size (by simp)) (fun b e => (HR1.out.lt b e).1)); clear hown' hgrow)
            rw [HE.out]
            refine (R1 s (k + tl.length) w2 (by omega) hle).mono ?_
            rintro e w3 ⟨rfl, rfl⟩
            have hsn := Tc s.data.toList (k + tl.length) (by simpa using hle)
            go_wp2
            go_roundw
            case rel =>
              refine ⟨M3 s.data.toList (k + tl.length), f', acc ++ [⟨kd, tl, k⟩], rfl, by simpa using hsn.2, by rw [Gk, L0], by have := hsn.1; omega, ?_, ?_, by simp; omega, HG.out⟩
              . rw [<- HSG.out, HF.out, List.drop_drop, Gk]
                obtain ⟨f'', rfl⟩ : ∃ f'', f' = f'' + 1 := ⟨f' - 1, by omega⟩
                exact Gj _ _ _ _
              . rw [Qu, List.length_append]; exact HO.out
            case measure => simp [intOf]; have := hsn.1; have := hsn.2; simp at this; omega
      . obtain rfl : k = s.size := by omega
        obtain ⟨f', rfl⟩ : ∃ f', f = f' + 1 := ⟨f - 1, by omega⟩
        have HF : Hid (Cv s.data.toList.length (s.data.toList.length + 1) s.data.toList [] = (acc, 0, 0)) := Lib.hid (by
          rw [<- HSG.out, show s.data.toList.drop s.size = [] from List.drop_eq_nil_of_le (by simp), Pv])
        go_wp2
        go_ret3
        exact ⟨.slice pp acc.length cap, by rw [HSC.out, HF.out]; rfl, by rw [HSC.out, HF.out]; exact HROW.out, HB.out⟩
end Go.Proofs.YtiledamgmppcmaaGreatDoor
namespace Go.Proofs.YtiledamgmppcmaaGreatDoor
open Go.RowKit
set_option maxHeartbeats 2000000 in
theorem B2 (op : Int) (w : World) :
    Calls Tryz.prog 141 #[.int .i64 op] w fun e w' => e = .returned (.int .i64 (Fl op)) /\ w = w' := by
  by_cases h : 1 <= op /\ op <= 19
  . obtain ⟨k, rfl⟩ := Int.eq_ofNat_of_zero_le (show 0 <= op by omega)
    obtain rfl | rfl | rfl | rfl | rfl | rfl | rfl | rfl | rfl | rfl | rfl | rfl | rfl | rfl | rfl | rfl | rfl | rfl | rfl : k = 1 \/ k = 2 \/ k = 3 \/ k = 4 \/ k = 5 \/ k = 6 \/ k = 7 \/ k = 8 \/ k = 9 \/ k = 10 \/ k = 11 \/ k = 12 \/ k = 13 \/ k = 14 \/ k = 15 \/ k = 16 \/ k = 17 \/ k = 18 \/ k = 19 := by omega
    all_goals
      go_enter Tryz.func141, Tryz.ntmps141
      go_wp2
      go_ret
      exact ⟨rfl, rfl⟩
  . have HA := Lib.hid (Um op (by omega))
    have h1 : (op == 1) = false := by simp; omega
    have h2 : (op == 2) = false := by simp; omega
    have h3 : (op == 3) = false := by simp; omega
    have h4 : (op == 4) = false := by simp; omega
    have h5 : (op == 5) = false := by simp; omega
    have h6 : (op == 6) = false := by simp; omega
    have h7 : (op == 7) = false := by simp; omega
    have h8 : (op == 8) = false := by simp; omega
    have h9 : (op == 9) = false := by simp; omega
    have h10 : (op == 10) = false := by simp; omega
    have h11 : (op == 11) = false := by simp; omega
    have h12 : (op == 12) = false := by simp; omega
    have h13 : (op == 13) = false := by simp; omega
    have h14 : (op == 14) = false := by simp; omega
    have h15 : (op == 15) = false := by simp; omega
    have h16 : (op == 16) = false := by simp; omega
    have h17 : (op == 17) = false := by simp; omega
    have h18 : (op == 18) = false := by simp; omega
    have h19 : (op == 19) = false := by simp; omega
    clear h
    go_enter Tryz.func141, Tryz.ntmps141
    go_wp2
    go_ret
    exact ⟨by rw [HA.out]; rfl, rfl⟩
theorem O4 (l : List UInt8) : (B5 1 l 0 = 0) <-> Ei l = true := by
  unfold B5 Ay
  rw [if_pos rfl]
  cases h : Ei l with
  | true => simp
  | false => simp
mutual
theorem Mm (left d k : Nat) : (x : Ex) -> vis left d x = some k -> k <= left
  | .mk op n nm l => by
    rw [Tu]
    intro h
    split at h
    . cases h
    . exact Nat.le_trans (Sk _ _ _ l h) (Nat.sub_le _ _)
theorem Sk (left d k : Nat) : (l : List Ex) -> Dt left d l = some k -> k <= left
  | [] => by simp [Dt]; omega
  | x :: r => by
    rw [Dt]
    intro h
    cases hv : vis left d x with
    | none => rw [hv] at h; cases h
    | some m => rw [hv] at h; exact Nat.le_trans (Sk _ _ _ r h) (Mm _ _ _ x hv)
end
def L9 : Option Nat -> Int
  | none => -1
  | some k => k
set_option maxRecDepth 100000 in
set_option maxHeartbeats 4000000 in
theorem O6 {w : World} {sl : Value} {args : List Ex} (h : ArgsAt w sl args) : ∀ (x : Ex) (left d : Nat) (W : World), x.args = args -> x.name.size <= 9223372036854775807 -> left <= 60 -> d <= 13 -> Below w.heap.size w W ->
    Calls Tryz.prog 98 #[x.val sl, .int .i64 left, .int .i64 d] W fun e w' => e = .returned (.int .i64 (L9 (vis left d x))) /\ Below W.heap.size W w' := by
  induction h with
  | mk p cap args S hcap hmax hfit hname hargs ih =>
    intro x left d W hxa hxn hleft hd hbW
    obtain ⟨op, n, nm, l⟩ := x
    obtain rfl : l = args := hxa
    simp only [Ex.val, Ex.op, Ex.n, Ex.name] at hxn |-
    have HBW := Lib.hid hbW
    have HV := Lib.hid (Tu left d (.mk op n nm l))
    have HIH := Lib.hid ih
    clear ih hbW
    obtain ⟨W1, hW1⟩ : ∃ W1, W.alloc (.cells #[.int .i64 op, .int .i64 n, .string nm, .slice p l.length cap] 24) = W1 := ⟨_, rfl⟩
    have hb1 : Below W.heap.size W W1 := by rw [<- hW1]; exact (Below.refl _ _).alloc (Nat.le_refl _) _
    have hrow : W1.heap[W.heap.size]? = some (.cells #[.int .i64 op, .int .i64 n, .string nm, .slice p l.length cap] 24 (0, 0)) := by rw [<- hW1]; exact heap_alloc_new W _
    have c0 : W1.cell? ⟨W.heap.size, 0, none⟩ = some (.int .i64 op) := cell_of_row _ _ _ _ _ _ hrow
    have c1 : W1.cell? ⟨W.heap.size, 1, none⟩ = some (.int .i64 n) := cell_of_row _ _ _ _ _ _ hrow
    have c2 : W1.cell? ⟨W.heap.size, 2, none⟩ = some (.string nm) := cell_of_row _ _ _ _ _ _ hrow
    have c3 : W1.cell? ⟨W.heap.size, 3, none⟩ = some (.slice p l.length cap) := cell_of_row _ _ _ _ _ _ hrow
    have l0 := Br c0
    have l3 := Br c3
    have HW1 := Lib.hid hW1
    have HB1 := Lib.hid hb1
    have HC0 := Lib.hid c0
    have HC1 := Lib.hid c1
    have HC2 := Lib.hid c2
    have HC3 := Lib.hid c3
    clear hW1 hb1 hrow c0 c1 c2 c3
    obtain ⟨A, hAr⟩ : ∃ A, Fl op = A := ⟨_, rfl⟩
    have HAR := Lib.hid hAr
    have HP3 : Hid (¬ (A = (l.length : Int)) -> Cl (.mk op n nm l) = false) := Lib.hid (fun h => Ns (by rw [hAr]; omega))
    clear hAr
    by_cases g1 : left = 0
    . have HA : Hid (L9 (vis left d (.mk op n nm l)) = -1) := Lib.hid (by rw [HV.out, if_pos (.inl g1)]; rfl)
      subst g1
      have hd1 : decide (((0 : Nat) : Int) < 1) = true := rfl
      go_enter Tryz.func98, Tryz.ntmps98
      go_wp2_with fail
      rw [HW1.out]
      refine Al (by kernel_rfl) (by kernel_rfl) ?_
      repeat (go_big_quiet_step ((go_at_call 141; exact Calls.later_of ((B2 _ _).mono fun _ _ ⟨he, hw⟩ => ⟨by rw [he, HAR.out], by rw [<- hw]; exact Below.refl _ _⟩))))
      refine wpQuiet_nil ?_
      intro w2 hb2
      go_wp2
      go_ret
      exact ⟨by rw [HA.out]; rfl, HB1.out.trans (hb2.mono HB1.out.size)⟩
    . have hd1 : decide ((left : Int) < 1) = false := by simp; omega
      by_cases g2 : 12 < d
      . have HA : Hid (L9 (vis left d (.mk op n nm l)) = -1) := Lib.hid (by rw [HV.out, if_pos (.inr (.inl g2))]; rfl)
        have hd2 : decide (12 < (d : Int)) = true := by simp; omega
        go_enter Tryz.func98, Tryz.ntmps98
        go_wp2_with fail
        rw [HW1.out]
        refine Al (by kernel_rfl) (by kernel_rfl) ?_
        repeat (go_big_quiet_step ((go_at_call 141; exact Calls.later_of ((B2 _ _).mono fun _ _ ⟨he, hw⟩ => ⟨by rw [he, HAR.out], by rw [<- hw]; exact Below.refl _ _⟩))))
        refine wpQuiet_nil ?_
        intro w2 hb2
        go_wp2
        go_ret
        exact ⟨by rw [HA.out]; rfl, HB1.out.trans (hb2.mono HB1.out.size)⟩
      . have hd2 : decide (12 < (d : Int)) = false := by simp; omega
        by_cases g3 : A = (l.length : Int)
        . subst g3
          have hd3 : (((l.length : Int)) != (l.length : Int)) = false := by simp
          by_cases e1 : op = 2
          . obtain ⟨nb, hnb⟩ : ∃ nb, Ei nm.data.toList = nb := ⟨_, rfl⟩
            have HNB := Lib.hid hnb
            have HQ : Hid (Cl (.mk op n nm l) = (nb && decide (n = 0))) := Lib.hid (by
              rw [Bool.eq_iff_iff, I6, if_pos e1, O4, hnb, Bool.and_eq_true, decide_eq_true_eq]
              exact ⟨fun h => ⟨h.2.2.2.2, by omega⟩, fun h => ⟨HAR.out.symm, by omega, by omega, .inl h.2, h.1⟩⟩)
            clear hnb
            subst e1
            go_enter Tryz.func98, Tryz.ntmps98
            go_wp2_with fail
            rw [HW1.out]
            refine Al (by kernel_rfl) (by kernel_rfl) ?_
            repeat (go_big_quiet_step ((go_at_call 141; exact Calls.later_of ((B2 _ _).mono fun _ _ ⟨he, hw⟩ => ⟨by rw [he, HAR.out], by rw [<- hw]; exact Below.refl _ _⟩))))
            refine wpQuiet_nil ?_
            intro w2 hb2
            have k0 := Ae hb2 HC0.out
            have k1 := Ae hb2 HC1.out
            have k2 := Ae hb2 HC2.out
            have k3 := Ae hb2 HC3.out
            have HB2 := Lib.hid (HB1.out.trans (hb2.mono HB1.out.size))
            clear hb2
            go_wp2_with fail
            refine (Nw nm _ hxn).mono ?_
            rintro e w3 ⟨rfl, hb3⟩
            rw [HNB.out]
            have m0 := Ae hb3 k0
            have m1 := Ae hb3 k1
            have m2 := Ae hb3 k2
            have m3 := Ae hb3 k3
            have HB3 := Lib.hid (HB2.out.trans (hb3.mono HB2.out.size))
            clear hb3 k0 k1 k2 k3
            cases nb with
            | false =>
              have HA : Hid (L9 (vis left d (.mk 2 n nm l)) = -1) := Lib.hid (by rw [HV.out, if_pos (.inr (.inr (by rw [HQ.out]; rfl)))]; rfl)
              go_wp2
              go_ret
              exact ⟨by rw [HA.out]; rfl, HB3.out⟩
            | true =>
              by_cases e2 : n = 0
              . subst e2
                have HVL : Hid (vis left d (.mk 2 0 nm l) = Dt (left - 1) (d + 1) l) := Lib.hid (by rw [HV.out, if_neg (by rw [HQ.out]; simp; omega)]; rfl)
                have hl1 : (left : Int) - 1 = ((left - 1 : Nat) : Int) := by omega
                go_wp2_with fail
                go_loopw [1, 7] (fun c i wr => ∃ j k : Nat, j <= l.length /\ k <= 60 /\ c = .int .i64 k /\ i = .int .i64 j /\ Dt k (d + 1) (l.drop j) = vis left d (.mk 2 0 nm l) /\ Below w3.heap.size w3 wr) (fun _ i _ => l.length - (intOf i).toNat)
                case atStart => exact ⟨0, left - 1, Nat.zero_le _, by omega, by rw [<- hl1], rfl, HVL.out.symm, Below.refl _ _⟩
                case round =>
                  obtain ⟨j, k, hj, hk, rfl, rfl, hvl, hB⟩ := hrel
                  have HVJ := Lib.hid hvl
                  have HB := Lib.hid hB
                  have q3 := Ae hB m3
                  clear hvl hB m0 m1 m2 m3
                  by_cases hlt : j < l.length
                  . obtain ⟨a, ha⟩ : ∃ a, l[j]? = some a := ⟨_, List.getElem?_eq_getElem hlt⟩
                    have hbw : Below w.heap.size w wr := HBW.out.trans ((HB3.out.trans (HB.out.mono HB3.out.size)).mono HBW.out.size)
                    obtain ⟨pj, cj, Sj, hSj, -⟩ := (hargs j a ha).inv
                    have hsub := HIH.out j a ha a k (d + 1) wr rfl (hname j a ha) hk (by omega) hbw
                    rw [hSj] at hsub
                    have hdr : Dt k (d + 1) (l.drop j) = match vis k (d + 1) a with | none => none | some m => Dt m (d + 1) (l.drop (j + 1)) := by
                      obtain ⟨hj', rfl⟩ := List.getElem?_eq_some_iff.1 ha
                      rw [List.drop_eq_getElem_cons hj', Dt]
                      all_goals (cases vis k (d + 1) l[j] <;> rfl)
                    have hle := fun m => Mm k (d + 1) m a
                    obtain ⟨b, o, rfl, hc⟩ := hfit (by rintro rfl; simp at hlt)
                    obtain ⟨r0, r1, r2, r3⟩ := hc j a ha
                    have s0 := Ae hbw r0
                    have s1 := Ae hbw r1
                    have s2 := Ae hbw r2
                    have s3 := Ae hbw r3
                    rw [hSj] at s3
                    obtain ⟨V, hV⟩ : ∃ V, vis k (d + 1) a = V := ⟨_, rfl⟩
                    rw [hV] at hsub hdr
                    have HLE := Lib.hid (fun m h => hle m (hV.trans h))
                    have HDR := Lib.hid hdr
                    have HSUB := Lib.hid hsub
                    obtain ⟨oa, na, nma, la⟩ := a
                    simp only [Ex.op, Ex.n, Ex.name, Ex.args] at s0 s1 s2 s3
                    clear r0 r1 r2 r3 hc ha hSj hsub hdr hle hV hbw
                    go_wp2_with fail
                    refine HSUB.out.mono ?_
                    rintro e w5 ⟨rfl, hb5⟩
                    have HB5 := Lib.hid (HB.out.trans (hb5.mono HB.out.size))
                    have q5 := Ae hb5 q3
                    clear hb5 q3 s0 s1 s2 s3 HB
                    cases V with
                    | none =>
                      simp only [L9]
                      go_wp2
                      go_ret
                      have h := HVJ.out
                      rw [HDR.out] at h
                      exact ⟨by rw [<- h]; rfl, HB3.out.trans (HB5.out.mono HB3.out.size)⟩
                    | some m =>
                      have hm := HLE.out m rfl
                      simp only [L9]
                      go_wp2
                      go_roundw
                      case rel => exact ⟨j + 1, m, by omega, by omega, rfl, by go_num, by have h := HVJ.out; rw [HDR.out] at h; exact h, HB5.out⟩
                      case measure => simp [intOf]; omega
                  . obtain rfl : j = l.length := by omega
                    go_wp2
                    go_ret
                    have h := HVJ.out
                    rw [List.drop_length, Dt] at h
                    exact ⟨by rw [<- h]; rfl, HB3.out.trans (HB.out.mono HB3.out.size)⟩
              . have HA : Hid (L9 (vis left d (.mk 2 n nm l)) = -1) := Lib.hid (by rw [HV.out, if_pos (.inr (.inr (by rw [HQ.out]; simp [e2])))]; rfl)
                have hd4 : (n != 0) = true := by simpa using e2
                go_wp2
                go_ret
                exact ⟨by rw [HA.out]; rfl, HB3.out⟩
          . have hq : Cl (.mk op n nm l) = true <-> (0 <= n /\ n <= 9999 /\ (n = 0 \/ op = 1) /\ nm.size = 0) := by
              rw [I6, if_neg e1]
              exact ⟨fun h => h.2, fun h => ⟨HAR.out.symm, h⟩⟩
            have HNO : Hid (¬ (0 <= n /\ n <= 9999 /\ (n = 0 \/ op = 1) /\ nm.size = 0) -> L9 (vis left d (.mk op n nm l)) = -1) := Lib.hid (fun h => by
              rw [HV.out, if_pos (.inr (.inr (by cases hp : Cl (.mk op n nm l) with | false => rfl | true => exact absurd (hq.1 hp) h)))]; rfl)
            have HQ := Lib.hid hq
            clear hq
            have hop2 : (op == 2) = false := by simpa using e1
            have hop2' : (op != 2) = true := by simpa using e1
            by_cases e2 : nm.size = 0
            . have hnm := Ce e2
              by_cases e3 : n = 0 \/ op = 1
              . by_cases e4 : n < 0
                . have HA := Lib.hid (HNO.out (by omega))
                  by_cases e6 : n = 0
                  . omega
                  . obtain rfl : op = 1 := by omega
                    go_enter Tryz.func98, Tryz.ntmps98
                    go_wp2_with fail
                    rw [HW1.out]
                    refine Al (by kernel_rfl) (by kernel_rfl) ?_
                    repeat (go_big_quiet_step ((go_at_call 141; exact Calls.later_of ((B2 _ _).mono fun _ _ ⟨he, hw⟩ => ⟨by rw [he, HAR.out], by rw [<- hw]; exact Below.refl _ _⟩))))
                    refine wpQuiet_nil ?_
                    intro w2 hb2
                    have k0 := Ae hb2 HC0.out
                    have k1 := Ae hb2 HC1.out
                    have k2 := Ae hb2 HC2.out
                    have k3 := Ae hb2 HC3.out
                    have HB2 := Lib.hid (HB1.out.trans (hb2.mono HB1.out.size))
                    clear hb2
                    go_wp2
                    go_ret
                    exact ⟨by rw [HA.out]; rfl, HB2.out⟩
                . by_cases e5 : 9999 < n
                  . have HA := Lib.hid (HNO.out (by omega))
                    obtain rfl : op = 1 := by omega
                    go_enter Tryz.func98, Tryz.ntmps98
                    go_wp2_with fail
                    rw [HW1.out]
                    refine Al (by kernel_rfl) (by kernel_rfl) ?_
                    repeat (go_big_quiet_step ((go_at_call 141; exact Calls.later_of ((B2 _ _).mono fun _ _ ⟨he, hw⟩ => ⟨by rw [he, HAR.out], by rw [<- hw]; exact Below.refl _ _⟩))))
                    refine wpQuiet_nil ?_
                    intro w2 hb2
                    have k0 := Ae hb2 HC0.out
                    have k1 := Ae hb2 HC1.out
                    have k2 := Ae hb2 HC2.out
                    have k3 := Ae hb2 HC3.out
                    have HB2 := Lib.hid (HB1.out.trans (hb2.mono HB1.out.size))
                    clear hb2
                    go_wp2
                    go_ret
                    exact ⟨by rw [HA.out]; rfl, HB2.out⟩
                  . have HQY := Lib.hid (HQ.out.2 ⟨by omega, by omega, e3, e2⟩)
                    by_cases e6 : n = 0
                    . subst e6
                      by_cases e7 : op = 1
                      . subst e7
                        go_enter Tryz.func98, Tryz.ntmps98
                        go_wp2_with fail
                        rw [HW1.out]
                        refine Al (by kernel_rfl) (by kernel_rfl) ?_
                        repeat (go_big_quiet_step ((go_at_call 141; exact Calls.later_of ((B2 _ _).mono fun _ _ ⟨he, hw⟩ => ⟨by rw [he, HAR.out], by rw [<- hw]; exact Below.refl _ _⟩))))
                        refine wpQuiet_nil ?_
                        intro w2 hb2
                        have k0 := Ae hb2 HC0.out
                        have k1 := Ae hb2 HC1.out
                        have k2 := Ae hb2 HC2.out
                        have k3 := Ae hb2 HC3.out
                        have HB2 := Lib.hid (HB1.out.trans (hb2.mono HB1.out.size))
                        clear hb2
                        have HVL : Hid (vis left d (.mk 1 0 nm l) = Dt (left - 1) (d + 1) l) := Lib.hid (by rw [HV.out, if_neg (by rw [HQY.out]; simp; omega)]; rfl)
                        have hl1 : (left : Int) - 1 = ((left - 1 : Nat) : Int) := by omega
                        go_wp2_with fail
                        go_loopw [1, 7] (fun c i wr => ∃ j k : Nat, j <= l.length /\ k <= 60 /\ c = .int .i64 k /\ i = .int .i64 j /\ Dt k (d + 1) (l.drop j) = vis left d (.mk 1 0 nm l) /\ Below w2.heap.size w2 wr) (fun _ i _ => l.length - (intOf i).toNat)
                        case atStart => exact ⟨0, left - 1, Nat.zero_le _, by omega, by rw [<- hl1], rfl, HVL.out.symm, Below.refl _ _⟩
                        case round =>
                          obtain ⟨j, k, hj, hk, rfl, rfl, hvl, hB⟩ := hrel
                          have HVJ := Lib.hid hvl
                          have HB := Lib.hid hB
                          have q3 := Ae hB k3
                          clear hvl hB k0 k1 k2 k3
                          by_cases hlt : j < l.length
                          . obtain ⟨a, ha⟩ : ∃ a, l[j]? = some a := ⟨_, List.getElem?_eq_getElem hlt⟩
                            have hbw : Below w.heap.size w wr := HBW.out.trans ((HB2.out.trans (HB.out.mono HB2.out.size)).mono HBW.out.size)
                            obtain ⟨pj, cj, Sj, hSj, -⟩ := (hargs j a ha).inv
                            have hsub := HIH.out j a ha a k (d + 1) wr rfl (hname j a ha) hk (by omega) hbw
                            rw [hSj] at hsub
                            have hdr : Dt k (d + 1) (l.drop j) = match vis k (d + 1) a with | none => none | some m => Dt m (d + 1) (l.drop (j + 1)) := by
                              obtain ⟨hj', rfl⟩ := List.getElem?_eq_some_iff.1 ha
                              rw [List.drop_eq_getElem_cons hj', Dt]
                              all_goals (cases vis k (d + 1) l[j] <;> rfl)
                            have hle := fun m => Mm k (d + 1) m a
                            obtain ⟨b, o, rfl, hc⟩ := hfit (by rintro rfl; simp at hlt)
                            obtain ⟨r0, r1, r2, r3⟩ := hc j a ha
                            have s0 := Ae hbw r0
                            have s1 := Ae hbw r1
                            have s2 := Ae hbw r2
                            have s3 := Ae hbw r3
                            rw [hSj] at s3
                            obtain ⟨V, hV⟩ : ∃ V, vis k (d + 1) a = V := ⟨_, rfl⟩
                            rw [hV] at hsub hdr
                            have HLE := Lib.hid (fun m h => hle m (hV.trans h))
                            have HDR := Lib.hid hdr
                            have HSUB := Lib.hid hsub
                            obtain ⟨oa, na, nma, la⟩ := a
                            simp only [Ex.op, Ex.n, Ex.name, Ex.args] at s0 s1 s2 s3
                            clear r0 r1 r2 r3 hc ha hSj hsub hdr hle hV hbw
                            go_wp2_with fail
                            refine HSUB.out.mono ?_
                            rintro e w5 ⟨rfl, hb5⟩
                            have HB5 := Lib.hid (HB.out.trans (hb5.mono HB.out.size))
                            have q5 := Ae hb5 q3
                            clear hb5 q3 s0 s1 s2 s3 HB
                            cases V with
                            | none =>
                              simp only [L9]
                              go_wp2
                              go_ret
                              have h := HVJ.out
                              rw [HDR.out] at h
                              exact ⟨by rw [<- h]; rfl, HB2.out.trans (HB5.out.mono HB2.out.size)⟩
                            | some m =>
                              have hm := HLE.out m rfl
                              simp only [L9]
                              go_wp2
                              go_roundw
                              case rel => exact ⟨j + 1, m, by omega, by omega, rfl, by go_num, by have h := HVJ.out; rw [HDR.out] at h; exact h, HB5.out⟩
                              case measure => simp [intOf]; omega
                          . obtain rfl : j = l.length := by omega
                            go_wp2
                            go_ret
                            have h := HVJ.out
                            rw [List.drop_length, Dt] at h
                            exact ⟨by rw [<- h]; rfl, HB2.out.trans (HB.out.mono HB2.out.size)⟩
                      . have hx1 : (op != 1) = true := by simpa using e7
                        go_enter Tryz.func98, Tryz.ntmps98
                        go_wp2_with fail
                        rw [HW1.out]
                        refine Al (by kernel_rfl) (by kernel_rfl) ?_
                        repeat (go_big_quiet_step ((go_at_call 141; exact Calls.later_of ((B2 _ _).mono fun _ _ ⟨he, hw⟩ => ⟨by rw [he, HAR.out], by rw [<- hw]; exact Below.refl _ _⟩))))
                        refine wpQuiet_nil ?_
                        intro w2 hb2
                        have k0 := Ae hb2 HC0.out
                        have k1 := Ae hb2 HC1.out
                        have k2 := Ae hb2 HC2.out
                        have k3 := Ae hb2 HC3.out
                        have HB2 := Lib.hid (HB1.out.trans (hb2.mono HB1.out.size))
                        clear hb2
                        have HVL : Hid (vis left d (.mk op 0 nm l) = Dt (left - 1) (d + 1) l) := Lib.hid (by rw [HV.out, if_neg (by rw [HQY.out]; simp; omega)]; rfl)
                        have hl1 : (left : Int) - 1 = ((left - 1 : Nat) : Int) := by omega
                        go_wp2_with fail
                        go_loopw [1, 7] (fun c i wr => ∃ j k : Nat, j <= l.length /\ k <= 60 /\ c = .int .i64 k /\ i = .int .i64 j /\ Dt k (d + 1) (l.drop j) = vis left d (.mk op 0 nm l) /\ Below w2.heap.size w2 wr) (fun _ i _ => l.length - (intOf i).toNat)
                        case atStart => exact ⟨0, left - 1, Nat.zero_le _, by omega, by rw [<- hl1], rfl, HVL.out.symm, Below.refl _ _⟩
                        case round =>
                          obtain ⟨j, k, hj, hk, rfl, rfl, hvl, hB⟩ := hrel
                          have HVJ := Lib.hid hvl
                          have HB := Lib.hid hB
                          have q3 := Ae hB k3
                          clear hvl hB k0 k1 k2 k3
                          by_cases hlt : j < l.length
                          . obtain ⟨a, ha⟩ : ∃ a, l[j]? = some a := ⟨_, List.getElem?_eq_getElem hlt⟩
                            have hbw : Below w.heap.size w wr := HBW.out.trans ((HB2.out.trans (HB.out.mono HB2.out.size)).mono HBW.out.size)
                            obtain ⟨pj, cj, Sj, hSj, -⟩ := (hargs j a ha).inv
                            have hsub := HIH.out j a ha a k (d + 1) wr rfl (hname j a ha) hk (by omega) hbw
                            rw [hSj] at hsub
                            have hdr : Dt k (d + 1) (l.drop j) = match vis k (d + 1) a with | none => none | some m => Dt m (d + 1) (l.drop (j + 1)) := by
                              obtain ⟨hj', rfl⟩ := List.getElem?_eq_some_iff.1 ha
                              rw [List.drop_eq_getElem_cons hj', Dt]
                              all_goals (cases vis k (d + 1) l[j] <;> rfl)
                            have hle := fun m => Mm k (d + 1) m a
                            obtain ⟨b, o, rfl, hc⟩ := hfit (by rintro rfl; simp at hlt)
                            obtain ⟨r0, r1, r2, r3⟩ := hc j a ha
                            have s0 := Ae hbw r0
                            have s1 := Ae hbw r1
                            have s2 := Ae hbw r2
                            have s3 := Ae hbw r3
                            rw [hSj] at s3
                            obtain ⟨V, hV⟩ : ∃ V, vis k (d + 1) a = V := ⟨_, rfl⟩
                            rw [hV] at hsub hdr
                            have HLE := Lib.hid (fun m h => hle m (hV.trans h))
                            have HDR := Lib.hid hdr
                            have HSUB := Lib.hid hsub
                            obtain ⟨oa, na, nma, la⟩ := a
                            simp only [Ex.op, Ex.n, Ex.name, Ex.args] at s0 s1 s2 s3
                            clear r0 r1 r2 r3 hc ha hSj hsub hdr hle hV hbw
                            go_wp2_with fail
                            refine HSUB.out.mono ?_
                            rintro e w5 ⟨rfl, hb5⟩
                            have HB5 := Lib.hid (HB.out.trans (hb5.mono HB.out.size))
                            have q5 := Ae hb5 q3
                            clear hb5 q3 s0 s1 s2 s3 HB
                            cases V with
                            | none =>
                              simp only [L9]
                              go_wp2
                              go_ret
                              have h := HVJ.out
                              rw [HDR.out] at h
                              exact ⟨by rw [<- h]; rfl, HB2.out.trans (HB5.out.mono HB2.out.size)⟩
                            | some m =>
                              have hm := HLE.out m rfl
                              simp only [L9]
                              go_wp2
                              go_roundw
                              case rel => exact ⟨j + 1, m, by omega, by omega, rfl, by go_num, by have h := HVJ.out; rw [HDR.out] at h; exact h, HB5.out⟩
                              case measure => simp [intOf]; omega
                          . obtain rfl : j = l.length := by omega
                            go_wp2
                            go_ret
                            have h := HVJ.out
                            rw [List.drop_length, Dt] at h
                            exact ⟨by rw [<- h]; rfl, HB2.out.trans (HB.out.mono HB2.out.size)⟩
                    . obtain rfl : op = 1 := by omega
                      have hx2 : (n != 0) = true := by simpa using e6
                      go_enter Tryz.func98, Tryz.ntmps98
                      go_wp2_with fail
                      rw [HW1.out]
                      refine Al (by kernel_rfl) (by kernel_rfl) ?_
                      repeat (go_big_quiet_step ((go_at_call 141; exact Calls.later_of ((B2 _ _).mono fun _ _ ⟨he, hw⟩ => ⟨by rw [he, HAR.out], by rw [<- hw]; exact Below.refl _ _⟩))))
                      refine wpQuiet_nil ?_
                      intro w2 hb2
                      have k0 := Ae hb2 HC0.out
                      have k1 := Ae hb2 HC1.out
                      have k2 := Ae hb2 HC2.out
                      have k3 := Ae hb2 HC3.out
                      have HB2 := Lib.hid (HB1.out.trans (hb2.mono HB1.out.size))
                      clear hb2
                      have HVL : Hid (vis left d (.mk 1 n nm l) = Dt (left - 1) (d + 1) l) := Lib.hid (by rw [HV.out, if_neg (by rw [HQY.out]; simp; omega)]; rfl)
                      have hl1 : (left : Int) - 1 = ((left - 1 : Nat) : Int) := by omega
                      go_wp2_with fail
                      go_loopw [1, 7] (fun c i wr => ∃ j k : Nat, j <= l.length /\ k <= 60 /\ c = .int .i64 k /\ i = .int .i64 j /\ Dt k (d + 1) (l.drop j) = vis left d (.mk 1 n nm l) /\ Below w2.heap.size w2 wr) (fun _ i _ => l.length - (intOf i).toNat)
                      case atStart => exact ⟨0, left - 1, Nat.zero_le _, by omega, by rw [<- hl1], rfl, HVL.out.symm, Below.refl _ _⟩
                      case round =>
                        obtain ⟨j, k, hj, hk, rfl, rfl, hvl, hB⟩ := hrel
                        have HVJ := Lib.hid hvl
                        have HB := Lib.hid hB
                        have q3 := Ae hB k3
                        clear hvl hB k0 k1 k2 k3
                        by_cases hlt : j < l.length
                        . obtain ⟨a, ha⟩ : ∃ a, l[j]? = some a := ⟨_, List.getElem?_eq_getElem hlt⟩
                          have hbw : Below w.heap.size w wr := HBW.out.trans ((HB2.out.trans (HB.out.mono HB2.out.size)).mono HBW.out.size)
                          obtain ⟨pj, cj, Sj, hSj, -⟩ := (hargs j a ha).inv
                          have hsub := HIH.out j a ha a k (d + 1) wr rfl (hname j a ha) hk (by omega) hbw
                          rw [hSj] at hsub
                          have hdr : Dt k (d + 1) (l.drop j) = match vis k (d + 1) a with | none => none | some m => Dt m (d + 1) (l.drop (j + 1)) := by
                            obtain ⟨hj', rfl⟩ := List.getElem?_eq_some_iff.1 ha
                            rw [List.drop_eq_getElem_cons hj', Dt]
                            all_goals (cases vis k (d + 1) l[j] <;> rfl)
                          have hle := fun m => Mm k (d + 1) m a
                          obtain ⟨b, o, rfl, hc⟩ := hfit (by rintro rfl; simp at hlt)
                          obtain ⟨r0, r1, r2, r3⟩ := hc j a ha
                          have s0 := Ae hbw r0
                          have s1 := Ae hbw r1
                          have s2 := Ae hbw r2
                          have s3 := Ae hbw r3
                          rw [hSj] at s3
                          obtain ⟨V, hV⟩ : ∃ V, vis k (d + 1) a = V := ⟨_, rfl⟩
                          rw [hV] at hsub hdr
                          have HLE := Lib.hid (fun m h => hle m (hV.trans h))
                          have HDR := Lib.hid hdr
                          have HSUB := Lib.hid hsub
                          obtain ⟨oa, na, nma, la⟩ := a
                          simp only [Ex.op, Ex.n, Ex.name, Ex.args] at s0 s1 s2 s3
                          clear r0 r1 r2 r3 hc ha hSj hsub hdr hle hV hbw
                          go_wp2_with fail
                          refine HSUB.out.mono ?_
                          rintro e w5 ⟨rfl, hb5⟩
                          have HB5 := Lib.hid (HB.out.trans (hb5.mono HB.out.size))
                          have q5 := Ae hb5 q3
                          clear hb5 q3 s0 s1 s2 s3 HB
                          cases V with
                          | none =>
                            simp only [L9]
                            go_wp2
                            go_ret
                            have h := HVJ.out
                            rw [HDR.out] at h
                            exact ⟨by rw [<- h]; rfl, HB2.out.trans (HB5.out.mono HB2.out.size)⟩
                          | some m =>
                            have hm := HLE.out m rfl
                            simp only [L9]
                            go_wp2
                            go_roundw
                            case rel => exact ⟨j + 1, m, by omega, by omega, rfl, by go_num, by have h := HVJ.out; rw [HDR.out] at h; exact h, HB5.out⟩
                            case measure => simp [intOf]; omega
                        . obtain rfl : j = l.length := by omega
                          go_wp2
                          go_ret
                          have h := HVJ.out
                          rw [List.drop_length, Dt] at h
                          exact ⟨by rw [<- h]; rfl, HB2.out.trans (HB.out.mono HB2.out.size)⟩
              . have HA := Lib.hid (HNO.out (by omega))
                have hx1 : (op != 1) = true := by simp; omega
                have hx2 : (n != 0) = true := by simp; omega
                go_enter Tryz.func98, Tryz.ntmps98
                go_wp2_with fail
                rw [HW1.out]
                refine Al (by kernel_rfl) (by kernel_rfl) ?_
                repeat (go_big_quiet_step ((go_at_call 141; exact Calls.later_of ((B2 _ _).mono fun _ _ ⟨he, hw⟩ => ⟨by rw [he, HAR.out], by rw [<- hw]; exact Below.refl _ _⟩))))
                refine wpQuiet_nil ?_
                intro w2 hb2
                have k0 := Ae hb2 HC0.out
                have k1 := Ae hb2 HC1.out
                have k2 := Ae hb2 HC2.out
                have k3 := Ae hb2 HC3.out
                have HB2 := Lib.hid (HB1.out.trans (hb2.mono HB1.out.size))
                clear hb2
                go_wp2
                go_ret
                exact ⟨by rw [HA.out]; rfl, HB2.out⟩
            . have hnm := Do (show 0 < nm.size by omega)
              have HA := Lib.hid (HNO.out (by omega))
              go_enter Tryz.func98, Tryz.ntmps98
              go_wp2_with fail
              rw [HW1.out]
              refine Al (by kernel_rfl) (by kernel_rfl) ?_
              repeat (go_big_quiet_step ((go_at_call 141; exact Calls.later_of ((B2 _ _).mono fun _ _ ⟨he, hw⟩ => ⟨by rw [he, HAR.out], by rw [<- hw]; exact Below.refl _ _⟩))))
              refine wpQuiet_nil ?_
              intro w2 hb2
              have k0 := Ae hb2 HC0.out
              have k1 := Ae hb2 HC1.out
              have k2 := Ae hb2 HC2.out
              have k3 := Ae hb2 HC3.out
              have HB2 := Lib.hid (HB1.out.trans (hb2.mono HB1.out.size))
              clear hb2
              go_wp2
              go_ret
              exact ⟨by rw [HA.out]; rfl, HB2.out⟩
        . have HA : Hid (L9 (vis left d (.mk op n nm l)) = -1) := Lib.hid (by rw [HV.out, if_pos (.inr (.inr (HP3.out g3)))]; rfl)
          have hd3 : (A != (l.length : Int)) = true := by simpa using g3
          go_enter Tryz.func98, Tryz.ntmps98
          go_wp2_with fail
          rw [HW1.out]
          refine Al (by kernel_rfl) (by kernel_rfl) ?_
          repeat (go_big_quiet_step ((go_at_call 141; exact Calls.later_of ((B2 _ _).mono fun _ _ ⟨he, hw⟩ => ⟨by rw [he, HAR.out], by rw [<- hw]; exact Below.refl _ _⟩))))
          refine wpQuiet_nil ?_
          intro w2 hb2
          go_wp2
          go_ret
          exact ⟨by rw [HA.out]; rfl, HB1.out.trans (hb2.mono HB1.out.size)⟩
end Go.Proofs.YtiledamgmppcmaaGreatDoor
namespace Go.Proofs.YtiledamgmppcmaaGreatDoor
open Go.RowKit
theorem Pt (v : Value) (x : Ex) (w : World) (h : Af7 w v x) :
    Calls Tryz.prog 51 #[v] w fun e w' => e = .returned (.bool (Ge x)) /\ Below w.heap.size w w' := by
  obtain ⟨s, rfl, hn, ha⟩ := h
  have hc := fun W hb => O6 ha x 60 1 W rfl hn (Nat.le_refl _) (by omega) hb
  obtain ⟨p, cap, S, rfl, hcap, hmax, -⟩ := ha.inv
  have HC := Lib.hid hc
  have HV : Hid (Ge x = (vis 60 1 x).isSome) := Lib.hid rfl
  obtain ⟨V, hV⟩ : ∃ V, vis 60 1 x = V := ⟨_, rfl⟩
  rw [hV] at HC HV
  obtain ⟨op, n, nm, l⟩ := x
  simp only [Ex.val, Ex.op, Ex.n, Ex.name, Ex.args] at HC |-
  clear ha hc hV
  go_enter Tryz.func51, Tryz.ntmps51
  go_wp2_with fail
  refine (HC.out _ ((Below.refl _ _).alloc (Nat.le_refl _) _)).mono ?_
  rintro e w1 ⟨rfl, hb1⟩
  have HB := Lib.hid (El hb1)
  clear hb1 HC
  cases V with
  | none =>
    simp only [L9]
    go_wp2
    go_ret
    exact ⟨by rw [HV.out]; rfl, HB.out⟩
  | some k =>
    simp only [L9]
    have hk : decide ((0 : Int) <= (k : Int)) = true := by simp
    go_wp2
    go_ret
    exact ⟨by rw [HV.out]; rfl, HB.out⟩
end Go.Proofs.YtiledamgmppcmaaGreatDoor
namespace Go.Proofs.YtiledamgmppcmaaGreatDoor
open Go.RowKit
theorem Lb (x : Ex) (hs : x.small) : An 51 [exP x] ⟨[], []⟩ (.ret (A7 (Ge x))) ⟨[], []⟩ := by
  refine J4 Tryz.func51 rfl rfl rfl fun K w vs _ hA => ?_
  simp only [Bm] at hA
  obtain ⟨u, us, rfl, hr, rfl⟩ := hA
  exact Pt u x w (Abt hs hr)
end Go.Proofs.YtiledamgmppcmaaGreatDoor
namespace Go.Proofs.YtiledamgmppcmaaGreatDoor
open Go.RowKit
noncomputable section
end
end Go.Proofs.YtiledamgmppcmaaGreatDoor
namespace Go.Proofs.YtiledamgmppcmaaGreatDoor
open Go.RowKit
noncomputable section
section
variable (P : Program) (orc : Nat -> List PV -> PS -> Option (POut × PS)) (rows : Nat -> Bool)
end
end
end Go.Proofs.YtiledamgmppcmaaGreatDoor
namespace Go.Proofs.YtiledamgmppcmaaGreatDoor
open Go.RowKit Go.ChangeShapes Go.ChangeAt Go.WideShapes
theorem Lp {z : Int} (h : (Lit.int .u8 z).wf = true) : ∃ b : UInt8, z = b.toNat := by
  have hb := bounds_u8 h
  refine ⟨UInt8.ofNat z.toNat, ?_⟩
  rw [UInt8.toNat_ofNat']
  omega
end Go.Proofs.YtiledamgmppcmaaGreatDoor
namespace Go.Proofs.YtiledamgmppcmaaGreatDoor
open Go.RowKit
structure PRes where
  x : Ex
  at' : Nat
  bad : Bool
def PRes.no (a : Nat) : PRes := ⟨.nil, a, true⟩
def PRes.yes (x : Ex) (a : Nat) : PRes := ⟨x, a, false⟩
def PRes.go (p : PRes) (f : Ex -> Nat -> PRes) : PRes := if p.bad = true then .no p.at' else f p.x p.at'
def Ba (l : List TkZ) (a : Nat) (s : ByteArray) : Bool := match l[a]? with
  | some t => decide (t.2.1 = s) && (decide (t.1 = 2) || decide (t.1 = 4))
  | none => false
def Ct (l : List TkZ) (a : Nat) (s : ByteArray) (f : Nat -> PRes) : PRes := if Ba l a s = true then f (a + 1) else .no a
def Jk : Nat -> List (Int × ByteArray)
  | 1 => [(18, ⟨#[111, 114]⟩)]
  | 2 => [(17, ⟨#[97, 110, 100]⟩)]
  | 4 => [(11, ⟨#[61]⟩), (12, ⟨#[33, 61]⟩), (13, ⟨#[60]⟩), (14, ⟨#[60, 61]⟩), (15, ⟨#[62]⟩), (16, ⟨#[62, 61]⟩)]
  | 5 => [(7, ⟨#[43]⟩), (8, ⟨#[45]⟩)]
  | 6 => [(9, ⟨#[42]⟩), (10, ⟨#[47]⟩)]
  | _ => []
def Bd (l : List TkZ) (a m : Nat) : Option Int := ((Jk m).find? fun p => Ba l a p.2).map (·.1)
def Ao (m : Nat) : Nat := if m = 2 then 3 else m + 1
def kIf : ByteArray := ⟨#[105, 102]⟩
def Kq : ByteArray := ⟨#[116, 104, 101, 110]⟩
def Kp : ByteArray := ⟨#[101, 108, 115, 101]⟩
def Ab6 : ByteArray := ⟨#[110, 111, 116]⟩
def Ms : ByteArray := ⟨#[45]⟩
def Ik : ByteArray := ⟨#[40]⟩
def Hl : ByteArray := ⟨#[41]⟩
def Lv (s : ByteArray) : Int := (Lib.atoi s.data.toList).getD 0
def Gf (t : TkZ) (a : Nat) : PRes := if t.1 = 1 then .yes (.mk 2 0 t.2.1 []) (a + 1) else if t.1 = 3 then .yes (.mk 1 (Lv t.2.1) ⟨#[]⟩ []) (a + 1) else .no a
def Jm (l : List TkZ) (a : Nat) : PRes := match l[a]? with
  | none => .no a
  | some t => Gf t a
mutual
def pE (l : List TkZ) : Nat -> Nat -> Nat -> PRes
  | 0, _, a => .no a
  | n + 1, 0, a => if Ba l a kIf = true then
      (pE l n 0 (a + 1)).go fun x b => Ct l b Kq fun b => (pE l n 0 b).go fun y c => Ct l c Kp fun c => (pE l n 0 c).go fun z d => .yes (nd 19 [x, y, z]) d
      else pE l n 1 a
  | n + 1, 3, a => if Ba l a Ab6 = true then (pE l n 3 (a + 1)).go fun x b => .yes (nd 6 [x]) b
      else (pE l n 5 a).go fun x b => match Bd l b 4 with
        | some op => (pE l n 5 (b + 1)).go fun y c => .yes (nd op [x, y]) c
        | none => .yes x b
  | n + 1, 7, a => if Ba l a Ms = true then (pE l n 7 (a + 1)).go fun x b => .yes (nd 5 [x]) b
      else if Ba l a Oc = true then .yes (nd 3 []) (a + 1)
      else if Ba l a Jg = true then .yes (nd 4 []) (a + 1)
      else if Ba l a Ik = true then (pE l n 0 (a + 1)).go fun x b => Ct l b Hl fun c => .yes x c
      else Jm l a
  | n + 1, m, a => (pE l n (Ao m) a).go fun x b => pR l n m x b
def pR (l : List TkZ) : Nat -> Nat -> Ex -> Nat -> PRes
  | 0, _, _, a => .no a
  | n + 1, m, x, a => match Bd l a m with
    | none => .yes x a
    | some op => (pE l n (Ao m) (a + 1)).go fun y b => pR l n m (nd op [x, y]) b
end
def A5 : Nat -> Nat
  | 0 => 8
  | 1 => 7
  | 2 => 6
  | 3 => 5
  | 5 => 4
  | 6 => 3
  | _ => 2
def D1 (l : List TkZ) (a : Nat) : PRes := pE l (8 * (l.length - a) + 9) 0 a
theorem Bs {l : List TkZ} {a : Nat} {s : ByteArray} (h : Ba l a s = true) : a < l.length := by
  unfold Ba at h
  split at h
  . rename_i t ht; exact (List.getElem?_eq_some_iff.1 ht).1
  . cases h
theorem B0 {l : List TkZ} {a m : Nat} {op : Int} (h : Bd l a m = some op) : a < l.length := by
  unfold Bd at h
  obtain ⟨p, hp, _⟩ := Option.map_eq_some_iff.1 h
  have h2 := List.find?_some (p := fun q : Int × ByteArray => Ba l a q.2) hp
  exact Bs h2
def PRes.fits (p : PRes) (l : List TkZ) (a : Nat) : Prop := a <= p.at' /\ (a <= l.length -> p.at' <= l.length)
theorem Dh {l : List TkZ} {a : Nat} : (PRes.no a).fits l a := ⟨Nat.le_refl _, id⟩
theorem Bc {l : List TkZ} {a : Nat} {x : Ex} : (PRes.yes x a).fits l a := ⟨Nat.le_refl _, id⟩
theorem PRes.fits.up {p : PRes} {l : List TkZ} {a b : Nat} (h : p.fits l b) (hab : a <= b) (hb : a <= l.length -> b <= l.length) : p.fits l a := ⟨Nat.le_trans hab h.1, fun ha => h.2 (hb ha)⟩
theorem PRes.fits.one {p : PRes} {l : List TkZ} {a : Nat} {s : ByteArray} (h : p.fits l (a + 1)) (hs : Ba l a s = true) : p.fits l a := h.up (Nat.le_succ _) fun _ => Bs hs
theorem B1 {p : PRes} {f : Ex -> Nat -> PRes} {l : List TkZ} {a : Nat} (h : p.fits l a) (hf : ∀ x b, (f x b).fits l b) : (p.go f).fits l a := by
  unfold PRes.go
  split
  . exact PRes.fits.up Dh h.1 h.2
  . exact (hf p.x p.at').up h.1 h.2
theorem D6 {f : Nat -> PRes} {l : List TkZ} {a : Nat} {s : ByteArray} (hf : ∀ b, (f b).fits l b) : (Ct l a s f).fits l a := by
  unfold Ct
  split
  . rename_i h; exact (hf _).one h
  . exact Dh
theorem Km {l : List TkZ} {a : Nat} {t : TkZ} (h : l[a]? = some t) : (Gf t a).fits l a := by
  have := (List.getElem?_eq_some_iff.1 h).1
  unfold Gf
  split
  . exact Bc.up (Nat.le_succ _) fun _ => this
  . split
    . exact Bc.up (Nat.le_succ _) fun _ => this
    . exact Dh
theorem Dz (l : List TkZ) (n m a : Nat) (h0 : m ≠ 0) (h3 : m ≠ 3) (h7 : m ≠ 7) : pE l (n + 1) m a = (pE l n (Ao m) a).go fun x b => pR l n m x b := by
  rw [pE] <;> simp_all
theorem Hw (l : List TkZ) : ∀ n, (∀ m a, (pE l n m a).fits l a) /\ ∀ m x a, (pR l n m x a).fits l a
  | 0 => ⟨fun m a => by rw [pE]; exact Dh, fun m x a => by rw [pR]; exact Dh⟩
  | n + 1 => by
    obtain ⟨h1, h2⟩ := Hw l n
    refine ⟨fun m a => ?_, fun m x a => ?_⟩
    . by_cases e0 : m = 0
      . subst e0
        rw [pE]
        split
        . rename_i h
          exact (B1 (h1 _ _) fun x b => D6 fun b => B1 (h1 _ _) fun y c => D6 fun c => B1 (h1 _ _) fun z d => Bc).one h
        . exact h1 _ _
      by_cases e3 : m = 3
      . subst e3
        rw [pE]
        split
        . rename_i h
          exact (B1 (h1 _ _) fun x b => Bc).one h
        . refine B1 (h1 _ _) fun x b => ?_
          split
          . rename_i op ho
            exact (B1 (h1 _ _) fun y c => Bc).up (Nat.le_succ _) fun _ => B0 ho
          . exact Bc
      by_cases e7 : m = 7
      . subst e7
        rw [pE]
        split
        . rename_i h
          exact (B1 (h1 _ _) fun x b => Bc).one h
        split
        . rename_i h; exact PRes.fits.one Bc h
        split
        . rename_i h; exact PRes.fits.one Bc h
        split
        . rename_i h
          exact (B1 (h1 _ _) fun x b => D6 fun c => Bc).one h
        unfold Jm
        split
        . exact Dh
        . rename_i t ht; exact Km ht
      rw [Dz l n m a e0 e3 e7]
      exact B1 (h1 _ _) fun x b => h2 _ _ _
    . rw [pR]
      split
      . exact Bc
      . rename_i op ho
        exact (B1 (h1 _ _) fun y c => h2 _ _ _).up (Nat.le_succ _) fun _ => B0 ho
theorem Gc (l : List TkZ) (n m a : Nat) : a <= (pE l n m a).at' := ((Hw l n).1 m a).1
theorem Dg (l : List TkZ) (n m a : Nat) (h : a <= l.length) : (pE l n m a).at' <= l.length := ((Hw l n).1 m a).2 h
end Go.Proofs.YtiledamgmppcmaaGreatDoor
namespace Go.Proofs.YtiledamgmppcmaaGreatDoor
open Go.RowKit
theorem D0 (op : Int) (l : List Ex) : An 114 [Ai op, .d (.sl 4 (Eb l))] ⟨[], []⟩ (.ret (exP (.mk op 0 ⟨#[]⟩ l))) ⟨[], []⟩ := by
  refine Af Tryz.func114 rfl rfl (Nat.le_of_ble_eq_true rfl) rfl (Nat.le_refl _) ?_
  repeat' (first | refine rl0 ?_ | refine rs0 (fun h => ?_) (fun h => ?_) | fail)
  rfl
end Go.Proofs.YtiledamgmppcmaaGreatDoor
namespace Go.Proofs.YtiledamgmppcmaaGreatDoor
open Go.RowKit
@[reducible] def pxS (l : List TkZ) (a : Nat) : PS := ⟨[[.d (.sl 3 (l.map tkR)), Ai a]], []⟩
theorem Kn {l : List TkZ} {a : Nat} {s : ByteArray} (h : l.length <= a) : Ba l a s = false := by
  unfold Ba; rw [List.getElem?_eq_none h]
theorem G9 {l : List TkZ} {a : Nat} {s : ByteArray} {t : TkZ} (h : l[a]? = some t) : Ba l a s = (decide (t.2.1 = s) && (decide (t.1 = 2) || decide (t.1 = 4))) := by
  unfold Ba; rw [h]
theorem B4 {l : List TkZ} {a : Nat} {t : TkZ} (h : l[a]? = some t) : (l.map tkR)[((a : Nat) : Int).toNat]? = some (tkR t) := by
  rw [Int.toNat_natCast, List.getElem?_map, h]; rfl
theorem Aj {l : List TkZ} {s : ByteArray} {a : Nat} (hl : l.length <= 9223372036854775806) (h : Ba l a s = false) : An 111 [.ptr 0 0, By s] (pxS l a) (.ret (A7 false)) (pxS l a) := by
  have hn := h
  refine Af Tryz.func111 rfl rfl (Nat.le_of_ble_eq_true rfl) rfl (Nat.le_refl _) ?_
  repeat' (first | refine rl0 ?_ | refine rs0 (fun h => ?_) (fun h => ?_) | fail)
  . rfl
  . have hlt : a < l.length := by simp at h; omega
    obtain ⟨t, ht⟩ : ∃ t, l[a]? = some t := ⟨_, List.getElem?_eq_getElem hlt⟩
    rw [G9 ht] at hn
    refine Ib _ rfl rfl rfl rfl rfl (B4 ht) (by omega) ?_
    repeat' (first | refine rl0 ?_ | refine rs0 (fun h => ?_) (fun h => ?_) | fail)
    . rfl
    refine Ib _ rfl rfl rfl rfl rfl (B4 ht) (by omega) ?_
    repeat' (first | refine rl0 ?_ | refine rs0 (fun h => ?_) (fun h => ?_) | fail)
    . refine Ib _ rfl rfl rfl rfl rfl (B4 ht) (by omega) ?_
      repeat' (first | refine rl0 ?_ | refine rs0 (fun h => ?_) (fun h => ?_) | fail)
      . rfl
      . exfalso; simp_all
    . exfalso; simp_all
theorem As {l : List TkZ} {s : ByteArray} {a : Nat} (hl : l.length <= 9223372036854775806) (h : Ba l a s = true) : An 111 [.ptr 0 0, By s] (pxS l a) (.ret (A7 true)) (pxS l (a + 1)) := by
  have hn := h
  have hlt := Bs h
  obtain ⟨t, ht⟩ : ∃ t, l[a]? = some t := ⟨_, List.getElem?_eq_getElem hlt⟩
  rw [G9 ht] at hn
  refine Af Tryz.func111 rfl rfl (Nat.le_of_ble_eq_true rfl) rfl (Nat.le_refl _) ?_
  repeat' (first | refine rl0 ?_ | refine rs0 (fun h => ?_) (fun h => ?_) | fail)
  . exfalso; simp at h; omega
  refine Ib _ rfl rfl rfl rfl rfl (B4 ht) (by omega) ?_
  repeat' (first | refine rl0 ?_ | refine rs0 (fun h => ?_) (fun h => ?_) | fail)
  . exfalso; simp_all
  refine Ib _ rfl rfl rfl rfl rfl (B4 ht) (by omega) ?_
  repeat' (first | refine rl0 ?_ | refine rs0 (fun h => ?_) (fun h => ?_) | fail)
  . refine Ib _ rfl rfl rfl rfl rfl (B4 ht) (by omega) ?_
    repeat' (first | refine rl0 ?_ | refine rs0 (fun h => ?_) (fun h => ?_) | fail)
    . exfalso; simp_all
    . rfl
  . rfl
theorem C1 {l : List TkZ} {s : ByteArray} {a : Nat} (hl : l.length <= 9223372036854775806) (h : Ba l a s = true) : An 113 [.ptr 0 0, By s] (pxS l a) (.ret (.tup [])) (pxS l (a + 1)) := by
  refine Af Tryz.func113 rfl rfl (Nat.le_of_ble_eq_true rfl) rfl (Nat.le_refl _) ?_
  repeat' (first | refine rl0 ?_ | refine rs0 (fun h => ?_) (fun h => ?_) | fail)
  refine wcb (id := 0) (As hl h) rfl rfl rfl rfl rfl rfl rfl rfl (by repeat (first | exact Ad | refine Aa (Ab _) ?_)) rfl ?_
  repeat' (first | refine rl0 ?_ | refine rs0 (fun h => ?_) (fun h => ?_) | fail)
  rfl
theorem Fg {l : List TkZ} {s : ByteArray} {a : Nat} (hl : l.length <= 9223372036854775806) (h : Ba l a s = false) : An 113 [.ptr 0 0, By s] (pxS l a) (.panic Fv) (pxS l a) := by
  refine ⟨enters_of Tryz.func113 rfl rfl, Sv Tryz.func113 rfl (Nat.le_of_ble_eq_true rfl) ?_⟩
  repeat' (first | refine rl0 ?_ | refine rs0 (fun h => ?_) (fun h => ?_) | fail)
  refine wcb (id := 0) (Aj hl h) rfl rfl rfl rfl rfl rfl rfl rfl (by repeat (first | exact Ad | refine Aa (Ab _) ?_)) rfl ?_
  repeat' (first | refine rl0 ?_ | refine rs0 (fun h => ?_) (fun h => ?_) | fail)
  refine Gu rfl (G0 rfl rfl) ?_
  exact ⟨rfl, rfl⟩
def opN (i : Nat) : Int × Int × Int × Int × ByteArray := Ok.getD i (0, 0, 0, 0, ⟨#[]⟩)
theorem Ig {i : Nat} (h : i < 20) : (Adr.drop (((i : Nat) : Int).toNat * 5)).take 5 = opP (opN i) /\ ((i : Nat) : Int).toNat * 5 + 5 <= Adr.length := by
  cases i with
  | zero => exact ⟨rfl, Nat.le_of_ble_eq_true rfl⟩
  | succ i => exact S8 (op := ((i + 1 : Nat) : Int)) (by omega) (by omega)
def Hb (l : List TkZ) (a m i : Nat) : Bool := decide ((opN i).2.2.2.1 = m) && (decide ((opN i).1 = 2) && Ba l a (opN i).2.2.2.2)
def lvM (m : Nat) : Prop := m = 1 \/ m = 2 \/ m = 4 \/ m = 5 \/ m = 6
theorem E8 (l : List TkZ) (a : Nat) {m : Nat} (hm : lvM m) : Bd l a m = ((List.range 20).find? (Hb l a m)).map Int.ofNat := by
  have e : List.range 20 = [0, 1, 2, 3, 4, 5, 6, 7, 8, 9, 10, 11, 12, 13, 14, 15, 16, 17, 18, 19] := by decide
  rw [e]
  rcases hm with rfl | rfl | rfl | rfl | rfl <;> simp [Bd, Jk, List.find?, Hb, opN, Ok]
  . cases Ba l a ⟨#[111, 114]⟩ <;> rfl
  . cases Ba l a ⟨#[97, 110, 100]⟩ <;> rfl
  . cases Ba l a ⟨#[61]⟩ <;> cases Ba l a ⟨#[33, 61]⟩ <;> cases Ba l a ⟨#[60]⟩ <;> cases Ba l a ⟨#[60, 61]⟩ <;> cases Ba l a ⟨#[62]⟩ <;> cases Ba l a ⟨#[62, 61]⟩ <;> rfl
  . cases Ba l a ⟨#[43]⟩ <;> cases Ba l a ⟨#[45]⟩ <;> rfl
  . cases Ba l a ⟨#[42]⟩ <;> cases Ba l a ⟨#[47]⟩ <;> rfl
end Go.Proofs.YtiledamgmppcmaaGreatDoor
namespace Go.Proofs.YtiledamgmppcmaaGreatDoor
open Go.RowKit
def Fd : List Nat -> Nat -> List Oper -> Bool
  | _, _, [] => true
  | D, k, o :: r => D.any (aft o) && Fd (k :: D) (k + 1) r
section
variable {P : Program} {N : Nat} {ops : Array Oper} {rest : List Oper} {o : Oper} {F : Nat -> PV} {S Sx : PS} {q : WRes -> Prop} {ch : Nat -> Bool} {U Ut : List Nat} {k : Nat} {D : List Nat} {c : Value}
theorem Gn : ∀ (rest : List Oper) (k : Nat) (F : Nat -> PV) (D : List Nat), Fd D k rest = true -> WalkA P N ops ch U Ut k rest F S true D (.panic c Sx)
  | [], _, _, _, _ => .nilX
  | o :: r, k, F, D, h => by
    simp only [Fd, Bool.and_eq_true] at h
    exact .dead h.1 (Gn r (k + 1) _ _ h.2)
theorem Qv (ho : OpX P o F S c Sx) (h : q (.panic c Sx)) (hg : Am ops F o = some true := by exact rfl) (hc : ch k = true := by exact rfl) (hd : Fd (k :: D) (k + 1) rest = true := by kernel_rfl) : WA P N ops ch U Ut k (o :: rest) F S false D q :=
  ⟨⟨_, .boom hg hc ho (Gn rest (k + 1) _ _ hd), h⟩⟩
theorem Hv {U : List Nat} {id : Nat} (h : U.any (Nat.beq id) = true) : id ∈ U := by
  obtain ⟨x, hx, h2⟩ := List.any_eq_true.1 h
  rw [Nat.eq_of_beq_eq_true h2]; exact hx
theorem Ah {S S' : PS} {a : Nat} {U Ut : List Nat} (h : S'.boxes[a]? = S.boxes[a]?) (t : Agree U Ut S S') : Agree (a :: U) Ut S S' :=
  ⟨fun id hid => (List.mem_cons.1 hid).elim (fun e => e ▸ h) (t.boxes id), t.toks⟩
theorem Kl {f : Nat} {fn : Func} {c : Code} {args : List PV} {S S' : PS} {x : Value} (hf : P.funcs[f]? = some fn) (hb : fn.body = some c) (hn : args.length <= fn.ntmps)
    (h : PW P fn.ntmps c (fun e _ S1 => e = .panic [{ v := x, recovered := false }] /\ S1.cut S.boxes.length S.toks.length = S' /\ (S1.boxes.take S.boxes.length).all (fun c => PV.ltL S.boxes.length S.toks.length c) = true) (Lr args) S) : EvC P f args S (.panic x) S' := by
  intro K w vs hI hA
  have hl := hA.length
  refine calls_of_wp hf hb (wp_mono (h.run0 K w { tmps := vs.toArray ++ Array.replicate (fn.ntmps - vs.toArray.size) undef, defers := [] } hI ⟨by simp; omega, fun t => ?_⟩) ?_)
  . have := G3 args vs (fn.ntmps - vs.toArray.size) t hA
    rw [Array.getD_eq_getD_getElem?]
    rw [List.getD_eq_getElem?_getD] at this
    rw [<- Array.getElem?_toList]
    simpa using this
  . intro e a' w' hq
    obtain ⟨K', F', S1, h1, h2, h3, h4, rfl, rfl, hall⟩ := hq
    exact ⟨h4, _, Gb hI h1 (Nat.le_refl _) (Nat.le_refl _), h2.cut hall, rfl⟩
end
theorem A1 {f : Nat} {fn : Func} {c : Code} {args : List PV} {S S' : PS} {x : Value} (hf : Tryz.prog.funcs[f]? = some fn) (hname : (fn.name == "runtime.NumGoroutine") = false) (hb : fn.body = some c) (hn : args.length <= fn.ntmps)
    (h : PW Tryz.prog fn.ntmps c (fun e _ S1 => e = .panic [{ v := x, recovered := false }] /\ S1.cut S.boxes.length S.toks.length = S' /\ (S1.boxes.take S.boxes.length).all (fun c => PV.ltL S.boxes.length S.toks.length c) = true) (Lr args) S) : An f args S (.panic x) S' :=
  ⟨enters_of hf hname hb, Kl hf hb hn h⟩
section
variable {N : Nat} {ops : Array Oper} {rest : List Oper} {o : Oper} {F : Nat -> PV} {S S' S'' : PS} {q : WRes -> Prop} {C : Prop} {r r' : PV} {ch : Nat -> Bool} {U Ut : List Nat} {k : Nat} {bm : Bool} {D : List Nat}
theorem ql2 {t : TypeId} {x : Operand} {id off : Nat} {c : List PV} (kk : WA Tryz.prog N ops ch U Ut (k + 1) rest (Ch N o.dst r' F) S bm D q) (hg : Am ops F o = some true := by exact rfl) (hc : ch k = false := by exact rfl) (ho : o.op = .load t x := by exact rfl) (hk : (Bq t && (tyi t).isRow) = true := by exact rfl) (hx : evP F x = .ptr id off := by exact rfl) (hU : U.any (Nat.beq id) = true := by exact rfl) (hb : S.boxes[id]? = some c := by exact rfl) (hle : Nat.ble (off + (tyi t).size) c.length = true := by exact rfl) (hr : PV.agg ((c.drop off).take (tyi t).size) = r' := by first | (apply Ck rfl; repeat (first | exact Bp rfl | apply Gx rfl | apply Gy rfl | apply Gz rfl)) | exact Lk rfl | (dsimp only [List.length_cons, List.length_nil, List.length_append, Nat.reduceAdd]; rfl) | rfl) : WA Tryz.prog N ops ch U Ut k (o :: rest) F S bm D q := by
  subst hr
  simp only [Bool.and_eq_true] at hk
  exact Sm hg hc (fun S' ha => Iu ho (Gl t hk.1) hk.2 hx (by rw [ha.boxes id (Hv hU)]; exact hb) hle) kk
theorem Ajg (kk : WA Tryz.prog N ops ch U Ut (k + 1) rest (Ch N o.dst r' F) S'' false D q) (hg : Am ops F o = some true := by exact rfl) (hc : ch k = true := by exact rfl) (h : Hz tyi Bq F S o.op = some (C, r, S') := by exact rfl) (hr : r = r' := by first | (apply Ck rfl; repeat (first | exact Bp rfl | apply Gx rfl | apply Gy rfl | apply Gz rfl)) | exact Lk rfl | (dsimp only [List.length_cons, List.length_nil, List.length_append, Nat.reduceAdd]; rfl) | rfl) (hS : S' = S'' := by (apply Ob rfl; repeat (first | exact Bp rfl | apply Gx rfl | apply Gy rfl | apply Gz rfl | exact Je rfl | apply Gg rfl | exact Jf rfl | apply Gh rfl | exact Np))) (hC : C := by first | exact True.intro | (simp only [IntKind.lo, IntKind.hi]; omega) | omega | decide) (ha : Agree U Ut S S'' := by repeat (first | exact Ar | refine Ah rfl ?_)) : WA Tryz.prog N ops ch U Ut k (o :: rest) F S false D q := wac hg hc h hr hS hC ha kk
end
section
variable {N : Nat} {ops : Array Oper} {rest : List Oper} {o : Oper} {F : Nat -> PV} {S S' : PS} {q : WRes -> Prop} {r : PV} {ch : Nat -> Bool} {U Ut : List Nat} {k : Nat} {D : List Nat} {c : Operand} {al : Array Operand} {ats : Array TypeId} {f : Nat} {caps args : List PV} {c0 c1 : List PV} {x : Value}
theorem wb1 (id : Nat) (hD : An f args ⟨[c0], []⟩ (.ret r) ⟨[c1], []⟩) (kk : WK Tryz.prog N ops rest (Ch N o.dst r F) S' q) (hg : Am ops F o = some true := by exact rfl) (ho : o.op = .call { callee := .value c, args := al, argTypes := ats } := by exact rfl) (hc : evP F c = .fn f caps := by exact rfl) (hbox : S.boxes[id]? = some c0 := by exact rfl) (hl0 : PV.ltL 0 0 c0 = true := by exact rfl) (hl1 : PV.ltL 0 0 c1 = true := by exact rfl) (hlr : r.lt 0 0 = true := by exact rfl)
    (hlt : PV.ltL 1 0 args = true := by exact rfl) (ha : F6 S (al.toList.map (evP F) ++ caps) (PV.renL (fbN [id]) (ftN [] S.toks.length) args) := by repeat (first | exact Ad | refine Aa (Ab _) ?_)) (hS : S.setBox id c1 = S' := by exact rfl) : WK Tryz.prog N ops (o :: rest) F S q := wcb hD hg ho hc hbox hl0 hl1 hlr hlt ha hS kk
theorem Jy (id : Nat) (hD : An f args ⟨[c0], []⟩ (.panic x) ⟨[c1], []⟩) (kk : q (.panic x S')) (hg : Am ops F o = some true := by exact rfl) (ho : o.op = .call { callee := .value c, args := al, argTypes := ats } := by exact rfl) (hc : evP F c = .fn f caps := by exact rfl) (hbox : S.boxes[id]? = some c0 := by exact rfl) (hl0 : PV.ltL 0 0 c0 = true := by exact rfl) (hl1 : PV.ltL 0 0 c1 = true := by exact rfl)
    (hlt : PV.ltL 1 0 args = true := by exact rfl) (ha : F6 S (al.toList.map (evP F) ++ caps) (PV.renL (fbN [id]) (ftN [] S.toks.length) args) := by repeat (first | exact Ad | refine Aa (Ab _) ?_)) (hS : S.setBox id c1 = S' := by exact rfl) : WK Tryz.prog N ops (o :: rest) F S q := wcbx hD hg ho hc hbox hl0 hl1 hlt ha hS kk
theorem wb1a (id : Nat) (hD : An f args ⟨[c0], []⟩ (.ret r) ⟨[c1], []⟩) (kk : WA Tryz.prog N ops ch U Ut (k + 1) rest (Ch N o.dst r F) S' false D q) (hg : Am ops F o = some true := by exact rfl) (hcc : ch k = true := by exact rfl) (ho : o.op = .call { callee := .value c, args := al, argTypes := ats } := by exact rfl) (hc : evP F c = .fn f caps := by exact rfl) (hbox : S.boxes[id]? = some c0 := by exact rfl) (hl0 : PV.ltL 0 0 c0 = true := by exact rfl) (hl1 : PV.ltL 0 0 c1 = true := by exact rfl) (hlr : r.lt 0 0 = true := by exact rfl)
    (hlt : PV.ltL 1 0 args = true := by exact rfl) (ha : F6 S (al.toList.map (evP F) ++ caps) (PV.renL (fbN [id]) (ftN [] S.toks.length) args) := by repeat (first | exact Ad | refine Aa (Ab _) ?_)) (hS : S.setBox id c1 = S' := by exact rfl) (hA : Agree U Ut S S' := by repeat (first | exact Ar | refine Ah rfl ?_)) : WA Tryz.prog N ops ch U Ut k (o :: rest) F S false D q := wcba hD hg hcc ho hc hbox hl0 hl1 hlr hlt ha hS hA kk
theorem Ado (id : Nat) (hD : An f args ⟨[c0], []⟩ (.panic x) ⟨[c1], []⟩) (kk : q (.panic x S')) (hg : Am ops F o = some true := by exact rfl) (hcc : ch k = true := by exact rfl) (ho : o.op = .call { callee := .value c, args := al, argTypes := ats } := by exact rfl) (hc : evP F c = .fn f caps := by exact rfl) (hbox : S.boxes[id]? = some c0 := by exact rfl) (hl0 : PV.ltL 0 0 c0 = true := by exact rfl) (hl1 : PV.ltL 0 0 c1 = true := by exact rfl)
    (hlt : PV.ltL 1 0 args = true := by exact rfl) (ha : F6 S (al.toList.map (evP F) ++ caps) (PV.renL (fbN [id]) (ftN [] S.toks.length) args) := by repeat (first | exact Ad | refine Aa (Ab _) ?_)) (hS : S.setBox id c1 = S' := by exact rfl) (hd : Fd (k :: D) (k + 1) rest = true := by kernel_rfl) : WA Tryz.prog N ops ch U Ut k (o :: rest) F S false D q := by
  subst hS; exact Qv (K5 hD ho hc hbox hl0 hl1 hlt ha) kk hg hcc hd
theorem wp1 (hD : An f args ⟨[], []⟩ (.ret r) ⟨[], []⟩) (kk : WK Tryz.prog N ops rest (Ch N o.dst r F) S q) (hg : Am ops F o = some true := by exact rfl) (ho : o.op = .call { callee := .value c, args := al, argTypes := ats } := by exact rfl) (hc : evP F c = .fn f caps := by exact rfl)
    (hlt : PV.ltL 0 0 args = true := by exact rfl) (hlr : r.lt 0 0 = true := by exact rfl) (ha : F6 S (al.toList.map (evP F) ++ caps) args := by repeat (first | exact Ad | refine Aa (Ab _) ?_)) : WK Tryz.prog N ops (o :: rest) F S q := D3 hD hg ho hc hlt hlr ha kk
theorem wp1a (hD : An f args ⟨[], []⟩ (.ret r) ⟨[], []⟩) {bm : Bool} (kk : WA Tryz.prog N ops ch U Ut (k + 1) rest (Ch N o.dst r F) S bm D q) (hg : Am ops F o = some true := by exact rfl) (hp : (!ch k && Ta ops ch k) = true := by first | exact rfl | kernel_rfl) (ho : o.op = .call { callee := .value c, args := al, argTypes := ats } := by exact rfl) (hc : evP F c = .fn f caps := by exact rfl)
    (hlt : PV.ltL 0 0 args = true := by exact rfl) (hlr : r.lt 0 0 = true := by exact rfl) (ha : F6 S (al.toList.map (evP F) ++ caps) args := by repeat (first | exact Ad | refine Aa (Ab _) ?_)) : WA Tryz.prog N ops ch U Ut k (o :: rest) F S bm D q := wcpp hD hg hp ho hc hlt hlr ha kk
end
theorem rl6 {G X : Prop} (h : X) (t : Hx X -> G := by (intro h; (first | refine Gw ?_ | refine q6 ?_ | refine q10 ?_ | refine q11k ?_ | refine ql1 ?_ | refine ql2 ?_ | refine q12 ?_ | refine q13k ?_ | refine Ajg ?_ | fail); (repeat' (first | refine Gw ?_ | refine q6 ?_ | refine q10 ?_ | refine q11k ?_ | refine ql1 ?_ | refine ql2 ?_ | refine q12 ?_ | refine q13k ?_ | refine Ajg ?_ | fail)); exact h.out)) : G := t ⟨h⟩
end Go.Proofs.YtiledamgmppcmaaGreatDoor
namespace Go.Proofs.YtiledamgmppcmaaGreatDoor
open Go.RowKit
def AgK (ops : Array Oper) (k : Nat) (us : List (Nat × List Nat)) (S S' : PS) : Prop := ∀ e ∈ us, Ji ops k e.1 = true -> Agree e.2 [] S S'
theorem Fk {ops : Array Oper} {k : Nat} {S S' : PS} : AgK ops k [] S S' := fun _ h => by cases h
theorem Fc {ops : Array Oper} {k j : Nat} {ids : List Nat} {us : List (Nat × List Nat)} {S S' : PS} (h : Ji ops k j = false) (t : AgK ops k us S S') : AgK ops k ((j, ids) :: us) S S' := fun e he hu => by
  rcases List.mem_cons.1 he with rfl | he
  . rw [h] at hu; cases hu
  . exact t e he hu
theorem A3 {ops : Array Oper} {k j : Nat} {ids : List Nat} {us : List (Nat × List Nat)} {S S' : PS} (h : Agree ids [] S S') (t : AgK ops k us S S') : AgK ops k ((j, ids) :: us) S S' := fun e he hu => by
  rcases List.mem_cons.1 he with rfl | he
  . exact h
  . exact t e he hu
theorem Uj {ops : Array Oper} {k : Nat} {us : List (Nat × List Nat)} {S S' : PS} (h : AgK ops k us S S') (j : Nat) (hj : Ji ops k j = true) : Agree (Az us j) [] S S' := by
  refine ⟨fun id hid => ?_, by simp⟩
  obtain ⟨e, he, h1, h2⟩ := Pw hid
  exact (h e he (by rw [h1]; exact hj)).boxes id h2
section
variable {N : Nat} {ops : Array Oper} {rest : List Oper} {o : Oper} {F : Nat -> PV} {S S' S'' : PS} {q : WRes -> Prop} {C : Prop} {r r' : PV} {Q : Exit -> (Nat -> PV) -> PS -> Prop} {ch : Nat -> Bool} {us : List (Nat × List Nat)} {k : Nat} {bm : Bool} {D : List Nat}
theorem b0 {id : Nat} {l : List Oper} (ch : Nat -> Bool) (us : List (Nat × List Nat)) (h : Bw.WB Tryz.prog N l.toArray ch (Az us) (fun _ => []) 0 l F S false [] (Alf Q)) (hm : Tryz.prog.follows .mixedOrders = true := by exact rfl) (hB : W8 l.toArray ch = true := by kernel_rfl) : PW Tryz.prog N (.region id l.toArray true) Q F S := Bw.pw_regionB ch (Az us) (fun _ => []) hm hB h
theorem b1 (h : q (.done F S)) : Bw.WB Tryz.prog N ops ch (Az us) (fun _ => []) k [] F S false D q := ⟨⟨_, .nil, h⟩⟩
theorem Ke (ho : ∀ S', Agree (Az us k) [] S S' -> OpS Tryz.prog o F S' r S') (kk : Bw.WB Tryz.prog N ops ch (Az us) (fun _ => []) (k + 1) rest (Ch N o.dst r F) S bm D q) (hg : Am ops F o = some true := by exact rfl) (hc : ch k = false := by first | exact rfl | kernel_rfl) : Bw.WB Tryz.prog N ops ch (Az us) (fun _ => []) k (o :: rest) F S bm D q := let ⟨x, h1, h2⟩ := kk.ex; ⟨⟨x, .free hg hc ho h1, h2⟩⟩
theorem bpin (ho : OpS Tryz.prog o F S r S) (kk : Bw.WB Tryz.prog N ops ch (Az us) (fun _ => []) (k + 1) rest (Ch N o.dst r F) S bm D q) (hg : Am ops F o = some true := by exact rfl) (hp : (!ch k && Ta ops ch k) = true := by first | exact rfl | kernel_rfl) : Bw.WB Tryz.prog N ops ch (Az us) (fun _ => []) k (o :: rest) F S bm D q := by
  simp only [Bool.and_eq_true, Bool.not_eq_true'] at hp
  exact let ⟨x, h1, h2⟩ := kk.ex; ⟨⟨x, .pin hg hp.1 hp.2 ho h1, h2⟩⟩
theorem Lm (ho : OpS Tryz.prog o F S r S') (kk : Bw.WB Tryz.prog N ops ch (Az us) (fun _ => []) (k + 1) rest (Ch N o.dst r F) S' false D q) (hg : Am ops F o = some true := by exact rfl) (hc : ch k = true := by first | exact rfl | kernel_rfl) (ha : AgK ops k us S S' := by repeat (first | exact Fk | refine A3 (Ah rfl Ar) ?_ | refine A3 (Ah rfl (Ah rfl Ar)) ?_ | refine A3 (Ah rfl (Ah rfl (Ah rfl Ar))) ?_ | refine A3 (Ah rfl (Ah rfl (Ah rfl (Ah rfl Ar)))) ?_ | refine Fc (by kernel_rfl) ?_)) : Bw.WB Tryz.prog N ops ch (Az us) (fun _ => []) k (o :: rest) F S false D q := let ⟨x, h1, h2⟩ := kk.ex; ⟨⟨x, .chain hg hc ho (fun j hj => Uj ha j hj) h1, h2⟩⟩
theorem Uo {c : Value} {Sx : PS} : ∀ (rest : List Oper) (k : Nat) (F : Nat -> PV) (D : List Nat), Fd D k rest = true -> Bw.WalkA Tryz.prog N ops ch (Az us) (fun _ => []) k rest F S true D (.panic c Sx)
  | [], _, _, _, _ => .nilX
  | o :: r, k, F, D, h => by
    simp only [Fd, Bool.and_eq_true] at h
    exact .dead h.1 (Uo r (k + 1) _ _ h.2)
theorem Abm {c : Value} {Sx : PS} (ho : OpX Tryz.prog o F S c Sx) (h : q (.panic c Sx)) (hg : Am ops F o = some true := by exact rfl) (hc : ch k = true := by first | exact rfl | kernel_rfl) (hd : Fd (k :: D) (k + 1) rest = true := by kernel_rfl) : Bw.WB Tryz.prog N ops ch (Az us) (fun _ => []) k (o :: rest) F S false D q := ⟨⟨_, .boom hg hc ho (Uo rest (k + 1) _ _ hd), h⟩⟩
theorem b3 (kk : Bw.WB Tryz.prog N ops ch (Az us) (fun _ => []) (k + 1) rest (Ch N o.dst r F) S bm D q) (hg : Am ops F o = some true := by exact rfl) (hc : ch k = false := by first | exact rfl | kernel_rfl) (h : ∀ S', Agree (Az us k) [] S S' -> Le tyi Bq F S' o.op = some (C, r, S') := by exact fun _ _ => rfl) (hC : C := by first | exact True.intro | (simp only [IntKind.lo, IntKind.hi]; omega) | omega | decide) : Bw.WB Tryz.prog N ops ch (Az us) (fun _ => []) k (o :: rest) F S bm D q := Ke (fun S' ha => Jw Gl (h S' ha) hC) kk hg hc
theorem b5 {t : TypeId} {x : Operand} {id off : Nat} {c : List PV} {p : PV} (kk : Bw.WB Tryz.prog N ops ch (Az us) (fun _ => []) (k + 1) rest (Ch N o.dst p F) S bm D q) (hg : Am ops F o = some true := by exact rfl) (hc : ch k = false := by first | exact rfl | kernel_rfl) (ho : o.op = .load t x := by exact rfl) (hk : (Bq t && !(tyi t).isRow) = true := by exact rfl) (hx : evP F x = .ptr id off := by exact rfl) (hU : (Az us k).any (Nat.beq id) = true := by first | exact rfl | kernel_rfl) (hb : S.boxes[id]? = some c := by exact rfl) (hpp : c[off]? = some p := by exact rfl) : Bw.WB Tryz.prog N ops ch (Az us) (fun _ => []) k (o :: rest) F S bm D q := by
  simp only [Bool.and_eq_true, Bool.not_eq_true'] at hk
  exact Ke (fun S' ha => Qj ho (Gl t hk.1) hk.2 hx (by rw [ha.boxes id (Hv hU)]; exact hb) hpp) kk hg hc
theorem b6 {t : TypeId} {x : Operand} {id off : Nat} {c : List PV} (kk : Bw.WB Tryz.prog N ops ch (Az us) (fun _ => []) (k + 1) rest (Ch N o.dst r' F) S bm D q) (hg : Am ops F o = some true := by exact rfl) (hc : ch k = false := by first | exact rfl | kernel_rfl) (ho : o.op = .load t x := by exact rfl) (hk : (Bq t && (tyi t).isRow) = true := by exact rfl) (hx : evP F x = .ptr id off := by exact rfl) (hU : (Az us k).any (Nat.beq id) = true := by first | exact rfl | kernel_rfl) (hb : S.boxes[id]? = some c := by exact rfl) (hle : Nat.ble (off + (tyi t).size) c.length = true := by exact rfl) (hr : PV.agg ((c.drop off).take (tyi t).size) = r' := by first | (apply Ck rfl; repeat (first | exact Bp rfl | apply Gx rfl | apply Gy rfl | apply Gz rfl)) | exact Lk rfl | (dsimp only [List.length_cons, List.length_nil, List.length_append, Nat.reduceAdd]; rfl) | rfl) : Bw.WB Tryz.prog N ops ch (Az us) (fun _ => []) k (o :: rest) F S bm D q := by
  subst hr
  simp only [Bool.and_eq_true] at hk
  exact Ke (fun S' ha => Iu ho (Gl t hk.1) hk.2 hx (by rw [ha.boxes id (Hv hU)]; exact hb) hle) kk hg hc
theorem b7 (kk : Bw.WB Tryz.prog N ops ch (Az us) (fun _ => []) (k + 1) rest (Ch N o.dst r' F) S bm D q) (hg : Am ops F o = some true := by exact rfl) (hc : ch k = false := by first | exact rfl | kernel_rfl) (h : ∀ S', Agree (Az us k) [] S S' -> Hz tyi Bq F S' o.op = some (C, r, S') := by exact fun _ _ => rfl) (hr : r = r' := by first | (apply Ck rfl; repeat (first | exact Bp rfl | apply Gx rfl | apply Gy rfl | apply Gz rfl)) | exact Lk rfl | (dsimp only [List.length_cons, List.length_nil, List.length_append, Nat.reduceAdd]; rfl) | rfl) (hC : C := by first | exact True.intro | (simp only [IntKind.lo, IntKind.hi]; omega) | omega | decide) : Bw.WB Tryz.prog N ops ch (Az us) (fun _ => []) k (o :: rest) F S bm D q := by
  subst hr; exact Ke (fun S' ha => Ga Gl (h S' ha) hC) kk hg hc
theorem b9 (kk : Bw.WB Tryz.prog N ops ch (Az us) (fun _ => []) (k + 1) rest (Ch N o.dst r' F) S'' false D q) (hg : Am ops F o = some true := by exact rfl) (hc : ch k = true := by first | exact rfl | kernel_rfl) (h : Hz tyi Bq F S o.op = some (C, r, S') := by exact rfl) (hr : r = r' := by first | (apply Ck rfl; repeat (first | exact Bp rfl | apply Gx rfl | apply Gy rfl | apply Gz rfl)) | exact Lk rfl | (dsimp only [List.length_cons, List.length_nil, List.length_append, Nat.reduceAdd]; rfl) | rfl) (hS : S' = S'' := by (apply Ob rfl; repeat (first | exact Bp rfl | apply Gx rfl | apply Gy rfl | apply Gz rfl | exact Je rfl | apply Gg rfl | exact Jf rfl | apply Gh rfl | exact Np))) (hC : C := by first | exact True.intro | (simp only [IntKind.lo, IntKind.hi]; omega) | omega | decide) (ha : AgK ops k us S S'' := by repeat (first | exact Fk | refine A3 (Ah rfl Ar) ?_ | refine A3 (Ah rfl (Ah rfl Ar)) ?_ | refine A3 (Ah rfl (Ah rfl (Ah rfl Ar))) ?_ | refine A3 (Ah rfl (Ah rfl (Ah rfl (Ah rfl Ar)))) ?_ | refine Fc (by kernel_rfl) ?_)) : Bw.WB Tryz.prog N ops ch (Az us) (fun _ => []) k (o :: rest) F S false D q := by
  subst hr; subst hS; exact Lm (Ga Gl h hC) kk hg hc ha
theorem Tk {t : TypeId} {x y : Operand} {l : List (List DV)} {kd : IntKind} {j : Int} (e : List DV) (he : l[j.toNat]? = some e) (h0 : 0 <= j) (kk : Bw.WB Tryz.prog N ops ch (Az us) (fun _ => []) (k + 1) rest (Ch N o.dst (.ep e) F) S bm D q) (hg : Am ops F o = some true := by exact rfl) (hc : ch k = false := by first | exact rfl | kernel_rfl) (ho : o.op = .indexAddr t x y := by exact rfl) (hk : (Bq t && Nat.beq (tyi t).kind 2) = true := by exact rfl) (hx : ∀ S' : PS, S'.toS (tyi t).ek (evP F x) = some l := by exact fun _ => rfl) (hy : evP F y = .d (.v (.int kd j)) := by exact rfl) : Bw.WB Tryz.prog N ops ch (Az us) (fun _ => []) k (o :: rest) F S bm D q := by
  simp only [Bool.and_eq_true] at hk
  exact Ke (fun S' _ => I4 ho (Gl t hk.1) (Nat.eq_of_beq_eq_true hk.2) (hx S') hy h0 he) kk hg hc
variable {c : Operand} {al : Array Operand} {ats : Array TypeId} {f : Nat} {caps args : List PV} {c0 c1 : List PV} {x : Value}
theorem P7 (hD : An f args ⟨[], []⟩ (.ret r) ⟨[], []⟩) (kk : Bw.WB Tryz.prog N ops ch (Az us) (fun _ => []) (k + 1) rest (Ch N o.dst r F) S bm D q) (hg : Am ops F o = some true := by exact rfl) (ho : o.op = .call { callee := .value c, args := al, argTypes := ats } := by exact rfl) (hv : evP F c = .fn f caps := by exact rfl) (hlt : PV.ltL 0 0 args = true := by exact rfl) (hlr : r.lt 0 0 = true := by exact rfl) (ha : F6 S (al.toList.map (evP F) ++ caps) args := by repeat (first | exact Ad | refine Aa (Ab _) ?_)) (hp : (!ch k && Ta ops ch k) = true := by first | exact rfl | kernel_rfl) : Bw.WB Tryz.prog N ops ch (Az us) (fun _ => []) k (o :: rest) F S bm D q := by
  have h := L6 ho hD.1 hv hlt ha hD.2
  rw [Q1 r hlr] at h
  exact bpin h kk hg hp
theorem Z3 (id : Nat) (hD : An f args ⟨[c0], []⟩ (.ret r) ⟨[c1], []⟩) (kk : Bw.WB Tryz.prog N ops ch (Az us) (fun _ => []) (k + 1) rest (Ch N o.dst r F) S' false D q) (hg : Am ops F o = some true := by exact rfl) (ho : o.op = .call { callee := .value c, args := al, argTypes := ats } := by exact rfl) (hv : evP F c = .fn f caps := by exact rfl) (hb : S.boxes[id]? = some c0 := by exact rfl) (hl0 : PV.ltL 0 0 c0 = true := by exact rfl) (hl1 : PV.ltL 0 0 c1 = true := by exact rfl) (hlr : r.lt 0 0 = true := by exact rfl) (hlt : PV.ltL 1 0 args = true := by exact rfl) (ha : F6 S (al.toList.map (evP F) ++ caps) (PV.renL (fbN [id]) (ftN [] S.toks.length) args) := by repeat (first | exact Ad | refine Aa (Ab _) ?_)) (hS : S.setBox id c1 = S' := by exact rfl) (hc : ch k = true := by first | exact rfl | kernel_rfl) (hA : AgK ops k us S S' := by repeat (first | exact Fk | refine A3 (Ah rfl Ar) ?_ | refine A3 (Ah rfl (Ah rfl Ar)) ?_ | refine A3 (Ah rfl (Ah rfl (Ah rfl Ar))) ?_ | refine A3 (Ah rfl (Ah rfl (Ah rfl (Ah rfl Ar)))) ?_ | refine Fc (by kernel_rfl) ?_)) : Bw.WB Tryz.prog N ops ch (Az us) (fun _ => []) k (o :: rest) F S false D q := by
  subst hS; exact Lm (K3 hD ho hv hb hl0 hl1 hlr hlt ha) kk hg hc hA
theorem Un (id : Nat) (hD : An f args ⟨[c0], []⟩ (.panic x) ⟨[c1], []⟩) (kk : q (.panic x S')) (hg : Am ops F o = some true := by exact rfl) (ho : o.op = .call { callee := .value c, args := al, argTypes := ats } := by exact rfl) (hv : evP F c = .fn f caps := by exact rfl) (hb : S.boxes[id]? = some c0 := by exact rfl) (hl0 : PV.ltL 0 0 c0 = true := by exact rfl) (hl1 : PV.ltL 0 0 c1 = true := by exact rfl) (hlt : PV.ltL 1 0 args = true := by exact rfl) (ha : F6 S (al.toList.map (evP F) ++ caps) (PV.renL (fbN [id]) (ftN [] S.toks.length) args) := by repeat (first | exact Ad | refine Aa (Ab _) ?_)) (hS : S.setBox id c1 = S' := by exact rfl) (hc : ch k = true := by first | exact rfl | kernel_rfl) (hd : Fd (k :: D) (k + 1) rest = true := by kernel_rfl) : Bw.WB Tryz.prog N ops ch (Az us) (fun _ => []) k (o :: rest) F S false D q := by
  subst hS; exact Abm (K5 hD ho hv hb hl0 hl1 hlt ha) kk hg hc hd
end
theorem rl7 {G X : Prop} (h : X) (t : Hx X -> G := by (intro h; (first | refine b1 ?_ | refine b2 ?_ | refine b3 ?_ | refine b5 ?_ | refine b6 ?_ | refine b7 ?_ | refine b9 ?_ | refine b4 ?_ | refine b8 ?_ | fail); (repeat' (first | refine b1 ?_ | refine b2 ?_ | refine b3 ?_ | refine b5 ?_ | refine b6 ?_ | refine b7 ?_ | refine b9 ?_ | refine b4 ?_ | refine b8 ?_ | fail)); exact h.out)) : G := t ⟨h⟩
end Go.Proofs.YtiledamgmppcmaaGreatDoor
namespace Go.Proofs.YtiledamgmppcmaaGreatDoor
open Go.RowKit
@[reducible] def rdS (l : List TkZ) (a : Nat) (b : Bool) : PS := ⟨[[.d (.sl 3 (l.map tkR)), Ai a, A7 b]], []⟩
def D5 (l : List TkZ) : Prop := ∀ t ∈ l, t.1 = 1 \/ t.1 = 2 \/ t.1 = 3 \/ t.1 = 4
def isR (l : List TkZ) (a : Nat) (b : Bool) (s : ByteArray) : Bool := !b && Ba l a s
theorem Ab5 {l : List TkZ} {s : ByteArray} {a : Nat} {b : Bool} (hk : D5 l) : An 154 [.ptr 0 0, By s] (rdS l a b) (.ret (A7 (isR l a b s))) (rdS l a b) := by
  unfold isR
  cases b with
  | true =>
    refine Af Tryz.func154 rfl rfl (Nat.le_of_ble_eq_true rfl) rfl (Nat.le_refl _) ?_
    repeat' (first | refine rl0 ?_ | refine rs0 (fun h => ?_) (fun h => ?_) | fail)
    rfl
  | false =>
  show An _ _ _ (.ret (A7 (Ba l a s))) _
  by_cases hlt : a < l.length
  . obtain ⟨t, ht⟩ : ∃ t, l[a]? = some t := ⟨_, List.getElem?_eq_getElem hlt⟩
    have hkt := hk t (List.mem_of_getElem? ht)
    rw [G9 ht]
    refine Af Tryz.func154 rfl rfl (Nat.le_of_ble_eq_true rfl) rfl (Nat.le_refl _) ?_
    repeat' (first | refine rl0 ?_ | refine rs0 (fun h => ?_) (fun h => ?_) | fail)
    . refine Ib _ rfl rfl rfl rfl rfl (B4 ht) (by omega) ?_
      repeat' (first | refine rl0 ?_ | refine rs0 (fun h => ?_) (fun h => ?_) | fail)
      . refine Ib _ rfl rfl rfl rfl rfl (B4 ht) (by omega) ?_
        repeat' (first | refine rl0 ?_ | refine rs0 (fun h => ?_) (fun h => ?_) | fail)
        . refine Ib _ rfl rfl rfl rfl rfl (B4 ht) (by omega) ?_
          repeat' (first | refine rl0 ?_ | refine rs0 (fun h => ?_) (fun h => ?_) | fail)
          have h1 : t.2.1 = s := by simp_all
          have h2 : ¬ t.1 = 1 := by simp_all
          show A7 _ = A7 _
          congr 3
          simp only [h1, decide_true, Bool.true_and]
          by_cases h3 : t.1 = 3
          . simp [h3]
          . have : t.1 = 2 \/ t.1 = 4 := by omega
            rcases this with h | h <;> simp [h]
        . have h2 : t.1 = 1 := by simp_all
          simp [h2]
      . have h1 : ¬ t.2.1 = s := by simp_all
        simp [h1]
    . exfalso; simp at h; omega
  . rw [Kn (by omega)]
    refine Af Tryz.func154 rfl rfl (Nat.le_of_ble_eq_true rfl) rfl (Nat.le_refl _) ?_
    repeat' (first | refine rl0 ?_ | refine rs0 (fun h => ?_) (fun h => ?_) | fail)
    . exfalso; simp at h; omega
    . rfl
theorem Qn {l : List TkZ} {s : ByteArray} {a : Nat} {b : Bool} (hl : l.length <= 9223372036854775806) (hk : D5 l) : An 115 [.ptr 0 0, By s] (rdS l a b) (.ret (A7 (isR l a b s))) (rdS l (if isR l a b s = true then a + 1 else a) b) := by
  have h := Ab5 (s := s) (a := a) (b := b) hk
  cases e : isR l a b s with
  | true =>
    rw [e] at h
    have hlt : a < l.length := by
      unfold isR at e
      simp only [Bool.and_eq_true] at e
      exact Bs e.2
    rw [if_pos rfl]
    refine Af Tryz.func115 rfl rfl (Nat.le_of_ble_eq_true rfl) rfl (Nat.le_refl _) ?_
    repeat' (first | refine rl0 ?_ | refine rs0 (fun h => ?_) (fun h => ?_) | fail)
    refine wb1 0 h ?_
    repeat' (first | refine rl0 ?_ | refine rs0 (fun h => ?_) (fun h => ?_) | fail)
    rfl
  | false =>
    rw [e] at h
    rw [if_neg (by simp)]
    refine Af Tryz.func115 rfl rfl (Nat.le_of_ble_eq_true rfl) rfl (Nat.le_refl _) ?_
    repeat' (first | refine rl0 ?_ | refine rs0 (fun h => ?_) (fun h => ?_) | fail)
    refine wb1 0 h ?_
    repeat' (first | refine rl0 ?_ | refine rs0 (fun h => ?_) (fun h => ?_) | fail)
    rfl
theorem Qm {l : List TkZ} {s : ByteArray} {a : Nat} {b : Bool} (hl : l.length <= 9223372036854775806) (hk : D5 l) : An 117 [.ptr 0 0, By s] (rdS l a b) (.ret (.tup [])) (if isR l a b s = true then rdS l (a + 1) b else rdS l a true) := by
  have h := Qn (s := s) (a := a) (b := b) hl hk
  cases e : isR l a b s with
  | true =>
    rw [e, if_pos rfl] at h
    rw [if_pos rfl]
    refine Af Tryz.func117 rfl rfl (Nat.le_of_ble_eq_true rfl) rfl (Nat.le_refl _) ?_
    repeat' (first | refine rl0 ?_ | refine rs0 (fun h => ?_) (fun h => ?_) | fail)
    refine wb1 0 h ?_
    repeat' (first | refine rl0 ?_ | refine rs0 (fun h => ?_) (fun h => ?_) | fail)
    rfl
  | false =>
    rw [e, if_neg (by simp)] at h
    rw [if_neg (by simp)]
    refine Af Tryz.func117 rfl rfl (Nat.le_of_ble_eq_true rfl) rfl (Nat.le_refl _) ?_
    repeat' (first | refine rl0 ?_ | refine rs0 (fun h => ?_) (fun h => ?_) | fail)
    refine wb1 0 h ?_
    repeat' (first | refine rl0 ?_ | refine rs0 (fun h => ?_) (fun h => ?_) | fail)
    rfl
def lvR (m : Nat) : Nat := if m = 1 then 0 else if m = 2 then 1 else if m = 5 then 2 else 3
@[reducible] def biS (l : List TkZ) (a : Nat) (b : Bool) : PS := ⟨[[.d (.sl 3 (l.map tkR)), Ai a, A7 b], [By ⟨#[111, 114]⟩, By ⟨#[]⟩, By ⟨#[97, 110, 100]⟩, By ⟨#[]⟩, By ⟨#[43]⟩, By ⟨#[45]⟩, By ⟨#[42]⟩, By ⟨#[47]⟩], [Ai 18, Ai 0, Ai 17, Ai 0, Ai 7, Ai 8, Ai 9, Ai 10]], []⟩
@[reducible] def biL (v : Nat) (k : Nat) : List (Nat × PV) := [(0, .ptr 0 0), (1, Ai v), (5, .ptr 1 0), (6, .ptr 2 0), (7, Ai k)]
theorem Yd {l : List TkZ} {a : Nat} {b : Bool} (hk : D5 l) {v : Nat} {s0 : ByteArray} {o0 : Int} (hv : v = 0 /\ s0 = ⟨#[111, 114]⟩ /\ o0 = 18 \/ v = 1 /\ s0 = ⟨#[97, 110, 100]⟩ /\ o0 = 17) : An 156 [.ptr 0 0, Ai v] (rdS l a b) (.ret (Ai (if isR l a b s0 = true then o0 else 0))) (rdS l a b) := by
  have h0 := Ab5 (s := s0) (a := a) (b := b) hk
  cases e : isR l a b s0 with
  | true =>
    rw [e] at h0
    rw [if_pos rfl]
    rcases hv with ⟨rfl, rfl, rfl⟩ | ⟨rfl, rfl, rfl⟩
    all_goals
      refine Af Tryz.func156 rfl rfl (Nat.le_of_ble_eq_true rfl) rfl (Nat.le_refl _) ?_
      repeat' (first | refine rl0 ?_ | refine rs0 (fun h => ?_) (fun h => ?_) | fail)
      refine Bt (ι := Nat) (ok := fun k => k = 0) (L := biL _) (Sx := fun _ => biS l a b) (μ := fun _ => 0) 0 rfl (by repeat (first | exact Ag | refine Ac rfl ?_)) rfl ?_
      rintro k rfl
      repeat' (first | refine rl0 ?_ | refine rs0 (fun h => ?_) (fun h => ?_) | fail)
      refine wb1 0 h0 ?_
      repeat' (first | refine rl0 ?_ | refine rs0 (fun h => ?_) (fun h => ?_) | fail)
      rfl
  | false =>
    rw [e] at h0
    rw [if_neg (by simp)]
    rcases hv with ⟨rfl, rfl, rfl⟩ | ⟨rfl, rfl, rfl⟩
    all_goals
      refine Af Tryz.func156 rfl rfl (Nat.le_of_ble_eq_true rfl) rfl (Nat.le_refl _) ?_
      repeat' (first | refine rl0 ?_ | refine rs0 (fun h => ?_) (fun h => ?_) | fail)
      refine Bt (ι := Nat) (ok := fun k => k <= 2) (L := biL _) (Sx := fun _ => biS l a b) (μ := fun k => 2 - k) 0 (by omega) (by repeat (first | exact Ag | refine Ac rfl ?_)) rfl ?_
      intro k hk2
      have hkc : k = 0 \/ k = 1 \/ k = 2 := by omega
      rcases hkc with rfl | rfl | rfl
      . repeat' (first | refine rl0 ?_ | refine rs0 (fun h => ?_) (fun h => ?_) | fail)
        refine wb1 0 h0 ?_
        repeat' (first | refine rl0 ?_ | refine rs0 (fun h => ?_) (fun h => ?_) | fail)
        exact ⟨1, by omega, by omega, (by repeat (first | exact Ag | refine Ac rfl ?_)), rfl⟩
      . repeat' (first | refine rl0 ?_ | refine rs0 (fun h => ?_) (fun h => ?_) | fail)
        exact ⟨2, by omega, by omega, (by repeat (first | exact Ag | refine Ac rfl ?_)), rfl⟩
      . repeat' (first | refine rl0 ?_ | refine rs0 (fun h => ?_) (fun h => ?_) | fail)
        rfl
theorem Ye {l : List TkZ} {a : Nat} {b : Bool} (hk : D5 l) {v : Nat} {s0 s1 : ByteArray} {o0 o1 : Int} (hv : v = 2 /\ s0 = ⟨#[43]⟩ /\ s1 = ⟨#[45]⟩ /\ o0 = 7 /\ o1 = 8 \/ v = 3 /\ s0 = ⟨#[42]⟩ /\ s1 = ⟨#[47]⟩ /\ o0 = 9 /\ o1 = 10) :
    An 156 [.ptr 0 0, Ai v] (rdS l a b) (.ret (Ai (if isR l a b s0 = true then o0 else if isR l a b s1 = true then o1 else 0))) (rdS l a b) := by
  have h0 := Ab5 (s := s0) (a := a) (b := b) hk
  have h1 := Ab5 (s := s1) (a := a) (b := b) hk
  cases e : isR l a b s0 with
  | true =>
    rw [e] at h0
    rw [if_pos rfl]
    rcases hv with ⟨rfl, rfl, rfl, rfl, rfl⟩ | ⟨rfl, rfl, rfl, rfl, rfl⟩
    all_goals
      refine Af Tryz.func156 rfl rfl (Nat.le_of_ble_eq_true rfl) rfl (Nat.le_refl _) ?_
      repeat' (first | refine rl0 ?_ | refine rs0 (fun h => ?_) (fun h => ?_) | fail)
      refine Bt (ι := Nat) (ok := fun k => k = 0) (L := biL _) (Sx := fun _ => biS l a b) (μ := fun _ => 0) 0 rfl (by repeat (first | exact Ag | refine Ac rfl ?_)) rfl ?_
      rintro k rfl
      repeat' (first | refine rl0 ?_ | refine rs0 (fun h => ?_) (fun h => ?_) | fail)
      refine wb1 0 h0 ?_
      repeat' (first | refine rl0 ?_ | refine rs0 (fun h => ?_) (fun h => ?_) | fail)
      rfl
  | false =>
    rw [e] at h0
    rw [if_neg (by simp)]
    cases e1 : isR l a b s1 with
    | true =>
      rw [e1] at h1
      rw [if_pos rfl]
      rcases hv with ⟨rfl, rfl, rfl, rfl, rfl⟩ | ⟨rfl, rfl, rfl, rfl, rfl⟩
      all_goals
        refine Af Tryz.func156 rfl rfl (Nat.le_of_ble_eq_true rfl) rfl (Nat.le_refl _) ?_
        repeat' (first | refine rl0 ?_ | refine rs0 (fun h => ?_) (fun h => ?_) | fail)
        refine Bt (ι := Nat) (ok := fun k => k <= 1) (L := biL _) (Sx := fun _ => biS l a b) (μ := fun k => 2 - k) 0 (by omega) (by repeat (first | exact Ag | refine Ac rfl ?_)) rfl ?_
        intro k hk2
        have hkc : k = 0 \/ k = 1 := by omega
        rcases hkc with rfl | rfl
        . repeat' (first | refine rl0 ?_ | refine rs0 (fun h => ?_) (fun h => ?_) | fail)
          refine wb1 0 h0 ?_
          repeat' (first | refine rl0 ?_ | refine rs0 (fun h => ?_) (fun h => ?_) | fail)
          exact ⟨1, by omega, by omega, (by repeat (first | exact Ag | refine Ac rfl ?_)), rfl⟩
        . repeat' (first | refine rl0 ?_ | refine rs0 (fun h => ?_) (fun h => ?_) | fail)
          refine wb1 0 h1 ?_
          repeat' (first | refine rl0 ?_ | refine rs0 (fun h => ?_) (fun h => ?_) | fail)
          rfl
    | false =>
      rw [e1] at h1
      rw [if_neg (by simp)]
      rcases hv with ⟨rfl, rfl, rfl, rfl, rfl⟩ | ⟨rfl, rfl, rfl, rfl, rfl⟩
      all_goals
        refine Af Tryz.func156 rfl rfl (Nat.le_of_ble_eq_true rfl) rfl (Nat.le_refl _) ?_
        repeat' (first | refine rl0 ?_ | refine rs0 (fun h => ?_) (fun h => ?_) | fail)
        refine Bt (ι := Nat) (ok := fun k => k <= 2) (L := biL _) (Sx := fun _ => biS l a b) (μ := fun k => 2 - k) 0 (by omega) (by repeat (first | exact Ag | refine Ac rfl ?_)) rfl ?_
        intro k hk2
        have hkc : k = 0 \/ k = 1 \/ k = 2 := by omega
        rcases hkc with rfl | rfl | rfl
        . repeat' (first | refine rl0 ?_ | refine rs0 (fun h => ?_) (fun h => ?_) | fail)
          refine wb1 0 h0 ?_
          repeat' (first | refine rl0 ?_ | refine rs0 (fun h => ?_) (fun h => ?_) | fail)
          exact ⟨1, by omega, by omega, (by repeat (first | exact Ag | refine Ac rfl ?_)), rfl⟩
        . repeat' (first | refine rl0 ?_ | refine rs0 (fun h => ?_) (fun h => ?_) | fail)
          refine wb1 0 h1 ?_
          repeat' (first | refine rl0 ?_ | refine rs0 (fun h => ?_) (fun h => ?_) | fail)
          exact ⟨2, by omega, by omega, (by repeat (first | exact Ag | refine Ac rfl ?_)), rfl⟩
        . repeat' (first | refine rl0 ?_ | refine rs0 (fun h => ?_) (fun h => ?_) | fail)
          rfl
theorem Ad3 {l : List TkZ} {a : Nat} {b : Bool} (hk : D5 l) {m : Nat} (hm : m = 1 \/ m = 2 \/ m = 5 \/ m = 6) : An 156 [.ptr 0 0, Ai (lvR m)] (rdS l a b) (.ret (Ai (if b = true then 0 else (Bd l a m).getD 0))) (rdS l a b) := by
  rcases hm with rfl | rfl | rfl | rfl
  . have h := Yd (a := a) (b := b) hk (.inl ⟨rfl, rfl, rfl⟩)
    have e : (if isR l a b ⟨#[111, 114]⟩ = true then (18 : Int) else 0) = if b = true then 0 else (Bd l a 1).getD 0 := by
      unfold isR Bd Jk
      cases b <;> simp [List.find?] <;> (cases Ba l a ⟨#[111, 114]⟩ <;> rfl)
    rw [e] at h; exact h
  . have h := Yd (a := a) (b := b) hk (.inr ⟨rfl, rfl, rfl⟩)
    have e : (if isR l a b ⟨#[97, 110, 100]⟩ = true then (17 : Int) else 0) = if b = true then 0 else (Bd l a 2).getD 0 := by
      unfold isR Bd Jk
      cases b <;> simp [List.find?] <;> (cases Ba l a ⟨#[97, 110, 100]⟩ <;> rfl)
    rw [e] at h; exact h
  . have h := Ye (a := a) (b := b) hk (.inl ⟨rfl, rfl, rfl, rfl, rfl⟩)
    have e : (if isR l a b ⟨#[43]⟩ = true then (7 : Int) else if isR l a b ⟨#[45]⟩ = true then 8 else 0) = if b = true then 0 else (Bd l a 5).getD 0 := by
      unfold isR Bd Jk
      cases b <;> simp [List.find?] <;> (cases Ba l a ⟨#[43]⟩ <;> cases Ba l a ⟨#[45]⟩ <;> rfl)
    rw [e] at h; exact h
  . have h := Ye (a := a) (b := b) hk (.inr ⟨rfl, rfl, rfl, rfl, rfl⟩)
    have e : (if isR l a b ⟨#[42]⟩ = true then (9 : Int) else if isR l a b ⟨#[47]⟩ = true then 10 else 0) = if b = true then 0 else (Bd l a 6).getD 0 := by
      unfold isR Bd Jk
      cases b <;> simp [List.find?] <;> (cases Ba l a ⟨#[42]⟩ <;> cases Ba l a ⟨#[47]⟩ <;> rfl)
    rw [e] at h; exact h
end Go.Proofs.YtiledamgmppcmaaGreatDoor
namespace Go.Proofs.YtiledamgmppcmaaGreatDoor
open Go.RowKit
@[reducible] def opL (m : Nat) (i : Nat) : List (Nat × PV) := [(0, .ptr 0 0), (1, Ai m), (8, .agg Adr), (9, Ai i)]
theorem Ky {l : List TkZ} {a m : Nat} (hm : lvM m) (hl : l.length <= 9223372036854775806) (h : Bd l a m = none) : An 153 [.ptr 0 0, Ai m] (pxS l a) (.ret (.tup [Ai 0, A7 false])) (pxS l a) := by
  rw [E8 l a hm, Option.map_eq_none_iff] at h
  have hno : ∀ i, i < 20 -> Hb l a m i = false := fun i hi => by
    have := List.find?_eq_none.1 h i (List.mem_range.2 hi); simpa using this
  refine Af Tryz.func153 rfl rfl (Nat.le_of_ble_eq_true rfl) rfl (Nat.le_refl _) ?_
  repeat' (first | refine rl0 ?_ | refine rs0 (fun h => ?_) (fun h => ?_) | fail)
  refine D3 Et rfl rfl rfl rfl rfl (by repeat (first | exact Ad | refine Aa (Ab _) ?_)) ?_
  repeat' (first | refine rl0 ?_ | refine rs0 (fun h => ?_) (fun h => ?_) | fail)
  refine F9 (ι := Nat) (ok := fun i => i <= 20) (L := opL m) (Sx := fun _ => pxS l a) (μ := fun i => 20 - i) 0 (Nat.zero_le _) (by repeat (first | exact Ag | refine Ac rfl ?_)) rfl ?_
  intro i hi
  repeat' (first | refine rl0 ?_ | refine rs0 (fun h => ?_) (fun h => ?_) | fail)
  . have hlt : i < 20 := by simp at h; omega
    have hn := hno i hlt
    unfold Hb at hn
    refine wiv (opP (opN i)) rfl rfl rfl rfl rfl ⟨by omega, by show (i : Int) < 20; omega⟩ (Ig hlt) ?_
    repeat' (first | refine rl0 ?_ | refine rs0 (fun h => ?_) (fun h => ?_) | fail)
    . have hb : Ba l a (opN i).2.2.2.2 = false := by simp_all
      refine wcb (id := 0) (Aj hl hb) rfl rfl rfl rfl rfl rfl rfl rfl (by repeat (first | exact Ad | refine Aa (Ab _) ?_)) rfl ?_
      repeat' (first | refine rl0 ?_ | refine rs0 (fun h => ?_) (fun h => ?_) | fail)
      exact ⟨i + 1, by omega, by omega, (by repeat (first | exact Ag | refine Ac rfl ?_)), rfl, rfl, rfl, Nat.le_refl _, Nat.le_refl _⟩
    . exact ⟨i + 1, by omega, by omega, (by repeat (first | exact Ag | refine Ac rfl ?_)), rfl, rfl, rfl, Nat.le_refl _, Nat.le_refl _⟩
    . exact ⟨i + 1, by omega, by omega, (by repeat (first | exact Ag | refine Ac rfl ?_)), rfl, rfl, rfl, Nat.le_refl _, Nat.le_refl _⟩
  . rfl
theorem Db {l : List TkZ} {a m : Nat} {op : Int} (hm : lvM m) (hl : l.length <= 9223372036854775806) (h : Bd l a m = some op) : An 153 [.ptr 0 0, Ai m] (pxS l a) (.ret (.tup [Ai op, A7 true])) (pxS l (a + 1)) := by
  rw [E8 l a hm] at h
  obtain ⟨k, hk, rfl⟩ := Option.map_eq_some_iff.1 h
  rw [List.find?_range_eq_some] at hk
  obtain ⟨hk1, hk2, hk3⟩ := hk
  have hk2 : k < 20 := by simpa using hk2
  have hno : ∀ i, i < k -> Hb l a m i = false := fun i hi => by simpa using hk3 i hi
  refine Af Tryz.func153 rfl rfl (Nat.le_of_ble_eq_true rfl) rfl (Nat.le_refl _) ?_
  repeat' (first | refine rl0 ?_ | refine rs0 (fun h => ?_) (fun h => ?_) | fail)
  refine D3 Et rfl rfl rfl rfl rfl (by repeat (first | exact Ad | refine Aa (Ab _) ?_)) ?_
  repeat' (first | refine rl0 ?_ | refine rs0 (fun h => ?_) (fun h => ?_) | fail)
  refine F9 (ι := Nat) (ok := fun i => i <= k) (L := opL m) (Sx := fun _ => pxS l a) (μ := fun i => k - i) 0 (Nat.zero_le _) (by repeat (first | exact Ag | refine Ac rfl ?_)) rfl ?_
  intro i hi
  repeat' (first | refine rl0 ?_ | refine rs0 (fun h => ?_) (fun h => ?_) | fail)
  . have hlt : i < 20 := by simp at h; omega
    refine wiv (opP (opN i)) rfl rfl rfl rfl rfl ⟨by omega, by show (i : Int) < 20; omega⟩ (Ig hlt) ?_
    by_cases hik : i < k
    . have hn := hno i hik
      unfold Hb at hn
      repeat' (first | refine rl0 ?_ | refine rs0 (fun h => ?_) (fun h => ?_) | fail)
      . have hb : Ba l a (opN i).2.2.2.2 = false := by simp_all
        refine wcb (id := 0) (Aj hl hb) rfl rfl rfl rfl rfl rfl rfl rfl (by repeat (first | exact Ad | refine Aa (Ab _) ?_)) rfl ?_
        repeat' (first | refine rl0 ?_ | refine rs0 (fun h => ?_) (fun h => ?_) | fail)
        exact ⟨i + 1, by omega, by omega, (by repeat (first | exact Ag | refine Ac rfl ?_)), rfl, rfl, rfl, Nat.le_refl _, Nat.le_refl _⟩
      . exact ⟨i + 1, by omega, by omega, (by repeat (first | exact Ag | refine Ac rfl ?_)), rfl, rfl, rfl, Nat.le_refl _, Nat.le_refl _⟩
      . exact ⟨i + 1, by omega, by omega, (by repeat (first | exact Ag | refine Ac rfl ?_)), rfl, rfl, rfl, Nat.le_refl _, Nat.le_refl _⟩
    . obtain rfl : i = k := by omega
      unfold Hb at hk1
      simp only [Bool.and_eq_true] at hk1
      obtain ⟨e1, e2, hb⟩ := hk1
      repeat' (first | refine rl0 ?_ | refine rs0 (fun h => ?_) (fun h => ?_) | fail)
      . refine wcb (id := 0) (As hl hb) rfl rfl rfl rfl rfl rfl rfl rfl (by repeat (first | exact Ad | refine Aa (Ab _) ?_)) rfl ?_
        repeat' (first | refine rl0 ?_ | refine rs0 (fun h => ?_) (fun h => ?_) | fail)
        rfl
      . exfalso; simp_all
      . exfalso; simp_all
  . exfalso; simp at h; omega
end Go.Proofs.YtiledamgmppcmaaGreatDoor
namespace Go.Proofs.YtiledamgmppcmaaGreatDoor
open Go.RowKit
theorem Bu {p : PRes} {f : Ex -> Nat -> PRes} (h : p.bad = true) : p.go f = .no p.at' := if_pos h
theorem Cu {p : PRes} {f : Ex -> Nat -> PRes} (h : p.bad = false) : p.go f = f p.x p.at' := if_neg (by rw [h]; simp)
theorem E3 {l : List TkZ} {a : Nat} {s : ByteArray} {f : Nat -> PRes} (h : Ba l a s = false) : Ct l a s f = .no a := if_neg (by rw [h]; simp)
theorem E4 {l : List TkZ} {a : Nat} {s : ByteArray} {f : Nat -> PRes} (h : Ba l a s = true) : Ct l a s f = f (a + 1) := if_pos h
def Gs (f : Nat) (args : List PV) (l : List TkZ) (a : Nat) (r : PRes) : Prop := An f args (pxS l a) (bif r.bad then .panic Fv else .ret (exP r.x)) (pxS l r.at')
theorem Gs.ok {f : Nat} {args : List PV} {l : List TkZ} {a : Nat} {r : PRes} (h : Gs f args l a r) (hb : r.bad = false) : An f args (pxS l a) (.ret (exP r.x)) (pxS l r.at') := by
  unfold Gs at h; rw [hb] at h; exact h
theorem Gs.no {f : Nat} {args : List PV} {l : List TkZ} {a : Nat} {r : PRes} (h : Gs f args l a r) (hb : r.bad = true) : An f args (pxS l a) (.panic Fv) (pxS l r.at') := by
  unfold Gs at h; rw [hb] at h; exact h
theorem Qe {f : Nat} {args : List PV} {l : List TkZ} {a : Nat} {r : PRes} (h0 : r.bad = false -> An f args (pxS l a) (.ret (exP r.x)) (pxS l r.at')) (h1 : r.bad = true -> An f args (pxS l a) (.panic Fv) (pxS l r.at')) : Gs f args l a r := by
  unfold Gs
  cases hb : r.bad with
  | false => exact h0 hb
  | true => exact h1 hb
@[reducible] def exR (x : Ex) : List DV := [.v (.int .i64 x.op), .v (.int .i64 x.n), .v (.string x.name), .sl 4 (Eb x.args)]
theorem J0 (x : Ex) : exD x = exR x := by cases x; rfl
theorem Ox (op : Int) (x : Ex) : An 114 [Ai op, .d (.sl 4 [exR x])] ⟨[], []⟩ (.ret (exP (nd op [x]))) ⟨[], []⟩ := by
  have h := D0 op [x]
  simp only [Eb, J0] at h; exact h
theorem Lj (op : Int) (x y : Ex) : An 114 [Ai op, .d (.sl 4 [exR x, exR y])] ⟨[], []⟩ (.ret (exP (nd op [x, y]))) ⟨[], []⟩ := by
  have h := D0 op [x, y]
  simp only [Eb, J0] at h; exact h
theorem V0 (op : Int) (x y z : Ex) : An 114 [Ai op, .d (.sl 4 [exR x, exR y, exR z])] ⟨[], []⟩ (.ret (exP (nd op [x, y, z]))) ⟨[], []⟩ := by
  have h := D0 op [x, y, z]
  simp only [Eb, J0] at h; exact h
def fnM (m : Nat) : Nat := if m = 0 then 71 else if m = 3 then 188 else if m = 7 then 189 else 112
def Aia (m : Nat) : List PV := if m = 0 \/ m = 3 \/ m = 7 then [.ptr 0 0] else [.ptr 0 0, Ai m]
def Q6 (l : List TkZ) (n : Nat) : Prop := ∀ m a, m <= 7 -> m ≠ 4 -> a <= l.length -> 8 * (l.length - a) + A5 m <= n -> Gs (fnM m) (Aia m) l a (pE l n m a)
section
variable {l : List TkZ} {n : Nat} (hl : l.length <= 9223372036854775806) (ih : Q6 l n)
include hl ih
theorem Ql {a : Nat} (ha : a <= l.length) (hn : 8 * (l.length - a) + 8 <= n + 1) : Gs 71 [.ptr 0 0] l a (pE l (n + 1) 0 a) := by
  rw [pE]
  cases h : Ba l a kIf with
  | false =>
    rw [if_neg (by simp)]
    have hc : Gs 112 [.ptr 0 0, Ai 1] l a (pE l n 1 a) := ih 1 a (by omega) (by omega) ha (by simp [A5]; omega)
    refine Qe (fun hb => ?_) fun hb => ?_
    . refine Af Tryz.func71 rfl rfl (Nat.le_of_ble_eq_true rfl) rfl (Nat.le_refl _) ?_
      repeat' (first | refine rl0 ?_ | refine rs0 (fun h => ?_) (fun h => ?_) | fail)
      refine wb1 0 (Aj hl h) ?_
      repeat' (first | refine rl0 ?_ | refine rs0 (fun h => ?_) (fun h => ?_) | fail)
      refine wb1 0 (hc.ok hb) ?_
      repeat' (first | refine rl0 ?_ | refine rs0 (fun h => ?_) (fun h => ?_) | fail)
      rfl
    . refine A1 Tryz.func71 rfl rfl (Nat.le_of_ble_eq_true rfl) ?_
      repeat' (first | refine rl0 ?_ | refine rs0 (fun h => ?_) (fun h => ?_) | fail)
      refine wb1 0 (Aj hl h) ?_
      repeat' (first | refine rl0 ?_ | refine rs0 (fun h => ?_) (fun h => ?_) | fail)
      refine Jy 0 (hc.no hb) ?_
      exact ⟨rfl, rfl, rfl⟩
  | true =>
    rw [if_pos rfl]
    have h0 := Bs h
    have g1 : Gs 71 [.ptr 0 0] l (a + 1) (pE l n 0 (a + 1)) := ih 0 (a + 1) (by omega) (by omega) h0 (by simp [A5]; omega)
    have p1 := Gc l n 0 (a + 1)
    have p2 := Dg l n 0 (a + 1) h0
    generalize pE l n 0 (a + 1) = p at g1 p1 p2 |-
    cases hb : p.bad with
    | true =>
      rw [Bu hb]
      show An _ _ _ (.panic Fv) (pxS l p.at')
      refine A1 Tryz.func71 rfl rfl (Nat.le_of_ble_eq_true rfl) ?_
      repeat' (first | refine rl0 ?_ | refine rs0 (fun h => ?_) (fun h => ?_) | fail)
      refine wb1 0 (As hl h) ?_
      repeat' (first | refine rl0 ?_ | refine rs0 (fun h => ?_) (fun h => ?_) | fail)
      refine Jy 0 (g1.no hb) ?_
      exact ⟨rfl, rfl, rfl⟩
    | false =>
    rw [Cu hb]
    have g1 := g1.ok hb
    cases ht : Ba l p.at' Kq with
    | false =>
      rw [E3 ht]
      show An _ _ _ (.panic Fv) (pxS l p.at')
      refine A1 Tryz.func71 rfl rfl (Nat.le_of_ble_eq_true rfl) ?_
      repeat' (first | refine rl0 ?_ | refine rs0 (fun h => ?_) (fun h => ?_) | fail)
      refine wb1 0 (As hl h) ?_
      repeat' (first | refine rl0 ?_ | refine rs0 (fun h => ?_) (fun h => ?_) | fail)
      refine wb1 0 g1 ?_
      repeat' (first | refine rl0 ?_ | refine rs0 (fun h => ?_) (fun h => ?_) | fail)
      refine Jy 0 (Fg hl ht) ?_
      exact ⟨rfl, rfl, rfl⟩
    | true =>
    rw [E4 ht]
    have h1 := Bs ht
    have g2 : Gs 71 [.ptr 0 0] l (p.at' + 1) (pE l n 0 (p.at' + 1)) := ih 0 (p.at' + 1) (by omega) (by omega) h1 (by simp [A5]; omega)
    have p3 := Gc l n 0 (p.at' + 1)
    have p4 := Dg l n 0 (p.at' + 1) h1
    generalize pE l n 0 (p.at' + 1) = q at g2 p3 p4 |-
    cases hc : q.bad with
    | true =>
      rw [Bu hc]
      show An _ _ _ (.panic Fv) (pxS l q.at')
      refine A1 Tryz.func71 rfl rfl (Nat.le_of_ble_eq_true rfl) ?_
      repeat' (first | refine rl0 ?_ | refine rs0 (fun h => ?_) (fun h => ?_) | fail)
      refine wb1 0 (As hl h) ?_
      repeat' (first | refine rl0 ?_ | refine rs0 (fun h => ?_) (fun h => ?_) | fail)
      refine wb1 0 g1 ?_
      repeat' (first | refine rl0 ?_ | refine rs0 (fun h => ?_) (fun h => ?_) | fail)
      refine wb1 0 (C1 hl ht) ?_
      repeat' (first | refine rl0 ?_ | refine rs0 (fun h => ?_) (fun h => ?_) | fail)
      refine Jy 0 (g2.no hc) ?_
      exact ⟨rfl, rfl, rfl⟩
    | false =>
    rw [Cu hc]
    have g2 := g2.ok hc
    cases he : Ba l q.at' Kp with
    | false =>
      rw [E3 he]
      show An _ _ _ (.panic Fv) (pxS l q.at')
      refine A1 Tryz.func71 rfl rfl (Nat.le_of_ble_eq_true rfl) ?_
      repeat' (first | refine rl0 ?_ | refine rs0 (fun h => ?_) (fun h => ?_) | fail)
      refine wb1 0 (As hl h) ?_
      repeat' (first | refine rl0 ?_ | refine rs0 (fun h => ?_) (fun h => ?_) | fail)
      refine wb1 0 g1 ?_
      repeat' (first | refine rl0 ?_ | refine rs0 (fun h => ?_) (fun h => ?_) | fail)
      refine wb1 0 (C1 hl ht) ?_
      repeat' (first | refine rl0 ?_ | refine rs0 (fun h => ?_) (fun h => ?_) | fail)
      refine wb1 0 g2 ?_
      repeat' (first | refine rl0 ?_ | refine rs0 (fun h => ?_) (fun h => ?_) | fail)
      refine Jy 0 (Fg hl he) ?_
      exact ⟨rfl, rfl, rfl⟩
    | true =>
    rw [E4 he]
    have h2 := Bs he
    have g3 : Gs 71 [.ptr 0 0] l (q.at' + 1) (pE l n 0 (q.at' + 1)) := ih 0 (q.at' + 1) (by omega) (by omega) h2 (by simp [A5]; omega)
    generalize pE l n 0 (q.at' + 1) = r at g3 |-
    cases hd : r.bad with
    | true =>
      rw [Bu hd]
      show An _ _ _ (.panic Fv) (pxS l r.at')
      refine A1 Tryz.func71 rfl rfl (Nat.le_of_ble_eq_true rfl) ?_
      repeat' (first | refine rl0 ?_ | refine rs0 (fun h => ?_) (fun h => ?_) | fail)
      refine wb1 0 (As hl h) ?_
      repeat' (first | refine rl0 ?_ | refine rs0 (fun h => ?_) (fun h => ?_) | fail)
      refine wb1 0 g1 ?_
      repeat' (first | refine rl0 ?_ | refine rs0 (fun h => ?_) (fun h => ?_) | fail)
      refine wb1 0 (C1 hl ht) ?_
      repeat' (first | refine rl0 ?_ | refine rs0 (fun h => ?_) (fun h => ?_) | fail)
      refine wb1 0 g2 ?_
      repeat' (first | refine rl0 ?_ | refine rs0 (fun h => ?_) (fun h => ?_) | fail)
      refine wb1 0 (C1 hl he) ?_
      repeat' (first | refine rl2 ?_ | refine rs2 (fun h => ?_) (fun h => ?_) | fail)
      refine Dx (fun k => Nat.beq k 3 || Nat.beq k 6) [2, 3] [] rfl (by kernel_rfl) ?_
      repeat' (first | refine rl6 ?_ | refine rs6 (fun h => ?_) (fun h => ?_) | fail)
      refine Ado 0 (g3.no hd) ?_
      exact ⟨rfl, rfl, rfl⟩
    | false =>
    rw [Cu hd]
    show An _ _ _ (.ret (exP (nd 19 [p.x, q.x, r.x]))) (pxS l r.at')
    refine Af Tryz.func71 rfl rfl (Nat.le_of_ble_eq_true rfl) rfl (Nat.le_refl _) ?_
    repeat' (first | refine rl0 ?_ | refine rs0 (fun h => ?_) (fun h => ?_) | fail)
    refine wb1 0 (As hl h) ?_
    repeat' (first | refine rl0 ?_ | refine rs0 (fun h => ?_) (fun h => ?_) | fail)
    refine wb1 0 g1 ?_
    repeat' (first | refine rl0 ?_ | refine rs0 (fun h => ?_) (fun h => ?_) | fail)
    refine wb1 0 (C1 hl ht) ?_
    repeat' (first | refine rl0 ?_ | refine rs0 (fun h => ?_) (fun h => ?_) | fail)
    refine wb1 0 g2 ?_
    repeat' (first | refine rl0 ?_ | refine rs0 (fun h => ?_) (fun h => ?_) | fail)
    refine wb1 0 (C1 hl he) ?_
    repeat' (first | refine rl2 ?_ | refine rs2 (fun h => ?_) (fun h => ?_) | fail)
    refine Dx (fun k => Nat.beq k 3 || Nat.beq k 6) [2, 3] [] rfl (by kernel_rfl) ?_
    repeat' (first | refine rl6 ?_ | refine rs6 (fun h => ?_) (fun h => ?_) | fail)
    refine wb1a 0 (g3.ok hd) ?_
    repeat' (first | refine rl6 ?_ | refine rs6 (fun h => ?_) (fun h => ?_) | fail)
    refine wp1a (V0 19 p.x q.x r.x) ?_
    repeat' (first | refine rl6 ?_ | refine rs6 (fun h => ?_) (fun h => ?_) | fail)
    repeat' (first | refine rl0 ?_ | refine rs0 (fun h => ?_) (fun h => ?_) | fail)
    rfl
end
end Go.Proofs.YtiledamgmppcmaaGreatDoor
namespace Go.Proofs.YtiledamgmppcmaaGreatDoor
open Go.RowKit
theorem Fh {l : List TkZ} {n : Nat} (ih : Q6 l n) {m a : Nat} (hm : m = 1 \/ m = 2 \/ m = 5 \/ m = 6) (ha : a <= l.length) (hn : 8 * (l.length - a) + A5 (Ao m) <= n) : Gs 152 [.ptr 0 0, Ai m] l a (pE l n (Ao m) a) := by
  have h := ih (Ao m) a (by rcases hm with rfl | rfl | rfl | rfl <;> decide) (by rcases hm with rfl | rfl | rfl | rfl <;> decide) ha hn
  rcases hm with rfl | rfl | rfl | rfl
  all_goals
    refine Qe (fun hb => ?_) fun hb => ?_
    . refine Af Tryz.func152 rfl rfl (Nat.le_of_ble_eq_true rfl) rfl (Nat.le_refl _) ?_
      repeat' (first | refine rl0 ?_ | refine rs0 (fun h => ?_) (fun h => ?_) | fail)
      refine wb1 0 (h.ok hb) ?_
      repeat' (first | refine rl0 ?_ | refine rs0 (fun h => ?_) (fun h => ?_) | fail)
      rfl
    . refine A1 Tryz.func152 rfl rfl (Nat.le_of_ble_eq_true rfl) ?_
      repeat' (first | refine rl0 ?_ | refine rs0 (fun h => ?_) (fun h => ?_) | fail)
      refine Jy 0 (h.no hb) ?_
      exact ⟨rfl, rfl, rfl⟩
theorem Mf {m : Nat} (hm : m = 1 \/ m = 2 \/ m = 5 \/ m = 6) : lvM m := by unfold lvM; omega
theorem Hd {m : Nat} (hm : m = 1 \/ m = 2 \/ m = 5 \/ m = 6) : A5 (Ao m) + 1 <= A5 m /\ A5 (Ao m) <= 6 /\ 2 <= A5 (Ao m) := by rcases hm with rfl | rfl | rfl | rfl <;> decide
@[reducible] def chS (l : List TkZ) (i : Ex × Nat × Nat) : PS := ⟨[[.d (.sl 3 (l.map tkR)), Ai i.2.1], D4, (exP i.1).parts], []⟩
@[reducible] def chL (m : Nat) (_ : Ex × Nat × Nat) : List (Nat × PV) := [(0, .ptr 0 0), (1, Ai m), (4, .ptr 1 0), (5, .ptr 2 0)]
theorem M2 {l : List TkZ} {n : Nat} (hl : l.length <= 9223372036854775806) (ih : ∀ k, k <= n -> Q6 l k) {m a : Nat} (hm : m = 1 \/ m = 2 \/ m = 5 \/ m = 6) (ha : a <= l.length) (hn : 8 * (l.length - a) + A5 m <= n + 1) : Gs 112 [.ptr 0 0, Ai m] l a (pE l (n + 1) m a) := by
  rw [Dz l n m a (by omega) (by omega) (by omega)]
  obtain ⟨r1, r2, r3⟩ := Hd hm
  have g1 := Fh (ih n (Nat.le_refl _)) hm ha (by omega)
  have p1 := Gc l n (Ao m) a
  have p2 := Dg l n (Ao m) a ha
  generalize pE l n (Ao m) a = p at g1 p1 p2 |-
  cases hb : p.bad with
  | true =>
    rw [Bu hb]
    show An _ _ _ (.panic Fv) (pxS l p.at')
    refine A1 Tryz.func112 rfl rfl (Nat.le_of_ble_eq_true rfl) ?_
    repeat' (first | refine rl0 ?_ | refine rs0 (fun h => ?_) (fun h => ?_) | fail)
    refine Jy 0 (g1.no hb) ?_
    exact ⟨rfl, rfl, rfl⟩
  | false =>
  rw [Cu hb]
  have g1 := g1.ok hb
  obtain ⟨R, hR⟩ : ∃ R, pR l n m p.x p.at' = R := ⟨_, rfl⟩
  rw [hR]
  refine Qe (fun hr => ?_) fun hr => ?_
  . refine Af Tryz.func112 rfl rfl (Nat.le_of_ble_eq_true rfl) rfl (Nat.le_refl _) ?_
    repeat' (first | refine rl0 ?_ | refine rs0 (fun h => ?_) (fun h => ?_) | fail)
    refine wb1 0 g1 ?_
    repeat' (first | refine rl0 ?_ | refine rs0 (fun h => ?_) (fun h => ?_) | fail)
    refine Bt (ι := Ex × Nat × Nat) (ok := fun i => i.2.1 <= l.length /\ 8 * (l.length - i.2.1) + 1 <= i.2.2 /\ i.2.2 <= n /\ pR l i.2.2 m i.1 i.2.1 = R) (L := chL m) (Sx := chS l) (μ := fun i => i.2.2) (p.x, p.at', n) ⟨p2, by show 8 * (l.length - p.at') + 1 <= n; omega, Nat.le_refl _, hR⟩ (by repeat (first | exact Ag | refine Ac rfl ?_)) rfl ?_
    rintro ⟨x, b, k⟩ ⟨hbl, hk, hkn, hx⟩
    simp only at hbl hk hkn hx
    obtain ⟨k, rfl⟩ : ∃ j, k = j + 1 := ⟨k - 1, by omega⟩
    rw [pR] at hx
    cases ho : Bd l b m with
    | none =>
      rw [ho] at hx
      subst hx
      repeat' (first | refine rl0 ?_ | refine rs0 (fun h => ?_) (fun h => ?_) | fail)
      refine wb1 0 (Ky (Mf hm) hl ho) ?_
      repeat' (first | refine rl0 ?_ | refine rs0 (fun h => ?_) (fun h => ?_) | fail)
      rfl
    | some op =>
      rw [ho] at hx
      simp only at hx
      have h1 := B0 ho
      have g2 := Fh (ih k (by omega)) hm (a := b + 1) h1 (by omega)
      have p3 := Gc l k (Ao m) (b + 1)
      have p4 := Dg l k (Ao m) (b + 1) h1
      generalize pE l k (Ao m) (b + 1) = y at g2 p3 p4 hx
      cases hy : y.bad with
      | true => rw [Bu hy] at hx; subst hx; cases hr
      | false =>
      rw [Cu hy] at hx
      repeat' (first | refine rl0 ?_ | refine rs0 (fun h => ?_) (fun h => ?_) | fail)
      refine wb1 0 (Db (Mf hm) hl ho) ?_
      repeat' (first | refine rl2 ?_ | refine rs2 (fun h => ?_) (fun h => ?_) | fail)
      refine b0 (fun k => Nat.beq k 4 || Nat.beq k 7) [(1, [2])] ?_
      repeat' (first | refine rl7 ?_ | refine rs7 (fun h => ?_) (fun h => ?_) | fail)
      refine Z3 0 (g2.ok hy) ?_
      repeat' (first | refine rl7 ?_ | refine rs7 (fun h => ?_) (fun h => ?_) | fail)
      refine P7 (Lj op x y.x) ?_
      repeat' (first | refine rl7 ?_ | refine rs7 (fun h => ?_) (fun h => ?_) | fail)
      repeat' (first | refine rl0 ?_ | refine rs0 (fun h => ?_) (fun h => ?_) | fail)
      exact ⟨(nd op [x, y.x], y.at', k), ⟨p4, by show 8 * (l.length - y.at') + 1 <= k; omega, by show k <= n; omega, hx⟩, Nat.lt_succ_self k, (by repeat (first | exact Ag | refine Ac rfl ?_)), rfl⟩
  . refine A1 Tryz.func112 rfl rfl (Nat.le_of_ble_eq_true rfl) ?_
    repeat' (first | refine rl0 ?_ | refine rs0 (fun h => ?_) (fun h => ?_) | fail)
    refine wb1 0 g1 ?_
    repeat' (first | refine rl0 ?_ | refine rs0 (fun h => ?_) (fun h => ?_) | fail)
    refine Bt (ι := Ex × Nat × Nat) (ok := fun i => i.2.1 <= l.length /\ 8 * (l.length - i.2.1) + 1 <= i.2.2 /\ i.2.2 <= n /\ pR l i.2.2 m i.1 i.2.1 = R) (L := chL m) (Sx := chS l) (μ := fun i => i.2.2) (p.x, p.at', n) ⟨p2, by show 8 * (l.length - p.at') + 1 <= n; omega, Nat.le_refl _, hR⟩ (by repeat (first | exact Ag | refine Ac rfl ?_)) rfl ?_
    rintro ⟨x, b, k⟩ ⟨hbl, hk, hkn, hx⟩
    simp only at hbl hk hkn hx
    obtain ⟨k, rfl⟩ : ∃ j, k = j + 1 := ⟨k - 1, by omega⟩
    rw [pR] at hx
    cases ho : Bd l b m with
    | none =>
      rw [ho] at hx
      subst hx
      cases hr
    | some op =>
      rw [ho] at hx
      simp only at hx
      have h1 := B0 ho
      have g2 := Fh (ih k (by omega)) hm (a := b + 1) h1 (by omega)
      have p3 := Gc l k (Ao m) (b + 1)
      have p4 := Dg l k (Ao m) (b + 1) h1
      generalize pE l k (Ao m) (b + 1) = y at g2 p3 p4 hx
      cases hy : y.bad with
      | true =>
        rw [Bu hy] at hx; subst hx
        repeat' (first | refine rl0 ?_ | refine rs0 (fun h => ?_) (fun h => ?_) | fail)
        refine wb1 0 (Db (Mf hm) hl ho) ?_
        repeat' (first | refine rl2 ?_ | refine rs2 (fun h => ?_) (fun h => ?_) | fail)
        refine b0 (fun k => Nat.beq k 4 || Nat.beq k 7) [(1, [2])] ?_
        repeat' (first | refine rl7 ?_ | refine rs7 (fun h => ?_) (fun h => ?_) | fail)
        refine Un 0 (g2.no hy) ?_
        exact ⟨rfl, rfl, rfl⟩
      | false =>
      rw [Cu hy] at hx
      repeat' (first | refine rl0 ?_ | refine rs0 (fun h => ?_) (fun h => ?_) | fail)
      refine wb1 0 (Db (Mf hm) hl ho) ?_
      repeat' (first | refine rl2 ?_ | refine rs2 (fun h => ?_) (fun h => ?_) | fail)
      refine b0 (fun k => Nat.beq k 4 || Nat.beq k 7) [(1, [2])] ?_
      repeat' (first | refine rl7 ?_ | refine rs7 (fun h => ?_) (fun h => ?_) | fail)
      refine Z3 0 (g2.ok hy) ?_
      repeat' (first | refine rl7 ?_ | refine rs7 (fun h => ?_) (fun h => ?_) | fail)
      refine P7 (Lj op x y.x) ?_
      repeat' (first | refine rl7 ?_ | refine rs7 (fun h => ?_) (fun h => ?_) | fail)
      repeat' (first | refine rl0 ?_ | refine rs0 (fun h => ?_) (fun h => ?_) | fail)
      exact ⟨(nd op [x, y.x], y.at', k), ⟨p4, by show 8 * (l.length - y.at') + 1 <= k; omega, by show k <= n; omega, hx⟩, Nat.lt_succ_self k, (by repeat (first | exact Ag | refine Ac rfl ?_)), rfl⟩
theorem Vj {l : List TkZ} {n : Nat} (hl : l.length <= 9223372036854775806) (ih : Q6 l n) {a : Nat} (ha : a <= l.length) (hn : 8 * (l.length - a) + 5 <= n + 1) : Gs 188 [.ptr 0 0] l a (pE l (n + 1) 3 a) := by
  rw [pE]
  cases h : Ba l a Ab6 with
  | true =>
    rw [if_pos rfl]
    have h0 := Bs h
    have g1 : Gs 188 [.ptr 0 0] l (a + 1) (pE l n 3 (a + 1)) := ih 3 (a + 1) (by omega) (by omega) h0 (by simp [A5]; omega)
    generalize pE l n 3 (a + 1) = p at g1 |-
    cases hb : p.bad with
    | true =>
      rw [Bu hb]
      show An _ _ _ (.panic Fv) (pxS l p.at')
      refine A1 Tryz.func188 rfl rfl (Nat.le_of_ble_eq_true rfl) ?_
      repeat' (first | refine rl0 ?_ | refine rs0 (fun h => ?_) (fun h => ?_) | fail)
      refine wb1 0 (As hl h) ?_
      repeat' (first | refine rl0 ?_ | refine rs0 (fun h => ?_) (fun h => ?_) | fail)
      refine Jy 0 (g1.no hb) ?_
      exact ⟨rfl, rfl, rfl⟩
    | false =>
    rw [Cu hb]
    show An _ _ _ (.ret (exP (nd 6 [p.x]))) (pxS l p.at')
    refine Af Tryz.func188 rfl rfl (Nat.le_of_ble_eq_true rfl) rfl (Nat.le_refl _) ?_
    repeat' (first | refine rl0 ?_ | refine rs0 (fun h => ?_) (fun h => ?_) | fail)
    refine wb1 0 (As hl h) ?_
    repeat' (first | refine rl0 ?_ | refine rs0 (fun h => ?_) (fun h => ?_) | fail)
    refine wb1 0 (g1.ok hb) ?_
    repeat' (first | refine rl0 ?_ | refine rs0 (fun h => ?_) (fun h => ?_) | fail)
    refine wp1 (Ox 6 p.x) ?_
    repeat' (first | refine rl0 ?_ | refine rs0 (fun h => ?_) (fun h => ?_) | fail)
    rfl
  | false =>
    rw [if_neg (by simp)]
    have g1 : Gs 112 [.ptr 0 0, Ai 5] l a (pE l n 5 a) := ih 5 a (by omega) (by omega) ha (by simp [A5]; omega)
    have p1 := Gc l n 5 a
    have p2 := Dg l n 5 a ha
    generalize pE l n 5 a = p at g1 p1 p2 |-
    cases hb : p.bad with
    | true =>
      rw [Bu hb]
      show An _ _ _ (.panic Fv) (pxS l p.at')
      refine A1 Tryz.func188 rfl rfl (Nat.le_of_ble_eq_true rfl) ?_
      repeat' (first | refine rl0 ?_ | refine rs0 (fun h => ?_) (fun h => ?_) | fail)
      refine wb1 0 (Aj hl h) ?_
      repeat' (first | refine rl0 ?_ | refine rs0 (fun h => ?_) (fun h => ?_) | fail)
      refine Jy 0 (g1.no hb) ?_
      exact ⟨rfl, rfl, rfl⟩
    | false =>
    rw [Cu hb]
    have g1 := g1.ok hb
    have h4 : lvM 4 := by unfold lvM; omega
    cases ho : Bd l p.at' 4 with
    | none =>
      show An _ _ _ (.ret (exP p.x)) (pxS l p.at')
      refine Af Tryz.func188 rfl rfl (Nat.le_of_ble_eq_true rfl) rfl (Nat.le_refl _) ?_
      repeat' (first | refine rl0 ?_ | refine rs0 (fun h => ?_) (fun h => ?_) | fail)
      refine wb1 0 (Aj hl h) ?_
      repeat' (first | refine rl0 ?_ | refine rs0 (fun h => ?_) (fun h => ?_) | fail)
      refine wb1 0 g1 ?_
      repeat' (first | refine rl0 ?_ | refine rs0 (fun h => ?_) (fun h => ?_) | fail)
      refine wb1 0 (Ky h4 hl ho) ?_
      repeat' (first | refine rl0 ?_ | refine rs0 (fun h => ?_) (fun h => ?_) | fail)
      rfl
    | some op =>
      have h1 := B0 ho
      have g2 : Gs 112 [.ptr 0 0, Ai 5] l (p.at' + 1) (pE l n 5 (p.at' + 1)) := ih 5 (p.at' + 1) (by omega) (by omega) h1 (by simp [A5]; omega)
      show Gs _ _ l a ((pE l n 5 (p.at' + 1)).go fun y c => .yes (nd op [p.x, y]) c)
      generalize pE l n 5 (p.at' + 1) = y at g2 |-
      cases hy : y.bad with
      | true =>
        rw [Bu hy]
        show An _ _ _ (.panic Fv) (pxS l y.at')
        refine A1 Tryz.func188 rfl rfl (Nat.le_of_ble_eq_true rfl) ?_
        repeat' (first | refine rl0 ?_ | refine rs0 (fun h => ?_) (fun h => ?_) | fail)
        refine wb1 0 (Aj hl h) ?_
        repeat' (first | refine rl0 ?_ | refine rs0 (fun h => ?_) (fun h => ?_) | fail)
        refine wb1 0 g1 ?_
        repeat' (first | refine rl0 ?_ | refine rs0 (fun h => ?_) (fun h => ?_) | fail)
        refine wb1 0 (Db h4 hl ho) ?_
        repeat' (first | refine rl2 ?_ | refine rs2 (fun h => ?_) (fun h => ?_) | fail)
        refine b0 (fun k => Nat.beq k 3 || Nat.beq k 6) [(1, [2])] ?_
        repeat' (first | refine rl7 ?_ | refine rs7 (fun h => ?_) (fun h => ?_) | fail)
        refine Un 0 (g2.no hy) ?_
        exact ⟨rfl, rfl, rfl⟩
      | false =>
      rw [Cu hy]
      show An _ _ _ (.ret (exP (nd op [p.x, y.x]))) (pxS l y.at')
      refine Af Tryz.func188 rfl rfl (Nat.le_of_ble_eq_true rfl) rfl (Nat.le_refl _) ?_
      repeat' (first | refine rl0 ?_ | refine rs0 (fun h => ?_) (fun h => ?_) | fail)
      refine wb1 0 (Aj hl h) ?_
      repeat' (first | refine rl0 ?_ | refine rs0 (fun h => ?_) (fun h => ?_) | fail)
      refine wb1 0 g1 ?_
      repeat' (first | refine rl0 ?_ | refine rs0 (fun h => ?_) (fun h => ?_) | fail)
      refine wb1 0 (Db h4 hl ho) ?_
      repeat' (first | refine rl2 ?_ | refine rs2 (fun h => ?_) (fun h => ?_) | fail)
      refine b0 (fun k => Nat.beq k 3 || Nat.beq k 6) [(1, [2])] ?_
      repeat' (first | refine rl7 ?_ | refine rs7 (fun h => ?_) (fun h => ?_) | fail)
      refine Z3 0 (g2.ok hy) ?_
      repeat' (first | refine rl7 ?_ | refine rs7 (fun h => ?_) (fun h => ?_) | fail)
      refine P7 (Lj op p.x y.x) ?_
      repeat' (first | refine rl7 ?_ | refine rs7 (fun h => ?_) (fun h => ?_) | fail)
      repeat' (first | refine rl0 ?_ | refine rs0 (fun h => ?_) (fun h => ?_) | fail)
      rfl
end Go.Proofs.YtiledamgmppcmaaGreatDoor
namespace Go.Proofs.YtiledamgmppcmaaGreatDoor
open Go.RowKit
def P5 (l : List TkZ) : Prop := ∀ t ∈ l, t.1 = 3 -> t.2.1.size <= 18 /\ ∃ n, Lib.atoi t.2.1.data.toList = some n
theorem Vb (op : Int) : An 114 [Ai op, .d (.v (.slice none 0 0))] ⟨[], []⟩ (.ret (exP (nd op []))) ⟨[], []⟩ := Lu (D0 op []) (Aa (Ab _) (Aa Bo Ad))
theorem K9 {l : List TkZ} {n : Nat} (hl : l.length <= 9223372036854775806) (hnum : P5 l) (ih : Q6 l n) {a : Nat} (ha : a <= l.length) (hn : 8 * (l.length - a) + 2 <= n + 1) : Gs 189 [.ptr 0 0] l a (pE l (n + 1) 7 a) := by
  rw [pE]
  cases h : Ba l a Ms with
  | true =>
    rw [if_pos rfl]
    have h0 := Bs h
    have g1 : Gs 189 [.ptr 0 0] l (a + 1) (pE l n 7 (a + 1)) := ih 7 (a + 1) (by omega) (by omega) h0 (by simp [A5]; omega)
    generalize pE l n 7 (a + 1) = p at g1 |-
    cases hb : p.bad with
    | true =>
      rw [Bu hb]
      show An _ _ _ (.panic Fv) (pxS l p.at')
      refine A1 Tryz.func189 rfl rfl (Nat.le_of_ble_eq_true rfl) ?_
      repeat' (first | refine rl0 ?_ | refine rs0 (fun h => ?_) (fun h => ?_) | fail)
      refine wb1 0 (As hl h) ?_
      repeat' (first | refine rl0 ?_ | refine rs0 (fun h => ?_) (fun h => ?_) | fail)
      refine Jy 0 (g1.no hb) ?_
      exact ⟨rfl, rfl, rfl⟩
    | false =>
    rw [Cu hb]
    show An _ _ _ (.ret (exP (nd 5 [p.x]))) (pxS l p.at')
    refine Af Tryz.func189 rfl rfl (Nat.le_of_ble_eq_true rfl) rfl (Nat.le_refl _) ?_
    repeat' (first | refine rl0 ?_ | refine rs0 (fun h => ?_) (fun h => ?_) | fail)
    refine wb1 0 (As hl h) ?_
    repeat' (first | refine rl0 ?_ | refine rs0 (fun h => ?_) (fun h => ?_) | fail)
    refine wb1 0 (g1.ok hb) ?_
    repeat' (first | refine rl0 ?_ | refine rs0 (fun h => ?_) (fun h => ?_) | fail)
    refine wp1 (Ox 5 p.x) ?_
    repeat' (first | refine rl0 ?_ | refine rs0 (fun h => ?_) (fun h => ?_) | fail)
    rfl
  | false =>
  rw [if_neg (by simp)]
  cases h2 : Ba l a Oc with
  | true =>
    rw [if_pos rfl]
    show An _ _ _ (.ret (exP (nd 3 []))) (pxS l (a + 1))
    refine Af Tryz.func189 rfl rfl (Nat.le_of_ble_eq_true rfl) rfl (Nat.le_refl _) ?_
    repeat' (first | refine rl0 ?_ | refine rs0 (fun h => ?_) (fun h => ?_) | fail)
    refine wb1 0 (Aj hl h) ?_
    repeat' (first | refine rl0 ?_ | refine rs0 (fun h => ?_) (fun h => ?_) | fail)
    refine wb1 0 (As hl h2) ?_
    repeat' (first | refine rl0 ?_ | refine rs0 (fun h => ?_) (fun h => ?_) | fail)
    refine D3 (Vb 3) rfl rfl rfl rfl rfl (by repeat (first | exact Ad | refine Aa (Ab _) ?_)) ?_
    repeat' (first | refine rl0 ?_ | refine rs0 (fun h => ?_) (fun h => ?_) | fail)
    rfl
  | false =>
  rw [if_neg (by simp)]
  cases h3 : Ba l a Jg with
  | true =>
    rw [if_pos rfl]
    show An _ _ _ (.ret (exP (nd 4 []))) (pxS l (a + 1))
    refine Af Tryz.func189 rfl rfl (Nat.le_of_ble_eq_true rfl) rfl (Nat.le_refl _) ?_
    repeat' (first | refine rl0 ?_ | refine rs0 (fun h => ?_) (fun h => ?_) | fail)
    refine wb1 0 (Aj hl h) ?_
    repeat' (first | refine rl0 ?_ | refine rs0 (fun h => ?_) (fun h => ?_) | fail)
    refine wb1 0 (Aj hl h2) ?_
    repeat' (first | refine rl0 ?_ | refine rs0 (fun h => ?_) (fun h => ?_) | fail)
    refine wb1 0 (As hl h3) ?_
    repeat' (first | refine rl0 ?_ | refine rs0 (fun h => ?_) (fun h => ?_) | fail)
    refine D3 (Vb 4) rfl rfl rfl rfl rfl (by repeat (first | exact Ad | refine Aa (Ab _) ?_)) ?_
    repeat' (first | refine rl0 ?_ | refine rs0 (fun h => ?_) (fun h => ?_) | fail)
    rfl
  | false =>
  rw [if_neg (by simp)]
  cases h4 : Ba l a Ik with
  | true =>
    rw [if_pos rfl]
    have h0 := Bs h4
    have g1 : Gs 71 [.ptr 0 0] l (a + 1) (pE l n 0 (a + 1)) := ih 0 (a + 1) (by omega) (by omega) h0 (by simp [A5]; omega)
    generalize pE l n 0 (a + 1) = p at g1 |-
    cases hb : p.bad with
    | true =>
      rw [Bu hb]
      show An _ _ _ (.panic Fv) (pxS l p.at')
      refine A1 Tryz.func189 rfl rfl (Nat.le_of_ble_eq_true rfl) ?_
      repeat' (first | refine rl0 ?_ | refine rs0 (fun h => ?_) (fun h => ?_) | fail)
      refine wb1 0 (Aj hl h) ?_
      repeat' (first | refine rl0 ?_ | refine rs0 (fun h => ?_) (fun h => ?_) | fail)
      refine wb1 0 (Aj hl h2) ?_
      repeat' (first | refine rl0 ?_ | refine rs0 (fun h => ?_) (fun h => ?_) | fail)
      refine wb1 0 (Aj hl h3) ?_
      repeat' (first | refine rl0 ?_ | refine rs0 (fun h => ?_) (fun h => ?_) | fail)
      refine wb1 0 (As hl h4) ?_
      repeat' (first | refine rl0 ?_ | refine rs0 (fun h => ?_) (fun h => ?_) | fail)
      refine Jy 0 (g1.no hb) ?_
      exact ⟨rfl, rfl, rfl⟩
    | false =>
    rw [Cu hb]
    have g1 := g1.ok hb
    cases h5 : Ba l p.at' Hl with
    | false =>
      rw [E3 h5]
      show An _ _ _ (.panic Fv) (pxS l p.at')
      refine A1 Tryz.func189 rfl rfl (Nat.le_of_ble_eq_true rfl) ?_
      repeat' (first | refine rl0 ?_ | refine rs0 (fun h => ?_) (fun h => ?_) | fail)
      refine wb1 0 (Aj hl h) ?_
      repeat' (first | refine rl0 ?_ | refine rs0 (fun h => ?_) (fun h => ?_) | fail)
      refine wb1 0 (Aj hl h2) ?_
      repeat' (first | refine rl0 ?_ | refine rs0 (fun h => ?_) (fun h => ?_) | fail)
      refine wb1 0 (Aj hl h3) ?_
      repeat' (first | refine rl0 ?_ | refine rs0 (fun h => ?_) (fun h => ?_) | fail)
      refine wb1 0 (As hl h4) ?_
      repeat' (first | refine rl0 ?_ | refine rs0 (fun h => ?_) (fun h => ?_) | fail)
      refine wb1 0 g1 ?_
      repeat' (first | refine rl0 ?_ | refine rs0 (fun h => ?_) (fun h => ?_) | fail)
      refine Jy 0 (Fg hl h5) ?_
      exact ⟨rfl, rfl, rfl⟩
    | true =>
    rw [E4 h5]
    show An _ _ _ (.ret (exP p.x)) (pxS l (p.at' + 1))
    refine Af Tryz.func189 rfl rfl (Nat.le_of_ble_eq_true rfl) rfl (Nat.le_refl _) ?_
    repeat' (first | refine rl0 ?_ | refine rs0 (fun h => ?_) (fun h => ?_) | fail)
    refine wb1 0 (Aj hl h) ?_
    repeat' (first | refine rl0 ?_ | refine rs0 (fun h => ?_) (fun h => ?_) | fail)
    refine wb1 0 (Aj hl h2) ?_
    repeat' (first | refine rl0 ?_ | refine rs0 (fun h => ?_) (fun h => ?_) | fail)
    refine wb1 0 (Aj hl h3) ?_
    repeat' (first | refine rl0 ?_ | refine rs0 (fun h => ?_) (fun h => ?_) | fail)
    refine wb1 0 (As hl h4) ?_
    repeat' (first | refine rl0 ?_ | refine rs0 (fun h => ?_) (fun h => ?_) | fail)
    refine wb1 0 g1 ?_
    repeat' (first | refine rl0 ?_ | refine rs0 (fun h => ?_) (fun h => ?_) | fail)
    refine wb1 0 (C1 hl h5) ?_
    repeat' (first | refine rl0 ?_ | refine rs0 (fun h => ?_) (fun h => ?_) | fail)
    rfl
  | false =>
  rw [if_neg (by simp)]
  unfold Jm
  cases ht : l[a]? with
  | none =>
    have h5 : l.length <= a := List.getElem?_eq_none_iff.1 ht
    show An _ _ _ (.panic Fv) (pxS l a)
    refine A1 Tryz.func189 rfl rfl (Nat.le_of_ble_eq_true rfl) ?_
    repeat' (first | refine rl0 ?_ | refine rs0 (fun h => ?_) (fun h => ?_) | fail)
    refine wb1 0 (Aj hl h) ?_
    repeat' (first | refine rl0 ?_ | refine rs0 (fun h => ?_) (fun h => ?_) | fail)
    refine wb1 0 (Aj hl h2) ?_
    repeat' (first | refine rl0 ?_ | refine rs0 (fun h => ?_) (fun h => ?_) | fail)
    refine wb1 0 (Aj hl h3) ?_
    repeat' (first | refine rl0 ?_ | refine rs0 (fun h => ?_) (fun h => ?_) | fail)
    refine wb1 0 (Aj hl h4) ?_
    repeat' (first | refine rl0 ?_ | refine rs0 (fun h => ?_) (fun h => ?_) | fail)
    . refine Gu rfl (G0 rfl rfl) ?_
      exact ⟨rfl, rfl, rfl⟩
    . exfalso; simp at h; omega
  | some t =>
    have h5 : a < l.length := (List.getElem?_eq_some_iff.1 ht).1
    show Gs _ _ l a (Gf t a)
    unfold Gf
    by_cases e1 : t.1 = 1
    . rw [if_pos e1]
      show An _ _ _ (.ret (exP (.mk 2 0 t.2.1 []))) (pxS l (a + 1))
      refine A4 (r' := .agg [Ai 2, Ai 0, By t.2.1, .d (.v (.slice none 0 0))]) ?_ (by repeat' (first | exact Ad | refine Aa ?_ ?_ | exact Bo | exact Ab _ | refine A9 ?_ | refine Bh ?_))
      refine Af Tryz.func189 rfl rfl (Nat.le_of_ble_eq_true rfl) rfl (Nat.le_refl _) ?_
      repeat' (first | refine rl0 ?_ | refine rs0 (fun h => ?_) (fun h => ?_) | fail)
      refine wb1 0 (Aj hl h) ?_
      repeat' (first | refine rl0 ?_ | refine rs0 (fun h => ?_) (fun h => ?_) | fail)
      refine wb1 0 (Aj hl h2) ?_
      repeat' (first | refine rl0 ?_ | refine rs0 (fun h => ?_) (fun h => ?_) | fail)
      refine wb1 0 (Aj hl h3) ?_
      repeat' (first | refine rl0 ?_ | refine rs0 (fun h => ?_) (fun h => ?_) | fail)
      refine wb1 0 (Aj hl h4) ?_
      repeat' (first | refine rl2 ?_ | refine rs2 (fun h => ?_) (fun h => ?_) | fail)
      refine q9 ?_
      repeat' (first | refine rl2 ?_ | refine rs2 (fun h => ?_) (fun h => ?_) | fail)
      . exfalso; simp at h; omega
      refine b0 (fun k => Nat.beq k 12 || Nat.beq k 13) [(4, [0]), (9, [0])] ?_
      repeat' (first | refine rl7 ?_ | refine rs7 (fun h => ?_) (fun h => ?_) | fail)
      refine Tk _ (B4 ht) (by omega) ?_
      repeat' (first | refine rl7 ?_ | refine rs7 (fun h => ?_) (fun h => ?_) | fail)
      . repeat' (first | refine rl0 ?_ | refine rs0 (fun h => ?_) (fun h => ?_) | fail)
        . rfl
        all_goals (exfalso; simp_all)
    . rw [if_neg e1]
      by_cases e3 : t.1 = 3
      . rw [if_pos e3]
        obtain ⟨hs, k, hk⟩ := hnum t (List.mem_of_getElem? ht) e3
        have hno : Lv t.2.1 = k := by unfold Lv; rw [hk]; rfl
        rw [hno]
        show An _ _ _ (.ret (exP (.mk 1 k ⟨#[]⟩ []))) (pxS l (a + 1))
        refine A4 (r' := .agg [Ai 1, Ai k, By ⟨#[]⟩, .d (.v (.slice none 0 0))]) ?_ (by repeat' (first | exact Ad | refine Aa ?_ ?_ | exact Bo | exact Ab _ | refine A9 ?_ | refine Bh ?_))
        refine Af Tryz.func189 rfl rfl (Nat.le_of_ble_eq_true rfl) rfl (Nat.le_refl _) ?_
        repeat' (first | refine rl0 ?_ | refine rs0 (fun h => ?_) (fun h => ?_) | fail)
        refine wb1 0 (Aj hl h) ?_
        repeat' (first | refine rl0 ?_ | refine rs0 (fun h => ?_) (fun h => ?_) | fail)
        refine wb1 0 (Aj hl h2) ?_
        repeat' (first | refine rl0 ?_ | refine rs0 (fun h => ?_) (fun h => ?_) | fail)
        refine wb1 0 (Aj hl h3) ?_
        repeat' (first | refine rl0 ?_ | refine rs0 (fun h => ?_) (fun h => ?_) | fail)
        refine wb1 0 (Aj hl h4) ?_
        repeat' (first | refine rl2 ?_ | refine rs2 (fun h => ?_) (fun h => ?_) | fail)
        refine q9 ?_
        repeat' (first | refine rl2 ?_ | refine rs2 (fun h => ?_) (fun h => ?_) | fail)
        . exfalso; simp at h; omega
        refine b0 (fun k => Nat.beq k 12 || Nat.beq k 13) [(4, [0]), (9, [0])] ?_
        repeat' (first | refine rl7 ?_ | refine rs7 (fun h => ?_) (fun h => ?_) | fail)
        refine Tk _ (B4 ht) (by omega) ?_
        repeat' (first | refine rl7 ?_ | refine rs7 (fun h => ?_) (fun h => ?_) | fail)
        . repeat' (first | refine rl0 ?_ | refine rs0 (fun h => ?_) (fun h => ?_) | fail)
          . exfalso; simp_all
          . refine wp1 (V4 t.2.1 k hs hk) ?_
            repeat' (first | refine rl0 ?_ | refine rs0 (fun h => ?_) (fun h => ?_) | fail)
            rfl
          . exfalso; simp_all
      . rw [if_neg e3]
        show An _ _ _ (.panic Fv) (pxS l a)
        refine A1 Tryz.func189 rfl rfl (Nat.le_of_ble_eq_true rfl) ?_
        repeat' (first | refine rl0 ?_ | refine rs0 (fun h => ?_) (fun h => ?_) | fail)
        refine wb1 0 (Aj hl h) ?_
        repeat' (first | refine rl0 ?_ | refine rs0 (fun h => ?_) (fun h => ?_) | fail)
        refine wb1 0 (Aj hl h2) ?_
        repeat' (first | refine rl0 ?_ | refine rs0 (fun h => ?_) (fun h => ?_) | fail)
        refine wb1 0 (Aj hl h3) ?_
        repeat' (first | refine rl0 ?_ | refine rs0 (fun h => ?_) (fun h => ?_) | fail)
        refine wb1 0 (Aj hl h4) ?_
        repeat' (first | refine rl2 ?_ | refine rs2 (fun h => ?_) (fun h => ?_) | fail)
        refine q9 ?_
        repeat' (first | refine rl2 ?_ | refine rs2 (fun h => ?_) (fun h => ?_) | fail)
        . exfalso; simp at h; omega
        refine b0 (fun k => Nat.beq k 12 || Nat.beq k 13) [(4, [0]), (9, [0])] ?_
        repeat' (first | refine rl7 ?_ | refine rs7 (fun h => ?_) (fun h => ?_) | fail)
        refine Tk _ (B4 ht) (by omega) ?_
        repeat' (first | refine rl7 ?_ | refine rs7 (fun h => ?_) (fun h => ?_) | fail)
        . repeat' (first | refine rl0 ?_ | refine rs0 (fun h => ?_) (fun h => ?_) | fail)
          . exfalso; simp_all
          . exfalso; simp_all
          . refine Gu rfl (G0 rfl rfl) ?_
            exact ⟨rfl, rfl, rfl⟩
end Go.Proofs.YtiledamgmppcmaaGreatDoor
namespace Go.Proofs.YtiledamgmppcmaaGreatDoor
open Go.RowKit
def Rs (f : Nat) (args : List PV) (l : List TkZ) (a : Nat) (r : PRes) : Prop := ∃ x : Ex, (r.bad = false -> x = r.x) /\ An f args (rdS l a false) (.ret (exP x)) (rdS l r.at' r.bad)
theorem Ld {f : Nat} {args : List PV} {l : List TkZ} {a b : Nat} (x : Ex) (h : An f args (rdS l a false) (.ret (exP x)) (rdS l b true)) : Rs f args l a (.no b) := ⟨x, fun h => (by cases h), h⟩
theorem Js {f : Nat} {args : List PV} {l : List TkZ} {a b : Nat} {x : Ex} (h : An f args (rdS l a false) (.ret (exP x)) (rdS l b false)) : Rs f args l a (.yes x b) := ⟨x, fun _ => rfl, h⟩
def fnR (m : Nat) : Nat := if m = 0 then 73 else if m = 3 then 190 else if m = 7 then 191 else 116
def argR (m : Nat) : List PV := if m = 0 \/ m = 3 \/ m = 7 then [.ptr 0 0] else [.ptr 0 0, Ai (lvR m)]
def Af8 (l : List TkZ) (n : Nat) : Prop := ∀ m a, m <= 7 -> m ≠ 4 -> a <= l.length -> 8 * (l.length - a) + A5 m <= n -> Rs (fnR m) (argR m) l a (pE l n m a)
theorem Dl {l : List TkZ} {s : ByteArray} {a : Nat} {e : Bool} (hl : l.length <= 9223372036854775806) (hk : D5 l) (h : Ba l a s = e) : An 115 [.ptr 0 0, By s] (rdS l a false) (.ret (A7 e)) (rdS l (if e = true then a + 1 else a) false) := by
  have g := Qn (s := s) (a := a) (b := false) hl hk
  have h2 : isR l a false s = e := by unfold isR; rw [h]; rfl
  rw [h2] at g; exact g
theorem Zs {l : List TkZ} {s : ByteArray} {a : Nat} (hl : l.length <= 9223372036854775806) (hk : D5 l) : An 115 [.ptr 0 0, By s] (rdS l a true) (.ret (A7 false)) (rdS l a true) := Qn (s := s) (a := a) (b := true) hl hk
theorem Ro {l : List TkZ} {s : ByteArray} {a : Nat} (hl : l.length <= 9223372036854775806) (hk : D5 l) (h : Ba l a s = true) : An 117 [.ptr 0 0, By s] (rdS l a false) (.ret (.tup [])) (rdS l (a + 1) false) := by
  have g := Qm (s := s) (a := a) (b := false) hl hk
  have h2 : isR l a false s = true := by unfold isR; rw [h]; rfl
  rw [if_pos h2] at g; exact g
theorem T0 {l : List TkZ} {s : ByteArray} {a : Nat} (hl : l.length <= 9223372036854775806) (hk : D5 l) (h : Ba l a s = false) : An 117 [.ptr 0 0, By s] (rdS l a false) (.ret (.tup [])) (rdS l a true) := by
  have g := Qm (s := s) (a := a) (b := false) hl hk
  have h2 : ¬ isR l a false s = true := by unfold isR; rw [h]; simp
  rw [if_neg h2] at g; exact g
theorem Nm {l : List TkZ} {s : ByteArray} {a : Nat} (hl : l.length <= 9223372036854775806) (hk : D5 l) : An 117 [.ptr 0 0, By s] (rdS l a true) (.ret (.tup [])) (rdS l a true) := by
  have g := Qm (s := s) (a := a) (b := true) hl hk
  exact g
theorem I3 {l : List TkZ} {a : Nat} : An 118 [.ptr 0 0] (rdS l a true) (.ret (exP .nil)) (rdS l a true) := by
  refine A4 (r' := .agg D4) ?_ (by repeat' (first | exact Ad | refine Aa ?_ ?_ | exact Bo | exact Ab _ | refine A9 ?_ | refine Bh ?_))
  refine Af Tryz.func118 rfl rfl (Nat.le_of_ble_eq_true rfl) rfl (Nat.le_refl _) ?_
  repeat' (first | refine rl0 ?_ | refine rs0 (fun h => ?_) (fun h => ?_) | fail)
  rfl
theorem Qh {l : List TkZ} {a b : Nat} {c : Bool} {x : Ex} (h : An 73 [.ptr 0 0] (rdS l a false) (.ret (exP x)) (rdS l b c)) : An 118 [.ptr 0 0] (rdS l a false) (.ret (exP x)) (rdS l b c) := by
  refine Af Tryz.func118 rfl rfl (Nat.le_of_ble_eq_true rfl) rfl (Nat.le_refl _) ?_
  repeat' (first | refine rl0 ?_ | refine rs0 (fun h => ?_) (fun h => ?_) | fail)
  refine wb1 0 h ?_
  repeat' (first | refine rl0 ?_ | refine rs0 (fun h => ?_) (fun h => ?_) | fail)
  rfl
theorem Yi (op : Int) (x : Ex) : exP (nd op [x]) = .agg [Ai op, Ai 0, By ⟨#[]⟩, .d (.sl 4 [exR x])] := by rw [<- J0]; rfl
theorem Yj (op : Int) (x y : Ex) : exP (nd op [x, y]) = .agg [Ai op, Ai 0, By ⟨#[]⟩, .d (.sl 4 [exR x, exR y])] := by rw [<- J0, <- J0]; rfl
theorem Agu (op : Int) (x y z : Ex) : exP (nd op [x, y, z]) = .agg [Ai op, Ai 0, By ⟨#[]⟩, .d (.sl 4 [exR x, exR y, exR z])] := by rw [<- J0, <- J0, <- J0]; rfl
section
variable {l : List TkZ} {n : Nat} (hl : l.length <= 9223372036854775806) (hk : D5 l) (ih : Af8 l n)
include hl hk ih
theorem Zc {a a1 a2 a3 a4 a5 : Nat} {b1 b2 b3 b4 b5 : Bool} {x y z : Ex} (h : Ba l a kIf = true) (g1 : An 73 [.ptr 0 0] (rdS l (a + 1) false) (.ret (exP x)) (rdS l a1 b1)) (m1 : An 117 [.ptr 0 0, By Kq] (rdS l a1 b1) (.ret (.tup [])) (rdS l a2 b2))
    (g2 : An 118 [.ptr 0 0] (rdS l a2 b2) (.ret (exP y)) (rdS l a3 b3)) (m2 : An 117 [.ptr 0 0, By Kp] (rdS l a3 b3) (.ret (.tup [])) (rdS l a4 b4)) (g3 : An 118 [.ptr 0 0] (rdS l a4 b4) (.ret (exP z)) (rdS l a5 b5)) :
    An 73 [.ptr 0 0] (rdS l a false) (.ret (exP (nd 19 [x, y, z]))) (rdS l a5 b5) := by
  refine Af Tryz.func73 rfl rfl (Nat.le_of_ble_eq_true rfl) rfl (Nat.le_refl _) ?_
  repeat' (first | refine rl0 ?_ | refine rs0 (fun h => ?_) (fun h => ?_) | fail)
  refine wb1 0 (Dl hl hk h) ?_
  repeat' (first | refine rl0 ?_ | refine rs0 (fun h => ?_) (fun h => ?_) | fail)
  refine wb1 0 g1 ?_
  repeat' (first | refine rl0 ?_ | refine rs0 (fun h => ?_) (fun h => ?_) | fail)
  refine wb1 0 m1 ?_
  repeat' (first | refine rl0 ?_ | refine rs0 (fun h => ?_) (fun h => ?_) | fail)
  refine wb1 0 g2 ?_
  repeat' (first | refine rl0 ?_ | refine rs0 (fun h => ?_) (fun h => ?_) | fail)
  refine wb1 0 m2 ?_
  repeat' (first | refine rl0 ?_ | refine rs0 (fun h => ?_) (fun h => ?_) | fail)
  refine wb1 0 g3 ?_
  repeat' (first | refine rl0 ?_ | refine rs0 (fun h => ?_) (fun h => ?_) | fail)
  exact (Agu 19 x y z).symm
theorem Ahj {a : Nat} (ha : a <= l.length) (hn : 8 * (l.length - a) + 8 <= n + 1) : Rs 73 [.ptr 0 0] l a (pE l (n + 1) 0 a) := by
  rw [pE]
  cases h : Ba l a kIf with
  | false =>
    rw [if_neg (by simp)]
    have hc : Rs 116 [.ptr 0 0, Ai (lvR 1)] l a (pE l n 1 a) := ih 1 a (by omega) (by omega) ha (by simp [A5]; omega)
    obtain ⟨x, hx, hd⟩ := hc
    refine ⟨x, hx, ?_⟩
    generalize pE l n 1 a = p at *
    refine Af Tryz.func73 rfl rfl (Nat.le_of_ble_eq_true rfl) rfl (Nat.le_refl _) ?_
    repeat' (first | refine rl0 ?_ | refine rs0 (fun h => ?_) (fun h => ?_) | fail)
    refine wb1 0 (Dl hl hk h) ?_
    repeat' (first | refine rl0 ?_ | refine rs0 (fun h => ?_) (fun h => ?_) | fail)
    refine wb1 0 hd ?_
    repeat' (first | refine rl0 ?_ | refine rs0 (fun h => ?_) (fun h => ?_) | fail)
    rfl
  | true =>
    rw [if_pos rfl]
    have h0 := Bs h
    have g1 : Rs 73 [.ptr 0 0] l (a + 1) (pE l n 0 (a + 1)) := ih 0 (a + 1) (by omega) (by omega) h0 (by simp [A5]; omega)
    have p1 := Gc l n 0 (a + 1)
    have p2 := Dg l n 0 (a + 1) h0
    generalize pE l n 0 (a + 1) = p at g1 p1 p2 |-
    obtain ⟨x, hx, g1⟩ := g1
    cases hb : p.bad with
    | true =>
      rw [Bu hb]
      rw [hb] at g1
      exact Ld _ (Zc hl hk ih h g1 (Nm hl hk) I3 (Nm hl hk) I3)
    | false =>
    rw [Cu hb]
    rw [hb] at g1
    obtain rfl := hx hb
    cases ht : Ba l p.at' Kq with
    | false =>
      rw [E3 ht]
      exact Ld _ (Zc hl hk ih h g1 (T0 hl hk ht) I3 (Nm hl hk) I3)
    | true =>
    rw [E4 ht]
    have h1 := Bs ht
    have g2 : Rs 73 [.ptr 0 0] l (p.at' + 1) (pE l n 0 (p.at' + 1)) := ih 0 (p.at' + 1) (by omega) (by omega) h1 (by simp [A5]; omega)
    have p3 := Gc l n 0 (p.at' + 1)
    have p4 := Dg l n 0 (p.at' + 1) h1
    generalize pE l n 0 (p.at' + 1) = q at g2 p3 p4 |-
    obtain ⟨y, hy, g2⟩ := g2
    cases hc : q.bad with
    | true =>
      rw [Bu hc]
      rw [hc] at g2
      exact Ld _ (Zc hl hk ih h g1 (Ro hl hk ht) (Qh g2) (Nm hl hk) I3)
    | false =>
    rw [Cu hc]
    rw [hc] at g2
    obtain rfl := hy hc
    cases he : Ba l q.at' Kp with
    | false =>
      rw [E3 he]
      exact Ld _ (Zc hl hk ih h g1 (Ro hl hk ht) (Qh g2) (T0 hl hk he) I3)
    | true =>
    rw [E4 he]
    have h2 := Bs he
    have g3 : Rs 73 [.ptr 0 0] l (q.at' + 1) (pE l n 0 (q.at' + 1)) := ih 0 (q.at' + 1) (by omega) (by omega) h2 (by simp [A5]; omega)
    generalize pE l n 0 (q.at' + 1) = r at g3 |-
    obtain ⟨z, hz, g3⟩ := g3
    have g := Zc hl hk ih h g1 (Ro hl hk ht) (Qh g2) (Ro hl hk he) (Qh g3)
    cases hd : r.bad with
    | true =>
      rw [Bu hd]
      rw [hd] at g
      exact Ld _ g
    | false =>
    rw [Cu hd]
    rw [hd] at g
    obtain rfl := hz hd
    exact Js g
theorem Ahl {m a : Nat} (hm : m = 1 \/ m = 2 \/ m = 5 \/ m = 6) (ha : a <= l.length) (hn : 8 * (l.length - a) + A5 (Ao m) <= n) : Rs 155 [.ptr 0 0, Ai (lvR m)] l a (pE l n (Ao m) a) := by
  have h := ih (Ao m) a (by rcases hm with rfl | rfl | rfl | rfl <;> decide) (by rcases hm with rfl | rfl | rfl | rfl <;> decide) ha hn
  obtain ⟨x, hx, hd⟩ := h
  refine ⟨x, hx, ?_⟩
  generalize pE l n (Ao m) a = p at hd |-
  rcases hm with rfl | rfl | rfl | rfl
  all_goals
    refine Af Tryz.func155 rfl rfl (Nat.le_of_ble_eq_true rfl) rfl (Nat.le_refl _) ?_
    repeat' (first | refine rl0 ?_ | refine rs0 (fun h => ?_) (fun h => ?_) | fail)
    refine wb1 0 hd ?_
    repeat' (first | refine rl0 ?_ | refine rs0 (fun h => ?_) (fun h => ?_) | fail)
    rfl
end
end Go.Proofs.YtiledamgmppcmaaGreatDoor
namespace Go.Proofs.YtiledamgmppcmaaGreatDoor
open Go.RowKit
def Agv (l : List TkZ) (m : Nat) (tr : Nat -> Nat -> Ex) : Nat -> Ex -> Nat -> Ex
  | 0, x, _ => x
  | k + 1, x, b => match Bd l b m with
    | none => x
    | some op => if (pE l k (Ao m) (b + 1)).bad = true then nd op [x, tr k (b + 1)] else Agv l m tr k (nd op [x, tr k (b + 1)]) (pE l k (Ao m) (b + 1)).at'
theorem Ym {l : List TkZ} {m n : Nat} {tr : Nat -> Nat -> Ex} (htr : ∀ k b, k <= n -> b <= l.length -> 8 * (l.length - b) + A5 (Ao m) <= k -> (pE l k (Ao m) b).bad = false -> tr k b = (pE l k (Ao m) b).x) (hm : A5 (Ao m) <= 6) :
    ∀ k x b, k <= n -> b <= l.length -> 8 * (l.length - b) + 1 <= k -> (pR l k m x b).bad = false -> Agv l m tr k x b = (pR l k m x b).x
  | 0, x, b, _, _, h, _ => by omega
  | k + 1, x, b, hn, hb, hk, h => by
    rw [pR] at h |-
    rw [Agv]
    cases ho : Bd l b m with
    | none => rfl
    | some op =>
      rw [ho] at h
      simp only at h |-
      have h1 := B0 ho
      cases hy : (pE l k (Ao m) (b + 1)).bad with
      | true => rw [Bu hy] at h; cases h
      | false =>
        rw [Cu hy] at h |-
        rw [if_neg (by simp), htr k (b + 1) (by omega) h1 (by omega) hy]
        have p3 := Gc l k (Ao m) (b + 1)
        have p4 := Dg l k (Ao m) (b + 1) h1
        exact Ym htr hm k _ _ (by omega) p4 (by omega) h
@[reducible] def rcS (l : List TkZ) (i : Ex × Nat × Nat × Bool) : PS := ⟨[[.d (.sl 3 (l.map tkR)), Ai i.2.1, A7 i.2.2.2], D4, (exP i.1).parts], []⟩
theorem An8 (l : List TkZ) (op : Int) (x y : Ex) (b k : Nat) (f : Bool) : rcS l (nd op [x, y], b, k, f) = ⟨[[.d (.sl 3 (l.map tkR)), Ai b, A7 f], D4, [Ai op, Ai 0, By ⟨#[]⟩, .d (.sl 4 [exR x, exR y])]], []⟩ := by
  show PS.mk [_, _, (exP (nd op [x, y])).parts] [] = _
  rw [Yj]; rfl
@[reducible] def rcL (v : Nat) (_ : Ex × Nat × Nat × Bool) : List (Nat × PV) := [(0, .ptr 0 0), (1, Ai v), (4, .ptr 1 0), (5, .ptr 2 0)]
theorem Ahk {l : List TkZ} {n : Nat} (hl : l.length <= 9223372036854775806) (hk : D5 l) (ih : ∀ k, k <= n -> Af8 l k) {m a : Nat} (hm : m = 1 \/ m = 2 \/ m = 5 \/ m = 6) (ha : a <= l.length) (hn : 8 * (l.length - a) + A5 m <= n + 1) : Rs 116 [.ptr 0 0, Ai (lvR m)] l a (pE l (n + 1) m a) := by
  rw [Dz l n m a (by omega) (by omega) (by omega)]
  obtain ⟨r1, r2, r3⟩ := Hd hm
  have hex : ∀ k b, ∃ x : Ex, k <= n -> b <= l.length -> 8 * (l.length - b) + A5 (Ao m) <= k -> ((pE l k (Ao m) b).bad = false -> x = (pE l k (Ao m) b).x) /\ An 155 [.ptr 0 0, Ai (lvR m)] (rdS l b false) (.ret (exP x)) (rdS l (pE l k (Ao m) b).at' (pE l k (Ao m) b).bad) := by
    intro k b
    by_cases h : k <= n /\ b <= l.length /\ 8 * (l.length - b) + A5 (Ao m) <= k
    . obtain ⟨x, h1, h2⟩ := Ahl hl hk (ih k h.1) hm h.2.1 h.2.2
      exact ⟨x, fun _ _ _ => ⟨h1, h2⟩⟩
    . exact ⟨.nil, fun h1 h2 h3 => absurd ⟨h1, h2, h3⟩ h⟩
  let tr : Nat -> Nat -> Ex := fun k b => Classical.choose (hex k b)
  have htr : ∀ k b, k <= n -> b <= l.length -> 8 * (l.length - b) + A5 (Ao m) <= k -> ((pE l k (Ao m) b).bad = false -> tr k b = (pE l k (Ao m) b).x) /\ An 155 [.ptr 0 0, Ai (lvR m)] (rdS l b false) (.ret (exP (tr k b))) (rdS l (pE l k (Ao m) b).at' (pE l k (Ao m) b).bad) := fun k b => Classical.choose_spec (hex k b)
  generalize tr = tr at htr
  obtain ⟨hx, hd⟩ := htr n a (Nat.le_refl _) ha (by omega)
  have p2 := Dg l n (Ao m) a ha
  have p1 := Gc l n (Ao m) a
  generalize tr n a = x0 at hx hd
  generalize pE l n (Ao m) a = p at hx hd p1 p2 |-
  cases hb : p.bad with
  | true =>
    rw [Bu hb]
    rw [hb] at hd
    refine Ld x0 ?_
    have hbin := Ad3 (a := p.at') (b := true) hk hm
    refine Af Tryz.func116 rfl rfl (Nat.le_of_ble_eq_true rfl) rfl (Nat.le_refl _) ?_
    repeat' (first | refine rl0 ?_ | refine rs0 (fun h => ?_) (fun h => ?_) | fail)
    refine wb1 0 hd ?_
    repeat' (first | refine rl0 ?_ | refine rs0 (fun h => ?_) (fun h => ?_) | fail)
    refine Bt (ι := Ex × Nat × Nat × Bool) (ok := fun i => i = (x0, p.at', 0, true)) (L := rcL (lvR m)) (Sx := rcS l) (μ := fun i => 0) (x0, p.at', 0, true) rfl (by repeat (first | exact Ag | refine Ac rfl ?_)) rfl ?_
    rintro i rfl
    repeat' (first | refine rl0 ?_ | refine rs0 (fun h => ?_) (fun h => ?_) | fail)
    refine wb1 0 hbin ?_
    repeat' (first | refine rl0 ?_ | refine rs0 (fun h => ?_) (fun h => ?_) | fail)
    rfl
  | false =>
  rw [Cu hb]
  rw [hb] at hd
  obtain rfl := hx hb
  obtain ⟨R, hR⟩ : ∃ R, pR l n m p.x p.at' = R := ⟨_, rfl⟩
  rw [hR]
  obtain ⟨X, hX⟩ : ∃ X, Agv l m tr n p.x p.at' = X := ⟨_, rfl⟩
  refine ⟨X, fun hr => ?_, ?_⟩
  . rw [<- hX, <- hR]
    exact Ym (fun k b h1 h2 h3 => (htr k b h1 h2 h3).1) r2 n _ _ (Nat.le_refl _) p2 (by omega) (by rw [hR]; exact hr)
  refine Af Tryz.func116 rfl rfl (Nat.le_of_ble_eq_true rfl) rfl (Nat.le_refl _) ?_
  repeat' (first | refine rl0 ?_ | refine rs0 (fun h => ?_) (fun h => ?_) | fail)
  refine wb1 0 hd ?_
  repeat' (first | refine rl0 ?_ | refine rs0 (fun h => ?_) (fun h => ?_) | fail)
  refine F9 (ι := Ex × Nat × Nat × Bool) (ok := fun i => i.2.1 <= l.length /\ i.2.2.1 <= n /\ ((i.2.2.2 = false /\ 8 * (l.length - i.2.1) + 1 <= i.2.2.1 /\ pR l i.2.2.1 m i.1 i.2.1 = R /\ Agv l m tr i.2.2.1 i.1 i.2.1 = X) \/ (i.2.2.2 = true /\ i.1 = X /\ R.bad = true /\ R.at' = i.2.1)))
    (L := rcL (lvR m)) (Sx := rcS l) (μ := fun i => i.2.2.1) (p.x, p.at', n, false) ⟨p2, Nat.le_refl _, .inl ⟨rfl, by show 8 * (l.length - p.at') + 1 <= n; omega, hR, hX⟩⟩ (by repeat (first | exact Ag | refine Ac rfl ?_)) rfl ?_
  rintro ⟨x, b, k, f⟩ ⟨hbl, hkn, hc⟩
  simp only at hbl hkn hc
  have hbin := Ad3 (a := b) (b := f) hk hm
  rcases hc with ⟨rfl, hk1, hx2, hX2⟩ | ⟨rfl, rfl, hr1, hr2⟩
  . obtain ⟨k, rfl⟩ : ∃ j, k = j + 1 := ⟨k - 1, by omega⟩
    rw [pR] at hx2
    rw [Agv] at hX2
    cases ho : Bd l b m with
    | none =>
      rw [ho] at hx2 hX2 hbin
      subst hx2
      obtain rfl : x = X := hX2
      repeat' (first | refine rl0 ?_ | refine rs0 (fun h => ?_) (fun h => ?_) | fail)
      refine wb1 0 hbin ?_
      repeat' (first | refine rl0 ?_ | refine rs0 (fun h => ?_) (fun h => ?_) | fail)
      rfl
    | some op =>
      rw [ho] at hx2 hX2 hbin
      simp only at hx2 hX2
      have h1 := B0 ho
      have hop : ¬ op = 0 := by
        rw [E8 l b (Mf hm)] at ho
        obtain ⟨j, hj, rfl⟩ := Option.map_eq_some_iff.1 ho
        intro e
        have hj0 : j = 0 := by have : ((j : Nat) : Int) = 0 := e; omega
        subst hj0
        have := List.find?_some hj
        simp [Hb, opN, Ok] at this
      obtain ⟨hy, hd2⟩ := htr k (b + 1) (by omega) h1 (by omega)
      have p3 := Gc l k (Ao m) (b + 1)
      have p4 := Dg l k (Ao m) (b + 1) h1
      generalize tr k (b + 1) = y' at hy hd2 hX2
      generalize pE l k (Ao m) (b + 1) = y at hy hd2 hX2 hx2 p3 p4
      simp only [Bool.false_eq_true, if_false, Option.getD_some] at hbin
      repeat' (first | refine rl0 ?_ | refine rs0 (fun h => ?_) (fun h => ?_) | fail)
      refine wb1 0 hbin ?_
      repeat' (first | refine rl0 ?_ | refine rs0 (fun h => ?_) (fun h => ?_) | fail)
      . exfalso; simp at h; exact hop h
      refine wb1 0 hd2 ?_
      repeat' (first | refine rl0 ?_ | refine rs0 (fun h => ?_) (fun h => ?_) | fail)
      refine ⟨(nd op [x, y'], y.at', k, y.bad), ⟨p4, by show k <= n; omega, ?_⟩, Nat.lt_succ_self k, (by repeat (first | exact Ag | refine Ac rfl ?_)), ?_, rfl, rfl, Nat.le_refl _, Nat.le_refl _⟩
      . show (y.bad = false /\ 8 * (l.length - y.at') + 1 <= k /\ pR l k m (nd op [x, y']) y.at' = R /\ Agv l m tr k (nd op [x, y']) y.at' = X) \/ (y.bad = true /\ nd op [x, y'] = X /\ R.bad = true /\ R.at' = y.at')
        cases hyb : y.bad with
        | true =>
          rw [Bu hyb] at hx2
          rw [if_pos hyb] at hX2
          subst hx2
          exact .inr ⟨rfl, hX2, rfl, rfl⟩
        | false =>
          rw [Cu hyb] at hx2
          rw [if_neg (by rw [hyb]; simp)] at hX2
          rw [hy hyb] at hX2 |-
          exact .inl ⟨rfl, by omega, hx2, hX2⟩
      . rw [An8]; rfl
  . cases R
    simp only at hr1 hr2
    subst hr1; subst hr2
    repeat' (first | refine rl0 ?_ | refine rs0 (fun h => ?_) (fun h => ?_) | fail)
    refine wb1 0 hbin ?_
    repeat' (first | refine rl0 ?_ | refine rs0 (fun h => ?_) (fun h => ?_) | fail)
    rfl
end Go.Proofs.YtiledamgmppcmaaGreatDoor
namespace Go.Proofs.YtiledamgmppcmaaGreatDoor
open Go.RowKit
def Akq (i : Nat) : ByteArray := ((Jk 4).getD i (0, ⟨#[]⟩)).2
@[reducible] def relS : List PV := [By ⟨#[61]⟩, By ⟨#[33, 61]⟩, By ⟨#[60]⟩, By ⟨#[60, 61]⟩, By ⟨#[62]⟩, By ⟨#[62, 61]⟩]
@[reducible] def relO : List PV := [Ai 11, Ai 12, Ai 13, Ai 14, Ai 15, Ai 16]
theorem Vl {i : Nat} (h : i < 6) : relS[i]? = some (By (Akq i)) := by
  have : i = 0 \/ i = 1 \/ i = 2 \/ i = 3 \/ i = 4 \/ i = 5 := by omega
  rcases this with rfl | rfl | rfl | rfl | rfl | rfl <;> rfl
theorem Acr {i : Nat} (h : i < 6) : relO[i]? = some (Ai ((11 + i : Nat) : Int)) := by
  have : i = 0 \/ i = 1 \/ i = 2 \/ i = 3 \/ i = 4 \/ i = 5 := by omega
  rcases this with rfl | rfl | rfl | rfl | rfl | rfl <;> rfl
theorem Yn (l : List TkZ) (a : Nat) : Bd l a 4 = ((List.range 6).find? fun i => Ba l a (Akq i)).map fun i => ((11 + i : Nat) : Int) := by
  have e : List.range 6 = [0, 1, 2, 3, 4, 5] := by decide
  rw [e]
  simp only [Bd, Jk, List.find?, Akq, List.getD_cons_zero, List.getD_cons_succ]
  cases Ba l a ⟨#[61]⟩ <;> cases Ba l a ⟨#[33, 61]⟩ <;> cases Ba l a ⟨#[60]⟩ <;> cases Ba l a ⟨#[60, 61]⟩ <;> cases Ba l a ⟨#[62]⟩ <;> cases Ba l a ⟨#[62, 61]⟩ <;> rfl
@[reducible] def ngS (l : List TkZ) (b : Nat) (f : Bool) (x : Ex) : PS := ⟨[[.d (.sl 3 (l.map tkR)), Ai b, A7 f], D4, (exP x).parts, relS, relO], []⟩
@[reducible] def ngL (i : Nat) : List (Nat × PV) := [(0, .ptr 0 0), (2, .ptr 1 0), (3, .ptr 2 0), (4, .ptr 3 0), (5, .ptr 4 0), (6, Ai i)]
set_option maxHeartbeats 2000000 in
theorem Aoe {l : List TkZ} {n : Nat} (hl : l.length <= 9223372036854775806) (hk : D5 l) (ih : Af8 l n) {a : Nat} (ha : a <= l.length) (hn : 8 * (l.length - a) + 5 <= n + 1) : Rs 190 [.ptr 0 0] l a (pE l (n + 1) 3 a) := by
  rw [pE]
  cases h : Ba l a Ab6 with
  | true =>
    rw [if_pos rfl]
    have h0 := Bs h
    have g1 : Rs 190 [.ptr 0 0] l (a + 1) (pE l n 3 (a + 1)) := ih 3 (a + 1) (by omega) (by omega) h0 (by simp [A5]; omega)
    obtain ⟨x, hx, hd⟩ := g1
    generalize pE l n 3 (a + 1) = p at hx hd |-
    have g : An 190 [.ptr 0 0] (rdS l a false) (.ret (exP (nd 6 [x]))) (rdS l p.at' p.bad) := by
      refine Af Tryz.func190 rfl rfl (Nat.le_of_ble_eq_true rfl) rfl (Nat.le_refl _) ?_
      repeat' (first | refine rl0 ?_ | refine rs0 (fun h => ?_) (fun h => ?_) | fail)
      refine wb1 0 (Dl hl hk h) ?_
      repeat' (first | refine rl0 ?_ | refine rs0 (fun h => ?_) (fun h => ?_) | fail)
      refine wb1 0 hd ?_
      repeat' (first | refine rl0 ?_ | refine rs0 (fun h => ?_) (fun h => ?_) | fail)
      exact (Yi 6 x).symm
    cases hb : p.bad with
    | true => rw [Bu hb]; rw [hb] at g; exact Ld _ g
    | false => rw [Cu hb]; rw [hb] at g; obtain rfl := hx hb; exact Js g
  | false =>
    rw [if_neg (by simp)]
    have g1 : Rs 116 [.ptr 0 0, Ai (lvR 5)] l a (pE l n 5 a) := ih 5 a (by omega) (by omega) ha (by simp [A5]; omega)
    have p1 := Gc l n 5 a
    have p2 := Dg l n 5 a ha
    obtain ⟨x, hx, hd⟩ := g1
    generalize pE l n 5 a = p at hx hd p1 p2 |-
    have none6 : ∀ f, p.bad = f -> (f = true \/ ∀ i, i < 6 -> Ba l p.at' (Akq i) = false) -> An 190 [.ptr 0 0] (rdS l a false) (.ret (exP x)) (rdS l p.at' f) := by
      intro f hf hno
      rw [hf] at hd
      have ht : ∀ i, i < 6 -> An 115 [.ptr 0 0, By (Akq i)] (rdS l p.at' f) (.ret (A7 false)) (rdS l p.at' f) := fun i hi => by
        rcases hno with rfl | hno
        . exact Zs hl hk
        . cases f with
          | true => exact Zs hl hk
          | false => exact Dl hl hk (hno i hi)
      refine Af Tryz.func190 rfl rfl (Nat.le_of_ble_eq_true rfl) rfl (Nat.le_refl _) ?_
      repeat' (first | refine rl0 ?_ | refine rs0 (fun h => ?_) (fun h => ?_) | fail)
      refine wb1 0 (Dl hl hk h) ?_
      repeat' (first | refine rl0 ?_ | refine rs0 (fun h => ?_) (fun h => ?_) | fail)
      refine wb1 0 hd ?_
      repeat' (first | refine rl0 ?_ | refine rs0 (fun h => ?_) (fun h => ?_) | fail)
      refine Bt (ι := Nat) (ok := fun i => i <= 6) (L := ngL) (Sx := fun _ => ngS l p.at' f x) (μ := fun i => 6 - i) 0 (Nat.zero_le _) (by exact (by repeat (first | exact Ag | refine Ac rfl ?_))) rfl ?_
      intro i hi
      repeat' (first | refine rl0 ?_ | refine rs0 (fun h => ?_) (fun h => ?_) | fail)
      . have hi6 : i < 6 := by simp at h; omega
        refine wst rfl rfl ⟨by omega, by show (i : Int) < 6; omega⟩ ?_
        refine wsld (id := 3) i rfl rfl rfl (by show PV.ptr 3 (0 + ((i : Nat) : Int).toNat * 1) = _; simp) rfl (Vl hi6) ?_
        refine wb1 0 (ht i hi6) ?_
        repeat' (first | refine rl0 ?_ | refine rs0 (fun h => ?_) (fun h => ?_) | fail)
        exact ⟨i + 1, by omega, by omega, (by repeat (first | exact Ag | refine Ac rfl ?_)), rfl⟩
      . rfl
    cases hb : p.bad with
    | true =>
      rw [Bu hb]
      exact Ld _ (none6 true hb (.inl rfl))
    | false =>
    rw [Cu hb]
    obtain rfl := hx hb
    cases ho : Bd l p.at' 4 with
    | none =>
      rw [Yn, Option.map_eq_none_iff, List.find?_eq_none] at ho
      exact Js (none6 false hb (.inr fun i hi => by simpa using ho i (List.mem_range.2 hi)))
    | some op =>
      have h1 := B0 ho
      rw [Yn] at ho
      obtain ⟨j, hj, rfl⟩ := Option.map_eq_some_iff.1 ho
      rw [List.find?_range_eq_some] at hj
      obtain ⟨hj1, hj2, hj3⟩ := hj
      have hj2 : j < 6 := by simpa using hj2
      have hno : ∀ i, i < j -> Ba l p.at' (Akq i) = false := fun i hi => by simpa using hj3 i hi
      have g2 : Rs 116 [.ptr 0 0, Ai (lvR 5)] l (p.at' + 1) (pE l n 5 (p.at' + 1)) := ih 5 (p.at' + 1) (by omega) (by omega) h1 (by simp [A5]; omega)
      show Rs _ _ l a ((pE l n 5 (p.at' + 1)).go fun y c => .yes (nd ((11 + j : Nat) : Int) [p.x, y]) c)
      obtain ⟨y, hy, hd2⟩ := g2
      generalize pE l n 5 (p.at' + 1) = q at hy hd2 |-
      rw [hb] at hd
      have g : An 190 [.ptr 0 0] (rdS l a false) (.ret (exP (nd ((11 + j : Nat) : Int) [p.x, y]))) (rdS l q.at' q.bad) := by
        refine Af Tryz.func190 rfl rfl (Nat.le_of_ble_eq_true rfl) rfl (Nat.le_refl _) ?_
        repeat' (first | refine rl0 ?_ | refine rs0 (fun h => ?_) (fun h => ?_) | fail)
        refine wb1 0 (Dl hl hk h) ?_
        repeat' (first | refine rl0 ?_ | refine rs0 (fun h => ?_) (fun h => ?_) | fail)
        refine wb1 0 hd ?_
        repeat' (first | refine rl0 ?_ | refine rs0 (fun h => ?_) (fun h => ?_) | fail)
        refine Bt (ι := Nat) (ok := fun i => i <= j) (L := ngL) (Sx := fun _ => ngS l p.at' false p.x) (μ := fun i => j - i) 0 (Nat.zero_le _) (by exact (by repeat (first | exact Ag | refine Ac rfl ?_))) rfl ?_
        intro i hi
        repeat' (first | refine rl0 ?_ | refine rs0 (fun h => ?_) (fun h => ?_) | fail)
        . have hi6 : i < 6 := by simp at h; omega
          refine wst rfl rfl ⟨by omega, by show (i : Int) < 6; omega⟩ ?_
          refine wsld (id := 3) i rfl rfl rfl (by show PV.ptr 3 (0 + ((i : Nat) : Int).toNat * 1) = _; simp) rfl (Vl hi6) ?_
          by_cases hij : i < j
          . refine wb1 0 (Dl hl hk (hno i hij)) ?_
            repeat' (first | refine rl0 ?_ | refine rs0 (fun h => ?_) (fun h => ?_) | fail)
            exact ⟨i + 1, by omega, by omega, (by repeat (first | exact Ag | refine Ac rfl ?_)), rfl⟩
          . obtain rfl : i = j := by omega
            refine wb1 0 (Dl hl hk hj1) ?_
            repeat' (first | refine rl2 ?_ | refine rs2 (fun h => ?_) (fun h => ?_) | fail)
            refine b0 (fun k => Nat.beq k 5 || Nat.beq k 8) [(2, [4]), (3, [2])] ?_
            repeat' (first | refine rl7 ?_ | refine rs7 (fun h => ?_) (fun h => ?_) | fail)
            refine b3 ?_ (hC := by exact ⟨by omega, by show (i : Int) < 6; omega⟩)
            refine b5 (p := Ai ((11 + i : Nat) : Int)) ?_ (hpp := by show relO[0 + ((i : Nat) : Int).toNat * 1]? = _; rw [show 0 + ((i : Nat) : Int).toNat * 1 = i by simp]; exact Acr hi6)
            repeat' (first | refine rl7 ?_ | refine rs7 (fun h => ?_) (fun h => ?_) | fail)
            refine Z3 0 hd2 ?_
            repeat' (first | refine rl7 ?_ | refine rs7 (fun h => ?_) (fun h => ?_) | fail)
            repeat' (first | refine rl0 ?_ | refine rs0 (fun h => ?_) (fun h => ?_) | fail)
            exact (Yj ((11 + i : Nat) : Int) p.x y).symm
        . exfalso; simp at h; omega
      cases hqb : q.bad with
      | true => rw [Bu hqb]; rw [hqb] at g; exact Ld _ g
      | false => rw [Cu hqb]; rw [hqb] at g; obtain rfl := hy hqb; exact Js g
end Go.Proofs.YtiledamgmppcmaaGreatDoor
namespace Go.Proofs.YtiledamgmppcmaaGreatDoor
open Go.RowKit
theorem Vi {l : List TkZ} (hl : l.length <= 9223372036854775806) (hnum : P5 l) : ∀ n, Q6 l n := by
  intro n
  induction n using Nat.strongRecOn with
  | ind n ih =>
    intro m a hm h4 ha hn
    cases n with
    | zero =>
      exfalso
      have : 2 <= A5 m := by unfold A5; split <;> omega
      omega
    | succ n =>
      have ihn := ih n (Nat.lt_succ_self n)
      have hc : m = 0 \/ m = 3 \/ m = 7 \/ m = 1 \/ m = 2 \/ m = 5 \/ m = 6 := by omega
      rcases hc with rfl | rfl | rfl | hm
      . exact Ql hl ihn ha hn
      . exact Vj hl ihn ha hn
      . exact K9 hl hnum ihn ha hn
      . have h := M2 hl (fun k hk => ih k (by omega)) hm ha hn
        have e1 : fnM m = 112 := by rcases hm with rfl | rfl | rfl | rfl <;> rfl
        have e2 : Aia m = [.ptr 0 0, Ai m] := by rcases hm with rfl | rfl | rfl | rfl <;> rfl
        rw [e1, e2]; exact h
theorem K7 {rows : List (List DV)} {a : Int} (h0 : a < 0 \/ (rows.length : Int) < a) : An 29 [.d (.sl 3 rows), Ai a] ⟨[], []⟩ (.ret (.tup [exP .nil, Ai 0, Ai 2])) ⟨[], []⟩ := by
  refine A4 (r' := .tup [.agg D4, Ai 0, Ai 2]) ?_ (by repeat' (first | exact Ad | refine Aa ?_ ?_ | exact Bo | exact Ab _ | refine A9 ?_ | refine Bh ?_))
  refine ⟨enters_of Tryz.func29 rfl rfl, Dm H5 Tryz.func29 rfl (Nat.le_of_ble_eq_true rfl) rfl (Nat.le_refl _) ?_⟩
  refine Av (Bv ?_)
  repeat' (first | refine rl0 ?_ | refine rs0 (fun h => ?_) (fun h => ?_) | fail)
  refine Av (Bv ?_)
  repeat' (first | refine rl0 ?_ | refine rs0 (fun h => ?_) (fun h => ?_) | fail)
  . exact ⟨none, .inl ⟨rfl, .inr rfl⟩, _, rfl, rfl, rfl, .inr rfl, _, B6 rfl, rfl, rfl⟩
  . exact ⟨none, .inl ⟨rfl, .inr rfl⟩, _, rfl, rfl, rfl, .inr rfl, _, B6 rfl, rfl, rfl⟩
  . exfalso; simp_all; omega
theorem K8 {rows : List (List DV)} {a i : Int} (h0 : 0 <= a /\ a <= rows.length) (hi : 0 <= i) (hidx : An 67 [.d (.sl 3 rows), .fn 68 []] ⟨[], []⟩ (.ret (Ai i)) ⟨[], []⟩) : An 29 [.d (.sl 3 rows), Ai a] ⟨[], []⟩ (.ret (.tup [exP .nil, Ai i, Ai 350])) ⟨[], []⟩ := by
  refine A4 (r' := .tup [.agg D4, Ai i, Ai 350]) ?_ (by repeat' (first | exact Ad | refine Aa ?_ ?_ | exact Bo | exact Ab _ | refine A9 ?_ | refine Bh ?_))
  refine ⟨enters_of Tryz.func29 rfl rfl, Dm H5 Tryz.func29 rfl (Nat.le_of_ble_eq_true rfl) rfl (Nat.le_refl _) ?_⟩
  refine Av (Bv ?_)
  repeat' (first | refine rl0 ?_ | refine rs0 (fun h => ?_) (fun h => ?_) | fail)
  refine Av (Bv ?_)
  repeat' (first | refine rl0 ?_ | refine rs0 (fun h => ?_) (fun h => ?_) | fail)
  . exfalso; simp at h; omega
  . exfalso; simp at h; omega
  refine Av (Bv ?_)
  repeat' (first | refine rl0 ?_ | refine rs0 (fun h => ?_) (fun h => ?_) | fail)
  refine D3 hidx rfl rfl rfl rfl rfl (by repeat (first | exact Ad | refine Aa (Ab _) ?_)) ?_
  repeat' (first | refine rl0 ?_ | refine rs0 (fun h => ?_) (fun h => ?_) | fail)
  . exact ⟨none, .inl ⟨rfl, .inr rfl⟩, _, rfl, rfl, rfl, .inr rfl, _, B6 rfl, rfl, rfl⟩
  . exfalso; simp at h; omega
theorem I5 {rows : List (List DV)} {a n : Int} {x : Ex} (h0 : 0 <= a /\ a <= rows.length) (hidx : An 67 [.d (.sl 3 rows), .fn 68 []] ⟨[], []⟩ (.ret (Ai (-1))) ⟨[], []⟩)
    (hx : An 71 [.ptr 0 0] (paK rows a) (.ret (exP x)) (paK rows n)) (hs : x.small) (hc : Bg x ≠ 0) : An 29 [.d (.sl 3 rows), Ai a] ⟨[], []⟩ (.ret (.tup [exP .nil, Ai a, Ai 3])) ⟨[], []⟩ := by
  have hchk := F7 x hs
  refine A4 (r' := .tup [.agg D4, Ai a, Ai 3]) ?_ (by repeat' (first | exact Ad | refine Aa ?_ ?_ | exact Bo | exact Ab _ | refine A9 ?_ | refine Bh ?_))
  refine ⟨enters_of Tryz.func29 rfl rfl, Dm H5 Tryz.func29 rfl (Nat.le_of_ble_eq_true rfl) rfl (Nat.le_refl _) ?_⟩
  refine Av (Bv ?_)
  repeat' (first | refine rl0 ?_ | refine rs0 (fun h => ?_) (fun h => ?_) | fail)
  refine Av (Bv ?_)
  repeat' (first | refine rl0 ?_ | refine rs0 (fun h => ?_) (fun h => ?_) | fail)
  . exfalso; simp at h; omega
  . exfalso; simp at h; omega
  refine Av (Bv ?_)
  repeat' (first | refine rl0 ?_ | refine rs0 (fun h => ?_) (fun h => ?_) | fail)
  refine D3 hidx rfl rfl rfl rfl rfl (by repeat (first | exact Ad | refine Aa (Ab _) ?_)) ?_
  repeat' (first | refine rl0 ?_ | refine rs0 (fun h => ?_) (fun h => ?_) | fail)
  refine Av (Bv ?_)
  repeat' (first | refine rl0 ?_ | refine rs0 (fun h => ?_) (fun h => ?_) | fail)
  refine Av (L7 rfl rfl rfl rfl rfl rfl (by decide) ?_)
  refine Av (Bv ?_)
  repeat' (first | refine rl0 ?_ | refine rs0 (fun h => ?_) (fun h => ?_) | fail)
  refine wcb (id := 3) hx rfl rfl rfl rfl rfl rfl rfl rfl (by repeat (first | exact Ad | refine Aa (Ab _) ?_)) rfl ?_
  repeat' (first | refine rl0 ?_ | refine rs0 (fun h => ?_) (fun h => ?_) | fail)
  refine Av (Bv ?_)
  repeat' (first | refine rl0 ?_ | refine rs0 (fun h => ?_) (fun h => ?_) | fail)
  refine D3 hchk rfl rfl rfl rfl rfl (by repeat (first | exact Ad | refine Aa (Ab _) ?_)) ?_
  repeat' (first | refine rl0 ?_ | refine rs0 (fun h => ?_) (fun h => ?_) | fail)
  . exact ⟨none, .inl ⟨rfl, .inr rfl⟩, ⟨_, Tryz.func70, rfl, rfl⟩, _, Pq _ _ _ _ (.v (.bool true)) _ _ _ _, _, rfl, rfl, rfl, .inr rfl, _, B6 rfl, rfl, rfl⟩
  . exfalso; simp at h; omega
def De (l : List TkZ) (a : Int) : Ex × Int × Int :=
  if a < 0 \/ (l.length : Int) < a then (.nil, 0, 2)
  else if Fr l ≠ -1 then (.nil, Fr l, 350)
  else let p := D1 l a.toNat
    if p.bad = true then (.nil, p.at', 350) else if Bg p.x = 0 then (p.x, p.at', 0) else (.nil, a, 3)
end Go.Proofs.YtiledamgmppcmaaGreatDoor
namespace Go.Proofs.YtiledamgmppcmaaGreatDoor
open Go.RowKit
theorem Cb {op : Int} {l : List Ex} (h : Ih l) : (nd op l).small := ⟨Nat.zero_le _, h⟩
theorem Bk {p : PRes} {f : Ex -> Nat -> PRes} (h : p.x.small) (hf : ∀ x b, x.small -> (f x b).x.small) : (p.go f).x.small := by
  unfold PRes.go
  split
  . exact ⟨Nat.zero_le _, trivial⟩
  . exact hf _ _ h
theorem Di {l : List TkZ} {a : Nat} {s : ByteArray} {f : Nat -> PRes} (hf : ∀ b, (f b).x.small) : (Ct l a s f).x.small := by
  unfold Ct
  split
  . exact hf _
  . exact ⟨Nat.zero_le _, trivial⟩
theorem Da : Ex.nil.small := ⟨Nat.zero_le _, trivial⟩
theorem G1 {l : List TkZ} (hs : ∀ t ∈ l, t.2.1.size <= 9223372036854775807) : ∀ n, (∀ m a, (pE l n m a).x.small) /\ ∀ m x a, x.small -> (pR l n m x a).x.small
  | 0 => ⟨fun m a => by rw [pE]; exact Da, fun m x a _ => by rw [pR]; exact Da⟩
  | n + 1 => by
    obtain ⟨h1, h2⟩ := G1 hs n
    refine ⟨fun m a => ?_, fun m x a hx => ?_⟩
    . by_cases e0 : m = 0
      . subst e0
        rw [pE]
        split
        . exact Bk (h1 _ _) fun x b hx => Di fun b => Bk (h1 _ _) fun y c hy => Di fun c => Bk (h1 _ _) fun z d hz => Cb ⟨hx, hy, hz, trivial⟩
        . exact h1 _ _
      by_cases e3 : m = 3
      . subst e3
        rw [pE]
        split
        . exact Bk (h1 _ _) fun x b hx => Cb ⟨hx, trivial⟩
        . refine Bk (h1 _ _) fun x b hx => ?_
          split
          . exact Bk (h1 _ _) fun y c hy => Cb ⟨hx, hy, trivial⟩
          . exact hx
      by_cases e7 : m = 7
      . subst e7
        rw [pE]
        split
        . exact Bk (h1 _ _) fun x b hx => Cb ⟨hx, trivial⟩
        split
        . exact Cb trivial
        split
        . exact Cb trivial
        split
        . exact Bk (h1 _ _) fun x b hx => Di fun c => hx
        unfold Jm
        split
        . exact Da
        . rename_i t ht
          have := hs t (List.mem_of_getElem? ht)
          unfold Gf
          split
          . exact ⟨this, trivial⟩
          . split
            . exact ⟨Nat.zero_le _, trivial⟩
            . exact Da
      rw [Dz l n m a e0 e3 e7]
      exact Bk (h1 _ _) fun x b hx => h2 _ _ _ hx
    . rw [pR]
      split
      . exact hx
      . exact Bk (h1 _ _) fun y c hy => h2 _ _ _ (Cb ⟨hx, hy, trivial⟩)
theorem Eg {b : UInt8} (h : Bi b = true) : 48 <= b.toNat /\ b.toNat <= 57 := by
  simp only [Bi, Bool.and_eq_true, decide_eq_true_eq] at h
  omega
def O3 (acc : Nat) (l : List UInt8) : Nat := l.foldl (fun n b => n * 10 + (b.toNat - 48)) acc
theorem Kh : ∀ (l : List UInt8) (acc : Nat), l.all Bi = true -> Lib.decFrom acc l = some (O3 acc l)
  | [], acc, _ => rfl
  | b :: r, acc, h => by
    simp only [List.all_cons, Bool.and_eq_true] at h
    obtain ⟨h1, h2⟩ := Eg h.1
    rw [Lib.decFrom, Lib.digitVal, if_pos ⟨h1, h2⟩]
    simp only []
    rw [Kh r _ h.2]; rfl
theorem D7 {l : List UInt8} (h : Bl l = true) : l.length <= 4 /\ l.all Bi = true /\ Lib.atoi l = some ((O3 0 l : Nat) : Int) := by
  simp only [Bl, Bool.and_eq_true, Bool.or_eq_true] at h
  obtain ⟨h1, h2⟩ := h
  have hl : l.length <= 4 /\ l ≠ [] := by
    rcases h2 with h2 | h2
    . have : l = [48] := by simpa using h2
      subst this; simp
    . simp only [decide_eq_true_eq, Bool.not_eq_true'] at h2
      refine ⟨h2.2, fun e => ?_⟩
      subst e; simp at h2
  refine ⟨hl.1, h1, ?_⟩
  cases l with
  | nil => exact absurd rfl hl.2
  | cons b r =>
    have h3 := h1
    simp only [List.all_cons, Bool.and_eq_true] at h3
    obtain ⟨h4, h5⟩ := Eg h3.1
    have e1 : (b == 45) = false := by rw [beq_eq_false_iff_ne]; rintro rfl; simp at h4
    have e2 : (b == 43) = false := by rw [beq_eq_false_iff_ne]; rintro rfl; simp at h4
    simp only [Lib.atoi, e1, e2, Bool.false_eq_true, if_false]
    unfold Lib.decNat
    rw [Kh _ _ h1]; rfl
theorem Ff {l : List TkZ} (h : Fr l = -1) : ∀ t ∈ l, B5 t.1 t.2.1.data.toList t.2.2 = 0 := by
  unfold Fr at h
  cases e : l.findIdx? Xg with
  | some i => rw [e] at h; simp at h
  | none =>
    rw [List.findIdx?_eq_none_iff] at e
    intro t ht
    have := e t ht
    unfold Xg at this
    simpa using this
theorem Iq (l : List TkZ) : Fr l = -1 \/ 0 <= Fr l := by
  unfold Fr
  cases l.findIdx? Xg with
  | none => exact .inl rfl
  | some i => exact .inr (by simp)
theorem Vd {l : List TkZ} (h : Fr l = -1) : P5 l := fun t ht h3 => by
  have h1 := Ff h t ht
  have h2 : Bl t.2.1.data.toList = true := by
    unfold B5 at h1
    split at h1
    . cases h1
    . rename_i hn
      have : Ay t.1 t.2.1.data.toList = true := by
        cases hb : Ay t.1 t.2.1.data.toList with
        | true => rfl
        | false => exact absurd (.inr (.inr hb)) hn
      rw [Ep, if_neg (by omega), if_neg (by omega), if_pos h3] at this
      exact this
  obtain ⟨a1, a2, a3⟩ := D7 h2
  have e : t.2.1.data.toList.length = t.2.1.size := by simp
  exact ⟨by omega, _, a3⟩
theorem M1 (l : List TkZ) (a : Int) (hl : l.length <= 9223372036854775806) (hs : ∀ t ∈ l, t.2.1.size <= 9223372036854775807) : An 29 [Ll l, Ai a] ⟨[], []⟩ (.ret (.tup [exP (De l a).1, Ai (De l a).2.1, Ai (De l a).2.2])) ⟨[], []⟩ := by
  have hlen : (l.map tkR).length = l.length := by simp
  unfold De
  by_cases h0 : a < 0 \/ (l.length : Int) < a
  . rw [if_pos h0]
    exact K7 (by rw [hlen]; exact h0)
  rw [if_neg h0]
  have h0' : 0 <= a /\ a <= (l.map tkR).length := by rw [hlen]; omega
  have hi := Yr l hs
  by_cases h1 : Fr l ≠ -1
  . rw [if_pos h1]
    exact K8 h0' ((Iq l).resolve_left h1) hi
  rw [if_neg h1]
  have h1' : Fr l = -1 := by omega
  rw [h1'] at hi
  obtain ⟨k, rfl⟩ := Int.eq_ofNat_of_zero_le h0'.1
  have hk : k <= l.length := by omega
  have g : Gs 71 [.ptr 0 0] l k (D1 l k) := Vi hl (Vd h1') _ 0 k (by omega) (by omega) hk (by simp [A5])
  have hsm : (D1 l k).x.small := (G1 hs _).1 _ _
  simp only [Int.toNat_natCast]
  cases hb : (D1 l k).bad with
  | true =>
    rw [if_pos rfl]
    exact Pp h0' hi (g.no hb)
  | false =>
    rw [if_neg (by simp)]
    have g := g.ok hb
    by_cases hc : Bg (D1 l k).x = 0
    . rw [if_pos hc]
      exact S9 h0' hi g hsm hc
    . rw [if_neg hc]
      exact I5 h0' hi g hsm hc
end Go.Proofs.YtiledamgmppcmaaGreatDoor
namespace Go.Proofs.YtiledamgmppcmaaGreatDoor
open Go.RowKit
theorem Ko {l : List TkZ} {a : Nat} {s : ByteArray} {t : TkZ} (ht : l[a]? = some t) (h : t.1 = 1 \/ t.1 = 3) : Ba l a s = false := by
  rw [G9 ht]
  rcases h with h | h <;> simp [h]
theorem Pg {l : List TkZ} {a : Nat} {s s' : ByteArray} (h : Ba l a s = true) (hne : s ≠ s') : Ba l a s' = false := by
  obtain ⟨t, ht⟩ : ∃ t, l[a]? = some t := ⟨_, List.getElem?_eq_getElem (Bs h)⟩
  rw [G9 ht] at h |-
  simp only [Bool.and_eq_true, decide_eq_true_eq] at h
  rw [h.1, decide_eq_false hne]; rfl
theorem Ag4 {l : List UInt8} {s : ByteArray} (hs : s.data.toList = l) (h : Bl l = true) : Lv s = (O3 0 l : Nat) := by
  unfold Lv; rw [hs, (D7 h).2.2]; rfl
theorem Yw : ∀ (l : List UInt8) (acc : Nat), l.all Bi = true -> O3 acc l < (acc + 1) * 10 ^ l.length
  | [], acc, _ => by simp [O3]
  | b :: r, acc, h => by
    simp only [List.all_cons, Bool.and_eq_true] at h
    obtain ⟨h1, h2⟩ := Eg h.1
    have h3 := Yw r (acc * 10 + (b.toNat - 48)) h.2
    have e : O3 acc (b :: r) = O3 (acc * 10 + (b.toNat - 48)) r := rfl
    rw [e, List.length_cons, Nat.pow_succ]
    refine Nat.lt_of_lt_of_le h3 ?_
    rw [Nat.mul_comm (10 ^ r.length) 10, <- Nat.mul_assoc]
    exact Nat.mul_le_mul_right _ (by omega)
theorem Yx {l : List UInt8} {i : Nat} (h : i < l.length) : O3 0 (l.take (i + 1)) = O3 0 (l.take i) * 10 + (l[i].toNat - 48) := by
  rw [List.take_succ_eq_append_getElem h]
  unfold O3
  rw [List.foldl_append]; rfl
def NumR (l : List TkZ) : Prop := ∀ t ∈ l, t.1 = 3 -> Bl t.2.1.data.toList = true
@[reducible] def rnS (l : List TkZ) (a : Nat) (t : TkZ) : PS := ⟨[[.d (.sl 3 (l.map tkR)), Ai a, A7 false], D4, [Ai t.1, By t.2.1, Ai t.2.2]], []⟩
theorem Zd {l : List TkZ} {a : Nat} {t : TkZ} (hl : l.length <= 9223372036854775806) (ht : l[a]? = some t) (h3 : t.1 = 3) (hnum : Bl t.2.1.data.toList = true) : An 191 [.ptr 0 0] (rdS l a false) (.ret (exP (.mk 1 (Lv t.2.1) ⟨#[]⟩ []))) (rdS l (a + 1) false) := by
  have hlt : a < l.length := (List.getElem?_eq_some_iff.1 ht).1
  obtain ⟨n1, n2, n3⟩ := D7 hnum
  have hsz : t.2.1.data.toList.length = t.2.1.size := by simp
  rw [Ag4 rfl hnum]
  refine A4 (r' := .agg [Ai 1, Ai (O3 0 t.2.1.data.toList : Nat), By ⟨#[]⟩, .d (.v (.slice none 0 0))]) ?_ (by repeat' (first | exact Ad | refine Aa ?_ ?_ | exact Bo | exact Ab _ | refine A9 ?_ | refine Bh ?_))
  refine Af Tryz.func191 rfl rfl (Nat.le_of_ble_eq_true rfl) rfl (Nat.le_refl _) ?_
  repeat' (first | refine rl2 ?_ | refine rs2 (fun h => ?_) (fun h => ?_) | fail)
  refine q9 ?_
  repeat' (first | refine rl2 ?_ | refine rs2 (fun h => ?_) (fun h => ?_) | fail)
  . exfalso; simp at h; omega
  refine b0 (fun k => Nat.beq k 10 || Nat.beq k 11) [(3, [0]), (7, [0])] ?_
  repeat' (first | refine rl7 ?_ | refine rs7 (fun h => ?_) (fun h => ?_) | fail)
  refine Tk _ (B4 ht) (by omega) ?_
  repeat' (first | refine rl7 ?_ | refine rs7 (fun h => ?_) (fun h => ?_) | fail)
  repeat' (first | refine rl0 ?_ | refine rs0 (fun h => ?_) (fun h => ?_) | fail)
  . refine Bt (ι := Nat) (ok := fun i => i <= t.2.1.data.toList.length) (L := fun i => [(0, .ptr 0 0), (2, .ptr 1 0), (3, .ptr 2 0), (4, Ai (O3 0 (t.2.1.data.toList.take i) : Nat)), (5, Ai i)]) (Sx := fun _ => rnS l (a + 1) t) (μ := fun i => t.2.1.data.toList.length - i) 0 (Nat.zero_le _) (by exact (by repeat (first | exact Ag | refine Ac rfl ?_))) rfl ?_
    intro i hi
    have hp10 : O3 0 (t.2.1.data.toList.take i) < 10000 := by
      have h1 := Yw (t.2.1.data.toList.take i) 0 (List.all_eq_true.2 fun x hx => List.all_eq_true.1 n2 x (List.mem_of_mem_take hx))
      have h2 : (t.2.1.data.toList.take i).length <= 4 := by rw [List.length_take]; omega
      have h3 : 10 ^ (t.2.1.data.toList.take i).length <= 10 ^ 4 := Nat.pow_le_pow_right (by decide) h2
      omega
    repeat' (first | refine rl0 ?_ | refine rs0 (fun h => ?_) (fun h => ?_) | fail)
    . have hlt2 : i < t.2.1.data.toList.length := by simp at h |-; omega
      have hnx := Yx hlt2
      obtain ⟨c, hc⟩ : ∃ c, t.2.1.data.toList[i] = c := ⟨_, rfl⟩
      have hg : t.2.1.data.toList.getD ((i : Nat) : Int).toNat 0 = c := by rw [Int.toNat_natCast, List.getD_eq_getElem?_getD, List.getElem?_eq_getElem hlt2, hc]; rfl
      obtain ⟨d1, d2⟩ := Eg (List.all_eq_true.1 n2 c (by rw [<- hc]; exact List.getElem_mem hlt2))
      rw [hc] at hnx
      refine wst rfl rfl ⟨by omega, by show (i : Int) < (t.2.1.size : Int); omega⟩ ?_
      rw [hg]
      repeat' (first | refine rl0 ?_ | refine rs0 (fun h => ?_) (fun h => ?_) | fail)
      refine wst rfl rfl ⟨by show (-9223372036854775808 : Int) <= _; omega, by show _ <= (9223372036854775807 : Int); omega⟩ ?_
      repeat' (first | refine rl0 ?_ | refine rs0 (fun h => ?_) (fun h => ?_) | fail)
      refine ⟨i + 1, by omega, by omega, ?_, rfl⟩
      rw [hnx]
      refine Ac rfl (Ac rfl (Ac rfl (Ac ?_ (Ac rfl Ag))))
      show PV.d (DV.v (Value.int IntKind.i64 (10 * _ + _))) = _
      congr 3; omega
    . have hi2 : i = t.2.1.data.toList.length := by simp at h hi |-; omega
      subst hi2
      rw [List.take_length]
  . exfalso; simp_all
  . exfalso; simp_all
end Go.Proofs.YtiledamgmppcmaaGreatDoor
namespace Go.Proofs.YtiledamgmppcmaaGreatDoor
open Go.RowKit
set_option maxHeartbeats 2000000 in
theorem Zb {l : List TkZ} {n : Nat} (hl : l.length <= 9223372036854775806) (hk : D5 l) (hnum : NumR l) (ih : Af8 l n) {a : Nat} (ha : a <= l.length) (hn : 8 * (l.length - a) + 2 <= n + 1) : Rs 191 [.ptr 0 0] l a (pE l (n + 1) 7 a) := by
  rw [pE]
  cases ht : l[a]? with
  | none =>
    have h5 : l.length <= a := List.getElem?_eq_none_iff.1 ht
    rw [if_neg (by rw [Kn h5]; simp), if_neg (by rw [Kn h5]; simp), if_neg (by rw [Kn h5]; simp), if_neg (by rw [Kn h5]; simp)]
    unfold Jm
    rw [ht]
    refine Ld .nil (A4 (r' := .agg D4) ?_ (by repeat' (first | exact Ad | refine Aa ?_ ?_ | exact Bo | exact Ab _ | refine A9 ?_ | refine Bh ?_)))
    refine Af Tryz.func191 rfl rfl (Nat.le_of_ble_eq_true rfl) rfl (Nat.le_refl _) ?_
    repeat' (first | refine rl0 ?_ | refine rs0 (fun h => ?_) (fun h => ?_) | fail)
    . rfl
    . exfalso; simp at h; omega
  | some t =>
    have hlt : a < l.length := (List.getElem?_eq_some_iff.1 ht).1
    by_cases h13 : t.1 = 1 \/ t.1 = 3
    . rw [if_neg (by rw [Ko ht h13]; simp), if_neg (by rw [Ko ht h13]; simp), if_neg (by rw [Ko ht h13]; simp), if_neg (by rw [Ko ht h13]; simp)]
      unfold Jm
      rw [ht]
      show Rs _ _ l a (Gf t a)
      unfold Gf
      by_cases e1 : t.1 = 1
      . rw [if_pos e1]
        refine Js (A4 (r' := .agg [Ai 2, Ai 0, By t.2.1, .d (.v (.slice none 0 0))]) ?_ (by repeat' (first | exact Ad | refine Aa ?_ ?_ | exact Bo | exact Ab _ | refine A9 ?_ | refine Bh ?_)))
        refine Af Tryz.func191 rfl rfl (Nat.le_of_ble_eq_true rfl) rfl (Nat.le_refl _) ?_
        repeat' (first | refine rl2 ?_ | refine rs2 (fun h => ?_) (fun h => ?_) | fail)
        refine q9 ?_
        repeat' (first | refine rl2 ?_ | refine rs2 (fun h => ?_) (fun h => ?_) | fail)
        . exfalso; simp at h; omega
        refine b0 (fun k => Nat.beq k 10 || Nat.beq k 11) [(3, [0]), (7, [0])] ?_
        repeat' (first | refine rl7 ?_ | refine rs7 (fun h => ?_) (fun h => ?_) | fail)
        refine Tk _ (B4 ht) (by omega) ?_
        repeat' (first | refine rl7 ?_ | refine rs7 (fun h => ?_) (fun h => ?_) | fail)
        repeat' (first | refine rl0 ?_ | refine rs0 (fun h => ?_) (fun h => ?_) | fail)
        . exfalso; simp_all
        . rfl
        . exfalso; simp_all
      . rw [if_neg e1]
        have e3 : t.1 = 3 := by omega
        rw [if_pos e3]
        exact Js (Zd hl ht e3 (hnum t (List.mem_of_getElem? ht) e3))
    . have n1 : ¬ t.1 = 1 := fun e => h13 (.inl e)
      have n3 : ¬ t.1 = 3 := fun e => h13 (.inr e)
      cases hm0 : Ba l a Ms with
      | true =>
        rw [if_pos rfl]
        have h2 : Ba l a Oc = false := Pg hm0 (by decide)
        have h3 : Ba l a Jg = false := Pg hm0 (by decide)
        have g1 : Rs 191 [.ptr 0 0] l (a + 1) (pE l n 7 (a + 1)) := ih 7 (a + 1) (by omega) (by omega) hlt (by simp [A5]; omega)
        obtain ⟨x, hx, hd⟩ := g1
        generalize pE l n 7 (a + 1) = p at hx hd |-
        have g : An 191 [.ptr 0 0] (rdS l a false) (.ret (exP (nd 5 [x]))) (rdS l p.at' p.bad) := by
          refine Af Tryz.func191 rfl rfl (Nat.le_of_ble_eq_true rfl) rfl (Nat.le_refl _) ?_
          repeat' (first | refine rl2 ?_ | refine rs2 (fun h => ?_) (fun h => ?_) | fail)
          refine q9 ?_
          repeat' (first | refine rl2 ?_ | refine rs2 (fun h => ?_) (fun h => ?_) | fail)
          . exfalso; simp at h; omega
          refine b0 (fun k => Nat.beq k 10 || Nat.beq k 11) [(3, [0]), (7, [0])] ?_
          repeat' (first | refine rl7 ?_ | refine rs7 (fun h => ?_) (fun h => ?_) | fail)
          refine Tk _ (B4 ht) (by omega) ?_
          repeat' (first | refine rl7 ?_ | refine rs7 (fun h => ?_) (fun h => ?_) | fail)
          repeat' (first | refine rl0 ?_ | refine rs0 (fun h => ?_) (fun h => ?_) | fail)
          . exfalso; simp_all
          . exfalso; simp_all
          refine wb1 0 (Dl hl hk h2) ?_
          repeat' (first | refine rl0 ?_ | refine rs0 (fun h => ?_) (fun h => ?_) | fail)
          refine wb1 0 (Dl hl hk h3) ?_
          repeat' (first | refine rl0 ?_ | refine rs0 (fun h => ?_) (fun h => ?_) | fail)
          refine wb1 0 (Dl hl hk hm0) ?_
          repeat' (first | refine rl0 ?_ | refine rs0 (fun h => ?_) (fun h => ?_) | fail)
          refine wb1 0 hd ?_
          repeat' (first | refine rl0 ?_ | refine rs0 (fun h => ?_) (fun h => ?_) | fail)
          exact (Yi 5 x).symm
        cases hb : p.bad with
        | true => rw [Bu hb]; rw [hb] at g; exact Ld _ g
        | false => rw [Cu hb]; rw [hb] at g; obtain rfl := hx hb; exact Js g
      | false =>
      rw [if_neg (by simp)]
      cases h2 : Ba l a Oc with
      | true =>
        rw [if_pos rfl]
        refine Js (A4 (r' := .agg [Ai 3, Ai 0, By ⟨#[]⟩, .d (.v (.slice none 0 0))]) ?_ (by repeat' (first | exact Ad | refine Aa ?_ ?_ | exact Bo | exact Ab _ | refine A9 ?_ | refine Bh ?_)))
        refine Af Tryz.func191 rfl rfl (Nat.le_of_ble_eq_true rfl) rfl (Nat.le_refl _) ?_
        repeat' (first | refine rl2 ?_ | refine rs2 (fun h => ?_) (fun h => ?_) | fail)
        refine q9 ?_
        repeat' (first | refine rl2 ?_ | refine rs2 (fun h => ?_) (fun h => ?_) | fail)
        . exfalso; simp at h; omega
        refine b0 (fun k => Nat.beq k 10 || Nat.beq k 11) [(3, [0]), (7, [0])] ?_
        repeat' (first | refine rl7 ?_ | refine rs7 (fun h => ?_) (fun h => ?_) | fail)
        refine Tk _ (B4 ht) (by omega) ?_
        repeat' (first | refine rl7 ?_ | refine rs7 (fun h => ?_) (fun h => ?_) | fail)
        repeat' (first | refine rl0 ?_ | refine rs0 (fun h => ?_) (fun h => ?_) | fail)
        . exfalso; simp_all
        . exfalso; simp_all
        refine wb1 0 (Dl hl hk h2) ?_
        repeat' (first | refine rl0 ?_ | refine rs0 (fun h => ?_) (fun h => ?_) | fail)
        rfl
      | false =>
      rw [if_neg (by simp)]
      cases h3 : Ba l a Jg with
      | true =>
        rw [if_pos rfl]
        refine Js (A4 (r' := .agg [Ai 4, Ai 0, By ⟨#[]⟩, .d (.v (.slice none 0 0))]) ?_ (by repeat' (first | exact Ad | refine Aa ?_ ?_ | exact Bo | exact Ab _ | refine A9 ?_ | refine Bh ?_)))
        refine Af Tryz.func191 rfl rfl (Nat.le_of_ble_eq_true rfl) rfl (Nat.le_refl _) ?_
        repeat' (first | refine rl2 ?_ | refine rs2 (fun h => ?_) (fun h => ?_) | fail)
        refine q9 ?_
        repeat' (first | refine rl2 ?_ | refine rs2 (fun h => ?_) (fun h => ?_) | fail)
        . exfalso; simp at h; omega
        refine b0 (fun k => Nat.beq k 10 || Nat.beq k 11) [(3, [0]), (7, [0])] ?_
        repeat' (first | refine rl7 ?_ | refine rs7 (fun h => ?_) (fun h => ?_) | fail)
        refine Tk _ (B4 ht) (by omega) ?_
        repeat' (first | refine rl7 ?_ | refine rs7 (fun h => ?_) (fun h => ?_) | fail)
        repeat' (first | refine rl0 ?_ | refine rs0 (fun h => ?_) (fun h => ?_) | fail)
        . exfalso; simp_all
        . exfalso; simp_all
        refine wb1 0 (Dl hl hk h2) ?_
        repeat' (first | refine rl0 ?_ | refine rs0 (fun h => ?_) (fun h => ?_) | fail)
        refine wb1 0 (Dl hl hk h3) ?_
        repeat' (first | refine rl0 ?_ | refine rs0 (fun h => ?_) (fun h => ?_) | fail)
        rfl
      | false =>
      rw [if_neg (by simp)]
      cases h4 : Ba l a Ik with
      | true =>
        rw [if_pos rfl]
        have g1 : Rs 73 [.ptr 0 0] l (a + 1) (pE l n 0 (a + 1)) := ih 0 (a + 1) (by omega) (by omega) hlt (by simp [A5]; omega)
        obtain ⟨x, hx, hd⟩ := g1
        generalize pE l n 0 (a + 1) = p at hx hd |-
        have g : ∀ b f, An 117 [.ptr 0 0, By Hl] (rdS l p.at' p.bad) (.ret (.tup [])) (rdS l b f) -> An 191 [.ptr 0 0] (rdS l a false) (.ret (exP x)) (rdS l b f) := by
          intro b f hm
          refine Af Tryz.func191 rfl rfl (Nat.le_of_ble_eq_true rfl) rfl (Nat.le_refl _) ?_
          repeat' (first | refine rl2 ?_ | refine rs2 (fun h => ?_) (fun h => ?_) | fail)
          refine q9 ?_
          repeat' (first | refine rl2 ?_ | refine rs2 (fun h => ?_) (fun h => ?_) | fail)
          . exfalso; simp at h; omega
          refine b0 (fun k => Nat.beq k 10 || Nat.beq k 11) [(3, [0]), (7, [0])] ?_
          repeat' (first | refine rl7 ?_ | refine rs7 (fun h => ?_) (fun h => ?_) | fail)
          refine Tk _ (B4 ht) (by omega) ?_
          repeat' (first | refine rl7 ?_ | refine rs7 (fun h => ?_) (fun h => ?_) | fail)
          repeat' (first | refine rl0 ?_ | refine rs0 (fun h => ?_) (fun h => ?_) | fail)
          . exfalso; simp_all
          . exfalso; simp_all
          refine wb1 0 (Dl hl hk h2) ?_
          repeat' (first | refine rl0 ?_ | refine rs0 (fun h => ?_) (fun h => ?_) | fail)
          refine wb1 0 (Dl hl hk h3) ?_
          repeat' (first | refine rl0 ?_ | refine rs0 (fun h => ?_) (fun h => ?_) | fail)
          refine wb1 0 (Dl hl hk hm0) ?_
          repeat' (first | refine rl0 ?_ | refine rs0 (fun h => ?_) (fun h => ?_) | fail)
          refine wb1 0 (Dl hl hk h4) ?_
          repeat' (first | refine rl0 ?_ | refine rs0 (fun h => ?_) (fun h => ?_) | fail)
          refine wb1 0 hd ?_
          repeat' (first | refine rl0 ?_ | refine rs0 (fun h => ?_) (fun h => ?_) | fail)
          refine wb1 0 hm ?_
          repeat' (first | refine rl0 ?_ | refine rs0 (fun h => ?_) (fun h => ?_) | fail)
          rfl
        cases hb : p.bad with
        | true =>
          rw [Bu hb]; rw [hb] at g
          exact Ld _ (g _ _ (Nm hl hk))
        | false =>
          rw [Cu hb]; rw [hb] at g
          obtain rfl := hx hb
          cases h5 : Ba l p.at' Hl with
          | true => rw [E4 h5]; exact Js (g _ _ (Ro hl hk h5))
          | false => rw [E3 h5]; exact Ld _ (g _ _ (T0 hl hk h5))
      | false =>
      rw [if_neg (by simp)]
      unfold Jm
      rw [ht]
      show Rs _ _ l a (Gf t a)
      unfold Gf
      rw [if_neg n1, if_neg n3]
      refine Ld .nil (A4 (r' := .agg D4) ?_ (by repeat' (first | exact Ad | refine Aa ?_ ?_ | exact Bo | exact Ab _ | refine A9 ?_ | refine Bh ?_)))
      refine Af Tryz.func191 rfl rfl (Nat.le_of_ble_eq_true rfl) rfl (Nat.le_refl _) ?_
      repeat' (first | refine rl2 ?_ | refine rs2 (fun h => ?_) (fun h => ?_) | fail)
      refine q9 ?_
      repeat' (first | refine rl2 ?_ | refine rs2 (fun h => ?_) (fun h => ?_) | fail)
      . exfalso; simp at h; omega
      refine b0 (fun k => Nat.beq k 10 || Nat.beq k 11) [(3, [0]), (7, [0])] ?_
      repeat' (first | refine rl7 ?_ | refine rs7 (fun h => ?_) (fun h => ?_) | fail)
      refine Tk _ (B4 ht) (by omega) ?_
      repeat' (first | refine rl7 ?_ | refine rs7 (fun h => ?_) (fun h => ?_) | fail)
      repeat' (first | refine rl0 ?_ | refine rs0 (fun h => ?_) (fun h => ?_) | fail)
      . exfalso; simp_all
      . exfalso; simp_all
      refine wb1 0 (Dl hl hk h2) ?_
      repeat' (first | refine rl0 ?_ | refine rs0 (fun h => ?_) (fun h => ?_) | fail)
      refine wb1 0 (Dl hl hk h3) ?_
      repeat' (first | refine rl0 ?_ | refine rs0 (fun h => ?_) (fun h => ?_) | fail)
      refine wb1 0 (Dl hl hk hm0) ?_
      repeat' (first | refine rl0 ?_ | refine rs0 (fun h => ?_) (fun h => ?_) | fail)
      refine wb1 0 (Dl hl hk h4) ?_
      repeat' (first | refine rl0 ?_ | refine rs0 (fun h => ?_) (fun h => ?_) | fail)
      rfl
end Go.Proofs.YtiledamgmppcmaaGreatDoor
namespace Go.Proofs.YtiledamgmppcmaaGreatDoor
open Go.RowKit
theorem Aod {l : List TkZ} (hl : l.length <= 9223372036854775806) (hk : D5 l) (hnum : NumR l) : ∀ n, Af8 l n := by
  intro n
  induction n using Nat.strongRecOn with
  | ind n ih =>
    intro m a hm h4 ha hn
    cases n with
    | zero =>
      exfalso
      have : 2 <= A5 m := by unfold A5; split <;> omega
      omega
    | succ n =>
      have ihn := ih n (Nat.lt_succ_self n)
      have hc : m = 0 \/ m = 3 \/ m = 7 \/ m = 1 \/ m = 2 \/ m = 5 \/ m = 6 := by omega
      rcases hc with rfl | rfl | rfl | hm
      . exact Ahj hl hk ihn ha hn
      . exact Aoe hl hk ihn ha hn
      . exact Zb hl hk hnum ihn ha hn
      . have h := Ahk hl hk (fun k hk => ih k (by omega)) hm ha hn
        have e1 : fnR m = 116 := by rcases hm with rfl | rfl | rfl | rfl <;> rfl
        have e2 : argR m = [.ptr 0 0, Ai (lvR m)] := by rcases hm with rfl | rfl | rfl | rfl <;> rfl
        rw [e1, e2]; exact h
theorem Vn {k : Int} {s : List UInt8} {p : Int} (h : B5 k s p = 0) : Ay k s = true := by
  unfold B5 at h
  split at h
  . cases h
  . rename_i hn
    cases hb : Ay k s with
    | true => rfl
    | false => exact absurd (.inr (.inr hb)) hn
theorem Agy {l : List TkZ} (h : Fr l = -1) : D5 l := fun t ht => by
  have h1 := Vn (Ff h t ht)
  rw [Ep] at h1
  by_cases e1 : t.1 = 1
  . exact .inl e1
  by_cases e2 : t.1 = 2
  . exact .inr (.inl e2)
  by_cases e3 : t.1 = 3
  . exact .inr (.inr (.inl e3))
  by_cases e4 : t.1 = 4
  . exact .inr (.inr (.inr e4))
  rw [if_neg e1, if_neg e2, if_neg e3, if_neg e4] at h1; cases h1
theorem Ag5 {l : List TkZ} (h : Fr l = -1) : NumR l := fun t ht h3 => by
  have h1 := Vn (Ff h t ht)
  rw [Ep, if_neg (by omega), if_neg (by omega), if_pos h3] at h1
  exact h1
theorem I7 (k : Int) (s : ByteArray) (p : Int) (hs : s.size <= 9223372036854775807) : An 72 [tkP k s p] ⟨[], []⟩ (.ret (Ai (B5 k s.data.toList p))) ⟨[], []⟩ := by
  refine J4 Tryz.func72 rfl rfl rfl fun K w vs _ hA => ?_
  simp only [Bm, Rep, Ef] at hA
  obtain ⟨u, us, rfl, ⟨cs, rfl, u0, us0, rfl, r0, u1, us1, rfl, r1, u2, us2, rfl, r2, rfl⟩, rfl⟩ := hA
  rw [r0.1, r1.1, r2.1]
  exact We k s p w hs
@[reducible] def rpL (l : List TkZ) (a : Int) (i : Nat) : List (Nat × PV) := [(0, Ll l), (1, Ai a), (4, .ptr 0 0), (7, Ai i)]
theorem Wg (l : List TkZ) (a : Int) (h0 : a < 0 \/ (l.length : Int) < a) : An 30 [Ll l, Ai a] ⟨[], []⟩ (.ret (.tup [exP .nil, Ai 0, Ai 2])) ⟨[], []⟩ := by
  refine A4 (r' := .tup [.agg D4, Ai 0, Ai 2]) ?_ (by repeat' (first | exact Ad | refine Aa ?_ ?_ | exact Bo | exact Ab _ | refine A9 ?_ | refine Bh ?_))
  refine Af Tryz.func30 rfl rfl (Nat.le_of_ble_eq_true rfl) rfl (Nat.le_refl _) ?_
  repeat' (first | refine rl0 ?_ | refine rs0 (fun h => ?_) (fun h => ?_) | fail)
  . rfl
  . rfl
  . exfalso; simp_all; omega
theorem Wi (l : List TkZ) (a : Int) (hs : ∀ t ∈ l, t.2.1.size <= 9223372036854775807) (h0 : 0 <= a /\ a <= l.length) (hi : 0 <= Fr l) (hl : l.length <= 9223372036854775806) : An 30 [Ll l, Ai a] ⟨[], []⟩ (.ret (.tup [exP .nil, Ai (Fr l), Ai 350])) ⟨[], []⟩ := by
  refine A4 (r' := .tup [.agg D4, Ai (Fr l), Ai 350]) ?_ (by repeat' (first | exact Ad | refine Aa ?_ ?_ | exact Bo | exact Ab _ | refine A9 ?_ | refine Bh ?_))
  refine Af Tryz.func30 rfl rfl (Nat.le_of_ble_eq_true rfl) rfl (Nat.le_refl _) ?_
  repeat' (first | refine rl0 ?_ | refine rs0 (fun h => ?_) (fun h => ?_) | fail)
  . exfalso; simp at h; omega
  . exfalso; simp at h; omega
  refine Bt (ι := Nat) (ok := fun i => i <= l.length /\ (l.take i).any Xg = false) (L := rpL l a) (Sx := fun _ => ⟨[D4], []⟩) (μ := fun i => l.length - i) 0 ⟨Nat.zero_le _, by simp⟩ (by exact (by repeat (first | exact Ag | refine Ac rfl ?_))) rfl ?_
  rintro i ⟨hil, hm⟩
  repeat' (first | refine rl0 ?_ | refine rs0 (fun h => ?_) (fun h => ?_) | fail)
  . have hlt : i < l.length := by simpa using h
    obtain ⟨t, ht⟩ : ∃ t, l[i]? = some t := ⟨_, List.getElem?_eq_getElem hlt⟩
    refine wix _ rfl rfl rfl rfl rfl (Ku ht) (by omega) ?_
    repeat' (first | refine rl0 ?_ | refine rs0 (fun h => ?_) (fun h => ?_) | fail)
    refine wp1 (I7 t.1 t.2.1 t.2.2 (hs t (List.mem_of_getElem? ht))) ?_
    repeat' (first | refine rl0 ?_ | refine rs0 (fun h => ?_) (fun h => ?_) | fail)
    . rw [show Fr l = i from by unfold Fr; rw [Oh ht hm h]]; rfl
    . exact ⟨i + 1, ⟨by omega, Xp ht hm h⟩, by omega, (by repeat (first | exact Ag | refine Ac rfl ?_)), rfl⟩
  . exfalso
    rw [List.take_of_length_le (by simp at h; omega)] at hm
    rw [show Fr l = -1 from by unfold Fr; rw [List.findIdx?_eq_none_iff.2 (by rw [List.any_eq_false] at hm; intro x hx; simpa using hm x hx)]] at hi
    omega
theorem Wh (l : List TkZ) (a : Int) {k b : Nat} {x : Ex} (hs : ∀ t ∈ l, t.2.1.size <= 9223372036854775807) (ha : a = k) (h0 : k <= l.length) (hl : l.length <= 9223372036854775806) (hidx : Fr l = -1) (hx : An 73 [.ptr 0 0] (rdS l k false) (.ret (exP x)) (rdS l b true)) : An 30 [Ll l, Ai a] ⟨[], []⟩ (.ret (.tup [exP .nil, Ai b, Ai 350])) ⟨[], []⟩ := by
  subst ha
  refine A4 (r' := .tup [.agg D4, Ai b, Ai 350]) ?_ (by repeat' (first | exact Ad | refine Aa ?_ ?_ | exact Bo | exact Ab _ | refine A9 ?_ | refine Bh ?_))
  refine Af Tryz.func30 rfl rfl (Nat.le_of_ble_eq_true rfl) rfl (Nat.le_refl _) ?_
  repeat' (first | refine rl0 ?_ | refine rs0 (fun h => ?_) (fun h => ?_) | fail)
  . exfalso; simp at h; omega
  refine Bt (ι := Nat) (ok := fun i => i <= l.length) (L := rpL l k) (Sx := fun _ => ⟨[D4], []⟩) (μ := fun i => l.length - i) 0 (Nat.zero_le _) (by exact (by repeat (first | exact Ag | refine Ac rfl ?_))) rfl ?_
  intro i hil
  repeat' (first | refine rl0 ?_ | refine rs0 (fun h => ?_) (fun h => ?_) | fail)
  . have hlt : i < l.length := by simpa using h
    obtain ⟨t, ht⟩ : ∃ t, l[i]? = some t := ⟨_, List.getElem?_eq_getElem hlt⟩
    refine wix _ rfl rfl rfl rfl rfl (Ku ht) (by omega) ?_
    repeat' (first | refine rl0 ?_ | refine rs0 (fun h => ?_) (fun h => ?_) | fail)
    have hck := I7 t.1 t.2.1 t.2.2 (hs t (List.mem_of_getElem? ht))
    rw [Ff hidx t (List.mem_of_getElem? ht)] at hck
    refine wp1 hck ?_
    repeat' (first | refine rl0 ?_ | refine rs0 (fun h => ?_) (fun h => ?_) | fail)
    exact ⟨i + 1, by omega, by omega, (by repeat (first | exact Ag | refine Ac rfl ?_)), rfl⟩
  refine wb1 1 hx ?_
  repeat' (first | refine rl2 ?_ | refine rs2 (fun h => ?_) (fun h => ?_) | fail)
  refine b0 (fun k => Nat.beq k 5) [(4, [1])] ?_
  repeat' (first | refine rl7 ?_ | refine rs7 (fun h => ?_) (fun h => ?_) | fail)
  repeat' (first | refine rl0 ?_ | refine rs0 (fun h => ?_) (fun h => ?_) | fail)
  rfl
theorem Y7 (l : List TkZ) (a : Int) {k b : Nat} {x : Ex} (hs : ∀ t ∈ l, t.2.1.size <= 9223372036854775807) (ha : a = k) (h0 : k <= l.length) (hl : l.length <= 9223372036854775806) (hidx : Fr l = -1) (hx : An 73 [.ptr 0 0] (rdS l k false) (.ret (exP x)) (rdS l b false)) (hsm : x.small) (hv : Ge x = true) :
    An 30 [Ll l, Ai a] ⟨[], []⟩ (.ret (.tup [exP x, Ai b, Ai 0])) ⟨[], []⟩ := by
  subst ha
  have hr := Lb x hsm
  rw [hv] at hr
  refine Af Tryz.func30 rfl rfl (Nat.le_of_ble_eq_true rfl) rfl (Nat.le_refl _) ?_
  repeat' (first | refine rl0 ?_ | refine rs0 (fun h => ?_) (fun h => ?_) | fail)
  . exfalso; simp at h; omega
  refine Bt (ι := Nat) (ok := fun i => i <= l.length) (L := rpL l k) (Sx := fun _ => ⟨[D4], []⟩) (μ := fun i => l.length - i) 0 (Nat.zero_le _) (by exact (by repeat (first | exact Ag | refine Ac rfl ?_))) rfl ?_
  intro i hil
  repeat' (first | refine rl0 ?_ | refine rs0 (fun h => ?_) (fun h => ?_) | fail)
  . have hlt : i < l.length := by simpa using h
    obtain ⟨t, ht⟩ : ∃ t, l[i]? = some t := ⟨_, List.getElem?_eq_getElem hlt⟩
    refine wix _ rfl rfl rfl rfl rfl (Ku ht) (by omega) ?_
    repeat' (first | refine rl0 ?_ | refine rs0 (fun h => ?_) (fun h => ?_) | fail)
    have hck := I7 t.1 t.2.1 t.2.2 (hs t (List.mem_of_getElem? ht))
    rw [Ff hidx t (List.mem_of_getElem? ht)] at hck
    refine wp1 hck ?_
    repeat' (first | refine rl0 ?_ | refine rs0 (fun h => ?_) (fun h => ?_) | fail)
    exact ⟨i + 1, by omega, by omega, (by repeat (first | exact Ag | refine Ac rfl ?_)), rfl⟩
  refine wb1 1 hx ?_
  repeat' (first | refine rl2 ?_ | refine rs2 (fun h => ?_) (fun h => ?_) | fail)
  refine wp1 hr ?_
  repeat' (first | refine rl2 ?_ | refine rs2 (fun h => ?_) (fun h => ?_) | fail)
  refine b0 (fun k => Nat.beq k 5) [(0, [2]), (4, [1])] ?_
  repeat' (first | refine rl7 ?_ | refine rs7 (fun h => ?_) (fun h => ?_) | fail)
  repeat' (first | refine rl0 ?_ | refine rs0 (fun h => ?_) (fun h => ?_) | fail)
  rfl
theorem T6 (l : List TkZ) (a : Int) {k b : Nat} {x : Ex} (hs : ∀ t ∈ l, t.2.1.size <= 9223372036854775807) (ha : a = k) (h0 : k <= l.length) (hl : l.length <= 9223372036854775806) (hidx : Fr l = -1) (hx : An 73 [.ptr 0 0] (rdS l k false) (.ret (exP x)) (rdS l b false)) (hsm : x.small) (hv : Ge x = false) :
    An 30 [Ll l, Ai a] ⟨[], []⟩ (.ret (.tup [exP .nil, Ai a, Ai 3])) ⟨[], []⟩ := by
  subst ha
  have hr := Lb x hsm
  rw [hv] at hr
  refine A4 (r' := .tup [.agg D4, Ai k, Ai 3]) ?_ (by repeat' (first | exact Ad | refine Aa ?_ ?_ | exact Bo | exact Ab _ | refine A9 ?_ | refine Bh ?_))
  refine Af Tryz.func30 rfl rfl (Nat.le_of_ble_eq_true rfl) rfl (Nat.le_refl _) ?_
  repeat' (first | refine rl0 ?_ | refine rs0 (fun h => ?_) (fun h => ?_) | fail)
  . exfalso; simp at h; omega
  refine Bt (ι := Nat) (ok := fun i => i <= l.length) (L := rpL l k) (Sx := fun _ => ⟨[D4], []⟩) (μ := fun i => l.length - i) 0 (Nat.zero_le _) (by exact (by repeat (first | exact Ag | refine Ac rfl ?_))) rfl ?_
  intro i hil
  repeat' (first | refine rl0 ?_ | refine rs0 (fun h => ?_) (fun h => ?_) | fail)
  . have hlt : i < l.length := by simpa using h
    obtain ⟨t, ht⟩ : ∃ t, l[i]? = some t := ⟨_, List.getElem?_eq_getElem hlt⟩
    refine wix _ rfl rfl rfl rfl rfl (Ku ht) (by omega) ?_
    repeat' (first | refine rl0 ?_ | refine rs0 (fun h => ?_) (fun h => ?_) | fail)
    have hck := I7 t.1 t.2.1 t.2.2 (hs t (List.mem_of_getElem? ht))
    rw [Ff hidx t (List.mem_of_getElem? ht)] at hck
    refine wp1 hck ?_
    repeat' (first | refine rl0 ?_ | refine rs0 (fun h => ?_) (fun h => ?_) | fail)
    exact ⟨i + 1, by omega, by omega, (by repeat (first | exact Ag | refine Ac rfl ?_)), rfl⟩
  refine wb1 1 hx ?_
  repeat' (first | refine rl2 ?_ | refine rs2 (fun h => ?_) (fun h => ?_) | fail)
  refine wp1 hr ?_
  repeat' (first | refine rl0 ?_ | refine rs0 (fun h => ?_) (fun h => ?_) | fail)
  rfl
theorem Y6 (l : List TkZ) (a : Int) (hl : l.length <= 9223372036854775806) (hs : ∀ t ∈ l, t.2.1.size <= 9223372036854775807) : An 30 [Ll l, Ai a] ⟨[], []⟩ (.ret (.tup [exP (De l a).1, Ai (De l a).2.1, Ai (De l a).2.2])) ⟨[], []⟩ := by
  unfold De
  by_cases h0 : a < 0 \/ (l.length : Int) < a
  . rw [if_pos h0]
    exact Wg l a h0
  rw [if_neg h0]
  by_cases h1 : Fr l ≠ -1
  . rw [if_pos h1]
    exact Wi l a hs (by omega) ((Iq l).resolve_left h1) hl
  rw [if_neg h1]
  have h1' : Fr l = -1 := by omega
  obtain ⟨k, rfl⟩ := Int.eq_ofNat_of_zero_le (show 0 <= a by omega)
  have hk : k <= l.length := by omega
  have g : Rs 73 [.ptr 0 0] l k (D1 l k) := Aod hl (Agy h1') (Ag5 h1') _ 0 k (by omega) (by omega) hk (by simp [A5])
  obtain ⟨x, hx, hd⟩ := g
  have hsm : (D1 l k).x.small := (G1 hs _).1 _ _
  simp only [Int.toNat_natCast]
  cases hb : (D1 l k).bad with
  | true =>
    rw [if_pos rfl]
    rw [hb] at hd
    exact Wh l k hs rfl hk hl h1' hd
  | false =>
    rw [if_neg (by simp)]
    rw [hb] at hd
    obtain rfl := hx hb
    by_cases hc : Bg (D1 l k).x = 0
    . rw [if_pos hc]
      exact Y7 l k hs rfl hk hl h1' hd hsm (by unfold Bg at hc; split at hc <;> first | assumption | cases hc)
    . rw [if_neg hc]
      exact T6 l k hs rfl hk hl h1' hd hsm (by
        cases hv : Ge (D1 l k).x with
        | false => rfl
        | true => unfold Bg at hc; rw [hv] at hc; exact absurd rfl hc)
end Go.Proofs.YtiledamgmppcmaaGreatDoor
namespace Go.Proofs.YtiledamgmppcmaaGreatDoor
open Go.RowKit
theorem Acv (s : ByteArray) : An 26 [By s] ⟨[], []⟩ (.ret (.tup [Aad (Cn s.data.toList).1, Ai ((Cn s.data.toList).2.1 : Int), Ai (Cn s.data.toList).2.2])) ⟨[], []⟩ := by
  refine ⟨enters_of Tryz.func26 rfl rfl, fun K w vs hI hA => ?_⟩
  simp only [Bm] at hA
  obtain ⟨u, us, rfl, hr, rfl⟩ := hA
  rw [Ej hr]
  refine (Y8 s w).mono ?_
  rintro e w' ⟨v, rfl, hT, hB⟩
  obtain ⟨h1, h2⟩ := hI.below hB
  refine ⟨K, h2, h1, _, rfl, ?_⟩
  simp only [Rep]
  refine ⟨_, rfl, ?_⟩
  simp only [Bm]
  refine ⟨_, _, rfl, ?_, _, _, rfl, Hf rfl, _, _, rfl, Hf rfl, rfl⟩
  obtain ⟨hlen, hv⟩ := hT
  simp only [Rep, Ef, List.length_map]
  rcases hv with ⟨rfl, h0⟩ | ⟨g, cap, cur, rfl, hg, hh, hn, hcap, hsz, hcur⟩
  . exact ⟨none, 0, by rw [h0], by omega, by omega, fun hne => by rw [List.length_eq_zero_iff] at h0; rw [h0] at hne; simp at hne⟩
  . refine ⟨_, cap, rfl, hn, by simpa [maxLen] using hcap, fun _ => ⟨g, 0, rfl, ?_, Tg fun j v hj => ?_⟩⟩
    . obtain ⟨f1, f2, f3⟩ := L8.new hI hg (Array.getElem?_eq_some_iff.1 hh).1
      exact ⟨f1, f2, fun hm => by have := hI.Mlt _ hm; omega, fun lo hm => by have := hI.Tlt _ _ hm; omega, fun t c lo ht hc => absurd hc (f3 t c lo ht)⟩
    . rw [Nat.zero_add, cell_of_row _ _ j _ _ _ hh]
      rw [<- hcur] at hj
      have hjl := (List.getElem?_eq_some_iff.1 hj).1
      rw [List.getElem?_take] at hj
      split at hj
      . simpa using hj
      . cases hj
end Go.Proofs.YtiledamgmppcmaaGreatDoor
namespace Go.Proofs.YtiledamgmppcmaaGreatDoor
open Go.RowKit
theorem Nx (n f : Nat) (l : List UInt8) (acc : List Tok) (h : acc.length <= 2000) : (Cv n f l acc).1.length <= 2000 := by
  induction f generalizing l acc with
  | zero => simpa [Cv] using h
  | succ f ih =>
    rw [Cv]
    split
    . exact h
    . split
      . simp
      . split
        . simp
        . rename_i h3
          exact ih _ _ (by rw [List.length_append]; simp; omega)
theorem Ny (l : List UInt8) : (Cn l).1.length <= 2000 := by
  unfold Cn
  split
  . simp
  . exact Nx _ _ _ _ (by simp)
end Go.Proofs.YtiledamgmppcmaaGreatDoor
namespace Go.Proofs.YtiledamgmppcmaaGreatDoor
open Go.RowKit
theorem Eo {zs : List (List UInt8)} {l : List UInt8} : Oi zs l = true <-> l ∈ zs := by
  unfold Oi
  rw [List.any_eq_true]
  constructor
  . rintro ⟨y, hy, h⟩
    have : l = y := by simpa using h
    rwa [this]
  . intro h; exact ⟨l, h, by simp⟩
end Go.Proofs.YtiledamgmppcmaaGreatDoor
namespace Go.Proofs.YtiledamgmppcmaaGreatDoor
open Go.RowKit
theorem Hg {kd : Int} {x : List UInt8} (h : Ay kd x = true) : x.length <= 12 := by
  have hw : (Cs.all fun x => decide (x.length <= 12)) = true := by decide +kernel
  have hs : (Bz.all fun x => decide (x.length <= 12)) = true := by decide +kernel
  unfold Ay at h
  split at h
  . simp only [Ei, Bool.and_eq_true, decide_eq_true_eq] at h; exact h.1.2
  . split at h
    . simpa using List.all_eq_true.1 hw _ (Eo.1 h)
    . split at h
      . simp only [Bl, Bool.and_eq_true, Bool.or_eq_true, decide_eq_true_eq, beq_iff_eq] at h
        rcases h.2 with h | h
        . rw [h]; simp
        . omega
      . split at h
        . simpa using List.all_eq_true.1 hs _ (Eo.1 h)
        . cases h
end Go.Proofs.YtiledamgmppcmaaGreatDoor
