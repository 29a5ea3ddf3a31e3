/- A part of the proofs of some statements of this chapter: texts of these claims, merged. -/
import Derived.Below
import Derived.WalkKit
import Derived.BigQuiet
import Derived.Lib.Hide
import Derived.ControlIn
import Derived.OwnWalkIn
import Derived.Lib.ItoaNum
import Derived.OrdersIn
import Derived.TacticsIn
import Derived.Deep.MidRow
import Derived.OpenShut
import Derived.Lib.SmallJoins
import Derived.Laws.Tables
import Derived.Laws.OwnMore
import Derived.Orders
import Derived.Test.YtiledamgmppcmaaGreatDoorProg
import Derived.Shelf.Abstract
import Derived.Test.YtiledamgmppcmaaGreatDoorRows
import Derived.Carry
import Derived.Lib.LaidU8
import Derived.Lib.LaidTab
import Derived.Lay
import Derived.MakeChecks
import Derived.Laws.Strings
import Derived.WalkSpells
import Derived.WalkLawsBesides
import Derived.Laws.EntriesVeiled
import Derived.Deep.RegionHeld3
import Derived.Deep.QuietTactic
import Derived.Lib.Bytealg
import Derived.Shelf.Strings.Builder1
import Derived.Shelf.Small.Strs
import Derived.Shelf.Small.Wraps
import Derived.Shelf.Strings.BuilderF
import Derived.Shelf.Strings.BuilderK
import Derived.Shelf.Strconv.Atoi
import Derived.Shelf.Strconv.Itoa0
import Derived.Shelf.Strconv.Itoa1
import Derived.Shelf.LaysM
import Derived.Shelf.Strconv.Itoa2
import Derived.Shelf.Strconv.Itoa3
import Derived.Shelf.Strconv.AtoiErrFast
import Derived.Shelf.Strconv.ParseIntEmpty
import Derived.Shelf.Strconv.AtoiFail
import Derived.Shelf.Strconv.Clone
import Derived.Shelf.Strconv.SyntaxError
import Derived.Shelf.LaysC
import Derived.Shelf.Strconv.ToError
import Derived.Shelf.Strconv.AtoiErr
import Derived.Shelf.Strconv.ErrVar
import Derived.Shelf.Strconv.Lower
import Derived.Shelf.Strconv.ParseUint10
import Derived.Shelf.Strconv.ParseUint10Empty
import Derived.Shelf.Strconv.ParseUint10Any
import Derived.Shelf.Strconv.ParseInt10
import Derived.Shelf.Strconv.AtoiLong
import Derived.Shelf.Strconv.AtoiInnerAll
import Derived.Shelf.Strconv.RangeError
import Derived.Shelf.Strconv.ToErrorRange
import Derived.Shelf.Strconv.AtoiAll
import Derived.Shelf.Strconv.ErrVarAll
import Derived.Shelf.Strconv.ParseUintEmpty
import Derived.Shelf.Strconv.ParseUint10b64
import Derived.Shelf.Strconv.ParseUint10b32
import Derived.Shelf.Strconv.ParseUint10b16
import Derived.Shelf.Strconv.ParseUint10b8
import Derived.Shelf.Strconv.ParseUint10At
import Derived.Ground.MpProg
import Derived.Shelf.Pu.ParseUintPublic10
import Derived.Shelf.Pu.ErrVarParseUint
import Derived.Shelf.Strings.Search1
import Derived.Shelf.Strings.Search2
import Derived.Shelf.Strings.Cut
import Derived.Shelf.Strings.Shaped
import Derived.Shelf.Strings.Prefix
import Derived.Deep.DeepCutAuto
import Derived.Lib.IndexBytes
import Derived.Deep.LoopGhost
import Derived.StillTail
import Derived.BigRegion
import Derived.Deep.CutBlock
import Derived.RangeFuncBox
import Derived.RangeFuncLeaves
import Derived.RangeFuncCalls
import Derived.TacticsInMore
import Derived.LoopNIn
import Derived.LoopIn
import Derived.RecoverIn
import Derived.RangeFuncNested
import Derived.Maps.AppendAt
import Derived.Shelf.RegionOpen
import Derived.Laws.StructEq
import Derived.Lib.Join
import Derived.Deep.AppendLies
import Derived.Deep.RegionLaw
import Derived.Laws.Rows
import Derived.RangeFuncOwn
import Derived.Laws.MakeOwn
import Derived.ProofKit
import Derived.Test.YtiledamgmppcmaaGreatDoorZE4
set_option linter.unusedVariables false
set_option linter.unusedSimpArgs false
set_option linter.unusedSectionVars false
set_option linter.all false
namespace Go.Proofs.YtiledamgmppcmaaGreatDoor
open Go.RowKit Go.ChangeShapes Go.ChangeAt
section
variable (P : Program)
def Fo : Nat -> List Field -> Nat -> Bool
  | off, [], n => Nat.beq off n
  | off, f :: r, n => Nat.beq f.offset off && Fo (off + P.cellsOf f.type) r n
def Ri (ts : List TypeId) (t : TypeId) : Bool := match P.underlying t with
  | some .bool => true
  | some (.int _) => true
  | some .string => true
  | some (.slice e) => ts.any (Nat.beq e) && Nat.blt 0 (P.cellsOf e)
  | some (.struct fs) => fs.toList.all (fun f => ts.any (Nat.beq f.type)) && Fo P 0 fs.toList (P.cellsOf t)
  | some (.array m e) => ts.any (Nat.beq e) && Nat.beq (m * P.cellsOf e) (P.cellsOf t)
  | _ => false
def Jj (ts : List TypeId) : Bool := ts.all (Ri P ts)
def Shp : Nat -> TypeId -> List DV -> Prop
  | 0, _, _ => False
  | n + 1, t, ds => match P.underlying t with
    | some .bool => ∃ b, ds = [.v (.bool b)]
    | some (.int k) => ∃ z, ds = [.v (.int k z)] /\ (Lit.int k z).wf = true
    | some .string => ∃ s : ByteArray, ds = [.v (.string s)] /\ s.size <= 9223372036854775807
    | some (.slice e) => ∃ l, ds = [.sl (P.cellsOf e) l] /\ l.length <= 9223372036854775807 /\ ∀ x ∈ l, Shp n e x
    | some (.struct fs) => ∃ parts : List (List DV), ds = parts.flatten /\ parts.length = fs.size /\ ∀ (i : Nat) (f : Field) (p : List DV), fs[i]? = some f -> parts[i]? = some p -> Shp n f.type p
    | some (.array m e) => ∃ parts : List (List DV), ds = parts.flatten /\ parts.length = m /\ ∀ p ∈ parts, Shp n e p
    | _ => False
end
section
variable {P : Program} {K : Kx} {w : World}
theorem Fw : ∀ {parts : List (List DV)} {cs : List (List Value)}, parts.length = cs.length -> (∀ (i : Nat) (p : List DV) (c : List Value), parts[i]? = some p -> cs[i]? = some c -> Bm K w (p.map .d) c) -> Bm K w (parts.flatten.map .d) cs.flatten
  | [], [], _, _ => rfl
  | p :: ps, c :: cs, hl, h => by
    rw [List.flatten_cons, List.flatten_cons, List.map_append]
    exact Bm.append (h 0 p c rfl rfl) (Fw (by simpa using hl) fun i p c hp hc => h (i + 1) p c hp hc)
  | [], _ :: _, hl, _ => by simp at hl
  | _ :: _, [], hl, _ => by simp at hl
theorem Fp : ∀ {fs : List Field} {off n : Nat} {cs : List Value}, Fo P off fs n = true -> cs.length = n -> (fs.map fun f => (cs.drop f.offset).take (P.cellsOf f.type)).flatten = cs.drop off
  | [], off, n, cs, h, hl => by
    simp only [Fo] at h
    obtain rfl := Nat.eq_of_beq_eq_true h
    rw [List.drop_of_length_le (by omega)]; rfl
  | f :: r, off, n, cs, h, hl => by
    simp only [Fo, Bool.and_eq_true] at h
    have e := Nat.eq_of_beq_eq_true h.1
    rw [List.map_cons, List.flatten_cons, Fp h.2 hl, e, <- List.drop_drop, List.take_append_drop]
theorem Ip (c : Nat) : ∀ (m : Nat) {cs : List Value}, cs.length = m * c -> ((List.range m).map fun i => (cs.drop (i * c)).take c).flatten = cs
  | 0, cs, h => by
    have : cs = [] := List.length_eq_zero_iff.1 (by simpa using h)
    subst this; rfl
  | m + 1, cs, h => by
    have h1 := Ip c m (cs := cs.take (m * c)) (by rw [List.length_take, h, Nat.succ_mul]; omega)
    rw [List.range_succ, List.map_append, List.flatten_append]
    have h2 : (List.range m).map (fun i => (cs.drop (i * c)).take c) = (List.range m).map (fun i => ((cs.take (m * c)).drop (i * c)).take c) := by
      refine List.map_congr_left fun i hi => ?_
      have hi : i < m := List.mem_range.1 hi
      rw [List.drop_take, List.take_take]
      congr 1
      have : (i + 1) * c <= m * c := Nat.mul_le_mul_right c hi
      rw [Nat.succ_mul] at this
      omega
    rw [h2, h1]
    simp only [List.map_cons, List.map_nil, List.flatten_cons, List.flatten_nil, List.append_nil]
    rw [List.take_of_length_le (l := cs.drop (m * c)) (by rw [List.length_drop, h, Nat.succ_mul]; omega), List.take_append_drop]
theorem Nk {a : Addr} {n : Nat} {v : Value} (h : w.cell? (a.add n) = some v) : a.block < w.heap.size /\ (n = 0 -> a.spot = none) := by
  unfold World.cell? Addr.add at h
  split at h
  . rename_i c t f hh
    have hb : (if n = 0 then a else { a with off := a.off + n, spot := none }).block = a.block := by split <;> rfl
    rw [hb] at hh
    refine ⟨(Array.getElem?_eq_some_iff.1 hh).1, fun h0 => ?_⟩
    subst h0
    simp only [if_true] at h
    split at h
    . cases h
    . rename_i hs; simpa using hs
  . cases h
theorem G2 {ts : List TypeId} {e : TypeId} (h : ts.any (Nat.beq e) = true) : e ∈ ts := by
  obtain ⟨x, hx, h2⟩ := List.any_eq_true.1 h
  rw [Nat.eq_of_beq_eq_true h2]; exact hx
theorem In {G : Nat -> Nat -> Prop} {b : Nat} : ∀ {ds : List DV} {cs : List Value} {o : Nat}, (∀ (i : Nat) (v : Value), cs[i]? = some v -> w.cell? ⟨b, o + i, none⟩ = some v) -> (∀ (i : Nat) (d : DV) (v : Value), ds[i]? = some d -> cs[i]? = some v -> Ef G w d v) -> ds.length = cs.length -> Bn G w ds b o
  | [], _, _, _, _, _ => by simp [Bn]
  | d :: ds, v :: cs, o, h1, h2, hl => by
    simp only [Bn]
    refine ⟨⟨v, by simpa using h1 0 v rfl, h2 0 d v rfl rfl⟩, In (cs := cs) (fun i v hv => ?_) (fun i d v hd hv => h2 (i + 1) d v hd hv) (by simpa using hl)⟩
    have := h1 (i + 1) v hv
    rwa [show o + (i + 1) = o + 1 + i by omega] at this
  | _ :: _, [], _, _, _, hl => by simp at hl
theorem Lc {G : Nat -> Nat -> Prop} {k b : Nat} : ∀ {l : List (List DV)} {o : Nat}, (∀ (i : Nat) (e : List DV), l[i]? = some e -> e.length = k /\ Bn G w e b (o + i * k)) -> Dd G w k l b o
  | [], _, _ => by simp [Dd]
  | e :: l, o, h => by
    simp only [Dd]
    obtain ⟨h1, h2⟩ := h 0 e rfl
    refine ⟨h1, by simpa using h2, Lc fun i e he => ?_⟩
    have := h (i + 1) e he
    rw [Nat.succ_mul] at this
    exact ⟨this.1, by rw [show o + k + i * k = o + (i * k + k) by omega]; exact this.2⟩
theorem Cz {α β : Type} {R : Nat -> α -> β -> Prop} : ∀ (l : List α) (n : Nat), (∀ (i : Nat) (a : α), l[i]? = some a -> ∃ b, R (n + i) a b) -> ∃ bs : List β, bs.length = l.length /\ ∀ (i : Nat) (a : α) (b : β), l[i]? = some a -> bs[i]? = some b -> R (n + i) a b
  | [], _, _ => ⟨[], rfl, fun i a b h => by simp at h⟩
  | a :: l, n, h => by
    obtain ⟨b, hb⟩ := h 0 a rfl
    obtain ⟨bs, h1, h2⟩ := Cz (R := R) l (n + 1) fun i a ha => by
      have := h (i + 1) a ha
      rwa [show n + (i + 1) = n + 1 + i by omega] at this
    refine ⟨b :: bs, by simp [h1], fun i a' b' ha hb' => ?_⟩
    cases i with
    | zero => simp at ha hb'; subst ha; subst hb'; exact hb
    | succ i =>
      have := h2 i a' b' (by simpa using ha) (by simpa using hb')
      rwa [show n + 1 + i = n + (i + 1) by omega] at this
set_option maxHeartbeats 1000000 in
theorem Rw {H : Type} {enc : TypeId × Value -> H} {base : Nat} {spare : Nat -> Bool} {held : Bool} {ts : List TypeId} (hcl : Jj P ts = true) (hK : ∀ b hi, b < w.heap.size -> K.good w b hi) :
    ∀ (fuel : Nat) (t : TypeId) (cs : List Value) (x : DataW H × List MemPlace), t ∈ ts -> DataW.trod enc P w base spare held fuel t cs = some x -> ∃ ds, Bm K w (ds.map .d) cs /\ Shp P fuel t ds := by
  intro fuel
  induction fuel with
  | zero => intro t cs x _ h; simp [DataW.trod] at h
  | succ n ih =>
    intro t cs x ht h
    have hg := List.all_eq_true.1 hcl t ht
    unfold Ri at hg
    split at hg
    . rename_i hu
      obtain ⟨b, rfl, _⟩ := DataW.trod_bool hu h
      exact ⟨[.v (.bool b)], ⟨_, _, rfl, ⟨rfl, rfl⟩, rfl⟩, by unfold Shp; rw [hu]; exact ⟨b, rfl⟩⟩
    . rename_i k hu
      obtain ⟨z, rfl, _, hw⟩ := DataW.trod_int hu h
      exact ⟨[.v (.int k z)], ⟨_, _, rfl, ⟨rfl, rfl⟩, rfl⟩, by unfold Shp; rw [hu]; exact ⟨z, rfl, hw⟩⟩
    . rename_i hu
      obtain ⟨s, rfl, _, hs⟩ := DataW.trod_string hu h
      exact ⟨[.v (.string s)], ⟨_, _, rfl, ⟨rfl, rfl⟩, rfl⟩, by unfold Shp; rw [hu]; exact ⟨s, rfl, by simpa [maxLen] using hs⟩⟩
    . rename_i e hu
      simp only [Bool.and_eq_true, Nat.blt_eq] at hg
      have he := G2 hg.1
      rcases DataW.trod_slice hu h with ⟨rfl, _⟩ | ⟨a, len, cap, elems, rest, m, hm, rfl, _, hb, h1, h2, h3, h4, _⟩
      . refine ⟨[.sl (P.cellsOf e) []], ⟨_, _, rfl, ?_, rfl⟩, by unfold Shp; rw [hu]; exact ⟨[], rfl, by simp, by simp⟩⟩
        simp only [Rep, Ef]
        exact ⟨none, 0, rfl, Nat.le_refl _, by omega, fun hne => absurd rfl hne⟩
      . obtain rfl : n = m := by omega
        have hel : ∀ (i : Nat) (y : DataW H × List MemPlace), elems[i]? = some y -> ∃ ds : List DV, (∃ cs, w.cells? base (a.add (i * P.cellsOf e)) (P.cellsOf e) = some cs /\ Bm K w (ds.map .d) cs) /\ Shp P n e ds := fun i y hy => by
          have hi : i < len := by rw [<- h3]; exact (List.getElem?_eq_some_iff.1 hy).1
          have h5 := h4 i hi
          rw [hy] at h5
          obtain ⟨cs, h6, h7⟩ := Option.bind_eq_some_iff.1 h5
          obtain ⟨ds, h8, h9⟩ := ih e cs y he h7
          exact ⟨ds, ⟨cs, h6, h8⟩, h9⟩
        obtain ⟨l, hl, hR⟩ := Cz (R := fun i _ ds => (∃ cs, w.cells? base (a.add (i * P.cellsOf e)) (P.cellsOf e) = some cs /\ Bm K w (List.map PV.d ds) cs) /\ Shp P n e ds) elems 0 (fun i y hy => by rw [Nat.zero_add]; exact hel i y hy)
        simp only [Nat.zero_add] at hR
        have hcells : ∀ (i : Nat) (cs : List Value), w.cells? base (a.add (i * P.cellsOf e)) (P.cellsOf e) = some cs -> cs.length = P.cellsOf e /\ ∀ (j : Nat) (v : Value), cs[j]? = some v -> w.cell? ((a.add (i * P.cellsOf e)).add j) = some v := fun i cs hc => by
          unfold World.cells? at hc
          split at hc
          . refine ⟨by have := mapM_some_length hc; simpa using this, fun j v hj => ?_⟩
            have hj' : j < P.cellsOf e := by have := mapM_some_length hc; simp at this; rw [<- this]; exact (List.getElem?_eq_some_iff.1 hj).1
            have := mapM_some_get hc j j (by simp [hj'])
            rw [this]; exact hj
          . cases hc
        have hshape : ∀ x ∈ l, Shp P n e x := fun x hx => by
          obtain ⟨i, hi⟩ := List.mem_iff_getElem?.1 hx
          have hlt := (List.getElem?_eq_some_iff.1 hi).1
          exact (hR i elems[i] x (List.getElem?_eq_getElem (by omega)) hi).2
        have hlen : l.length = len := by omega
        refine ⟨[.sl (P.cellsOf e) l], ⟨_, _, rfl, ?_, rfl⟩, by unfold Shp; rw [hu]; exact ⟨l, rfl, by rw [hlen]; have : maxLen = 9223372036854775807 := rfl; omega, hshape⟩⟩
        simp only [Rep, Ef]
        refine ⟨some a, cap, by rw [hlen], by omega, by have : maxLen = 9223372036854775807 := rfl; omega, fun hne => ?_⟩
        have h0 : 0 < l.length := List.length_pos_iff.2 hne
        obtain ⟨⟨cs0, hc0, _⟩, _⟩ := hR 0 elems[0] l[0] (List.getElem?_eq_getElem (by omega)) (List.getElem?_eq_getElem h0)
        obtain ⟨hl0, hg0⟩ := hcells 0 cs0 hc0
        rw [Nat.zero_mul] at hg0
        have ha0 := Nk (n := 0) (a := a) (v := cs0[0]'(by omega)) (by have := hg0 0 cs0[0] (List.getElem?_eq_getElem (by omega)); simpa [Addr.add] using this)
        have hsp := ha0.2 rfl
        obtain ⟨b, o, sp⟩ := a
        simp only at hsp
        subst hsp
        refine ⟨b, o, rfl, hK b _ ha0.1, Lc fun i d hd => ?_⟩
        have hlt := (List.getElem?_eq_some_iff.1 hd).1
        obtain ⟨⟨cs, hc, hr⟩, _⟩ := hR i elems[i] d (List.getElem?_eq_getElem (by omega)) hd
        obtain ⟨hcl', hcg⟩ := hcells i cs hc
        have hdl : d.length = cs.length := by have := hr.length; simpa using this.symm
        refine ⟨by omega, In (cs := cs) (fun j v hj => ?_) (fun j dd v hdj hvj => ?_) hdl⟩
        . have := hcg j v hj
          have e1 : ((⟨b, o, none⟩ : Addr).add (i * P.cellsOf e)).add j = ⟨b, o + i * P.cellsOf e + j, none⟩ := by
            unfold Addr.add
            split <;> split <;> simp_all
          rwa [e1] at this
        . obtain ⟨u, hu', hru⟩ := hr.get (i := j) (p := .d dd) (by rw [List.getElem?_map, hdj]; rfl)
          rw [hvj] at hu'; cases hu'
          exact hru
    . rename_i fs hu
      simp only [Bool.and_eq_true] at hg
      obtain ⟨xs, m, hm, _, hcl', hxl, hx⟩ := DataW.trod_struct hu h
      obtain rfl : n = m := by omega
      obtain ⟨parts, hpl, hR⟩ := Cz (R := fun i (f : Field) (ds : List DV) => Bm K w (List.map PV.d ds) ((cs.drop f.offset).take (P.cellsOf f.type)) /\ Shp P n f.type ds) fs.toList 0 (fun i f hf => by
        have hf' : fs[i]? = some f := by rw [<- Array.getElem?_toList]; exact hf
        have hlt : i < xs.length := by rw [hxl]; exact (Array.getElem?_eq_some_iff.1 hf').1
        have := hx i f hf'
        rw [List.getElem?_eq_getElem hlt] at this
        exact ih f.type _ _ (G2 (List.all_eq_true.1 hg.1 f (List.mem_of_getElem? hf))) this)
      refine ⟨parts.flatten, ?_, by unfold Shp; rw [hu]; exact ⟨parts, rfl, by rw [hpl]; simp, fun i f p hf hp => (hR i f p (by rw [Array.getElem?_toList]; exact hf) hp).2⟩⟩
      have e := Fp hg.2 hcl'
      rw [List.drop_zero] at e
      rw [<- e]
      refine Fw (by rw [List.length_map, hpl]) fun i p c hp hc => ?_
      rw [List.getElem?_map] at hc
      obtain ⟨f, hf, rfl⟩ := Option.map_eq_some_iff.1 hc
      exact (hR i f p hf hp).1
    . rename_i mm e hu
      simp only [Bool.and_eq_true] at hg
      have he := G2 hg.1
      obtain ⟨xs, m, hm, _, hcl', hxl, hx⟩ := DataW.trod_array hu h
      obtain rfl : n = m := by omega
      obtain ⟨parts, hpl, hR⟩ := Cz (R := fun i (_ : Nat) (ds : List DV) => Bm K w (List.map PV.d ds) ((cs.drop (i * P.cellsOf e)).take (P.cellsOf e)) /\ Shp P n e ds) (List.range mm) 0 (fun i j hj => by
        have hlt : i < mm := by have := (List.getElem?_eq_some_iff.1 hj).1; simpa using this
        have := hx i hlt
        rw [List.getElem?_eq_getElem (by omega)] at this
        rw [Nat.zero_add]
        exact ih e _ _ he this)
      simp only [Nat.zero_add] at hR
      refine ⟨parts.flatten, ?_, by
        unfold Shp; rw [hu]
        refine ⟨parts, rfl, by rw [hpl]; simp, fun p hp => ?_⟩
        obtain ⟨i, hi⟩ := List.mem_iff_getElem?.1 hp
        have hlt := (List.getElem?_eq_some_iff.1 hi).1
        exact (hR i _ p (List.getElem?_eq_getElem (by omega)) hi).2⟩
      have e2 := Ip (P.cellsOf e) mm (cs := cs) (by rw [hcl', Nat.eq_of_beq_eq_true hg.2])
      rw [<- e2]
      refine Fw (by rw [List.length_map, hpl]) fun i p c hp hc => ?_
      rw [List.getElem?_map] at hc
      obtain ⟨j, hj, rfl⟩ := Option.map_eq_some_iff.1 hc
      have : j = i := by
        have h1 := List.getElem?_eq_some_iff.1 hj
        obtain ⟨h2, h3⟩ := h1
        simpa using h3.symm
      subst this
      exact (hR j j p hj hp).1
    . cases hg
end
end Go.Proofs.YtiledamgmppcmaaGreatDoor
namespace Go.Proofs.YtiledamgmppcmaaGreatDoor
open Go.RowKit
section
variable {P : Program} {o : Oper} {F : Nat -> PV} {S : PS}
theorem J6 {t : TypeId} {len : Nat} {ps : Array (Nat × Operand)} {I : TyI} {out : List PV} {ds : List DV} (ho : o.op = .buildSlice t len ps) (hI : TyI.of P t = some I) (hk : I.kind = 2) (hlen : len * I.ek <= 16777216)
    (ha : (E9 F ps).all (fun x => Ee x.2.parts) = true) (hf : Qc (fun i => some (i * I.ek, I.ek)) (P4 I.ez (len * I.ek)) (E9 F ps) = some out) (hd : S.toDs out = some ds) (hl63 : len <= 9223372036854775807) : OpS P o F S (.hd S.toks.length 0) (S.addTok ⟨0, I.ek, Q8 I.ek len ds, I.elem⟩) :=
  OpS.val fun K w ρ hInv h => by
    obtain ⟨cs, hrun, hr, hcs, hds⟩ := Kf (P := P) (F := F) (ρ := ρ) hInv hI hk hlen (by simpa [ho, Op.operands] using h) ha hf hd
    obtain ⟨hc1, hc2, hc3⟩ := O5 hds
    obtain ⟨h1, h2, h3⟩ := hInv.addTok (w' := w.alloc (.cells cs I.elem)) ((Below.refl _ _).alloc (Nat.le_refl _) _) (T := ⟨0, I.ek, Q8 I.ek len ds, I.elem⟩) (blk := some (w.heap.size, len * I.ek)) (u := .slice (some ⟨w.heap.size, 0, none⟩) len len) rfl rfl (fun g lo hg => by cases hg; exact Nat.le_refl _) (fun hs => by
      refine .inr ⟨w.heap.size, len, cs, by simp [hc2], by simp [hc2], heap_alloc_new w _, by simp [hc2], hl63, hcs, ?_, Fx.2 ⟨hc3, ?_⟩⟩
      . obtain ⟨g1, g2, g3, g4, g5⟩ := Rh (w' := w.alloc (.cells cs I.elem)) hInv (by simp) (len * I.ek)
        refine ⟨g1, g2, g3, fun lo hm => absurd (hInv.Tlt _ lo hm) (Nat.lt_irrefl _), fun t' c' lo ht hc => ?_⟩
        change (K.τ ++ [_])[t']? = _ at ht
        simp only [hc2]
        by_cases e : t' < K.τ.length
        . rw [List.getElem?_append_left e] at ht
          exact absurd (hInv.tokLt ht hc) (Nat.lt_irrefl _)
        . have e2 : t' = K.τ.length := by have := (List.getElem?_eq_some_iff.1 ht).1; simp at this; omega
          subst e2
          rw [List.getElem?_append_right (Nat.le_refl _)] at ht
          simp at ht
          subst ht
          cases hc; exact Nat.le_refl _
      . rw [hc1]
        exact Io On (Bm.step hs _ _ hr))
    exact ⟨_, _, _, by simp only [execOp, ho, Sem.run_bind, hrun]; rfl, h2, h1, h3⟩
end
end Go.Proofs.YtiledamgmppcmaaGreatDoor
namespace Go.Proofs.YtiledamgmppcmaaGreatDoor
open Go.RowKit
section
variable (T : Nat -> TyI) (ok : Nat -> Bool) (F : Nat -> PV) (S : PS)
def Aba (t : TypeId) (len : Nat) (ps : Array (Nat × Operand)) : St :=
  bif ok t && Nat.beq (T t).kind 2 && Nat.ble (len * (T t).ek) 16777216 && Nat.ble len 9223372036854775807 && (E9 F ps).all (fun x => Ee x.2.parts) then
    match Qc (fun i => some (i * (T t).ek, (T t).ek)) (P4 (T t).ez (len * (T t).ek)) (E9 F ps) with
    | some out => match S.toDs out with
      | some ds => some (True, .hd S.toks.length 0, S.addTok ⟨0, (T t).ek, Q8 (T t).ek len ds, (T t).elem⟩)
      | none => none
    | none => none
  else none
end
section
variable {P : Program} {T : Nat -> TyI} {ok : Nat -> Bool} {F : Nat -> PV} {S S' : PS} {o : Oper} {C : Prop} {r : PV}
theorem Ac3 (hT : ∀ t, ok t = true -> TyI.of P t = some (T t)) {t : TypeId} {len : Nat} {ps : Array (Nat × Operand)} (ho : o.op = .buildSlice t len ps) (h : Aba T ok F S t len ps = some (C, r, S')) : OpS P o F S r S' := by
  unfold Aba at h
  cases hk : (ok t && Nat.beq (T t).kind 2 && Nat.ble (len * (T t).ek) 16777216 && Nat.ble len 9223372036854775807 && (E9 F ps).all (fun x => Ee x.2.parts)) with
  | false => rw [hk] at h; cases h
  | true =>
    rw [hk] at h
    simp only [cond_true] at h
    simp only [Bool.and_eq_true] at hk
    split at h
    . rename_i out hf
      split at h
      . rename_i ds hd
        cases h
        exact J6 ho (hT t hk.1.1.1.1) (Nat.eq_of_beq_eq_true hk.1.1.1.2) (Nat.le_of_ble_eq_true hk.1.1.2) hk.2 hf hd (Nat.le_of_ble_eq_true hk.1.2)
      . cases h
    . cases h
end
end Go.Proofs.YtiledamgmppcmaaGreatDoor
namespace Go.Proofs.YtiledamgmppcmaaGreatDoor
open Go.RowKit
section
variable {N : Nat} {ops : Array Oper} {rest : List Oper} {o : Oper} {F : Nat -> PV} {S S' : PS} {q : WRes -> Prop} {C : Prop} {r : PV} {Q : Exit -> (Nat -> PV) -> PS -> Prop}
variable {ch : Nat -> Bool} {U Ut : List Nat} {k : Nat} {bm : Bool} {D : List Nat}
theorem wap (hg : Am ops F o = some true) (hp : (!ch k && Ta ops ch k) = true) (h : Le tyi Bq F S o.op = some (C, r, S)) (hC : C) (kk : WA Tryz.prog N ops ch U Ut (k + 1) rest (Ch N o.dst r F) S bm D q) : WA Tryz.prog N ops ch U Ut k (o :: rest) F S bm D q := by
  simp only [Bool.and_eq_true, Bool.not_eq_true'] at hp
  exact Vy hg hp.1 hp.2 (Jw Gl h hC) kk
theorem wixp {t : TypeId} {x y : Operand} {l : List (List DV)} {kd : IntKind} {j : Int} (e : List DV) (hg : Am ops F o = some true) (hp : (!ch k && Ta ops ch k) = true) (ho : o.op = .indexAddr t x y) (hk : (Bq t && Nat.beq (tyi t).kind 2) = true) (hx : S.toS (tyi t).ek (evP F x) = some l) (hy : evP F y = .d (.v (.int kd j)))
    (he : l[j.toNat]? = some e) (h0 : 0 <= j) (kk : WA Tryz.prog N ops ch U Ut (k + 1) rest (Ch N o.dst (.ep e) F) S bm D q) : WA Tryz.prog N ops ch U Ut k (o :: rest) F S bm D q := by
  simp only [Bool.and_eq_true] at hk
  simp only [Bool.and_eq_true, Bool.not_eq_true'] at hp
  exact Vy hg hp.1 hp.2 (I4 ho (Gl t hk.1) (Nat.eq_of_beq_eq_true hk.2) hx hy h0 he) kk
variable {c : Operand} {al : Array Operand} {ats : Array TypeId} {f : Nat} {caps args : List PV}
end
end Go.Proofs.YtiledamgmppcmaaGreatDoor
namespace Go.Proofs.YtiledamgmppcmaaGreatDoor
open Go.RowKit Go.ChangeShapes Go.ChangeAt Go.WideShapes
theorem Rj {W : World} : ∀ b hi, b < W.heap.size -> Kz.good W b hi := fun b hi h => ⟨h, by simp [Kz], by simp [Kz], by simp [Kz], by simp [Kz]⟩
section
variable {P : Program} {W : World} {H : Type} {enc : TypeId × Value -> H} {base : Nat} {spare : Nat -> Bool} {held : Bool} {r : Reach} {b0 : Nat} {ts : List TypeId} {t : TypeId} {v : Value} {d : DataW H} {p : List MemPlace}
theorem rd_row {fs : Array Field} (hcl : Jj P ts = true) (ht : ts.any (Nat.beq t) = true) (hu : P.underlying t = some (.struct fs)) (hv : Value.okWide P W r b0 t v) (h : DataW.Trod enc P W base spare held t v d p) : ∃ n ds, Shp P n t ds /\ Rep Kz W (.agg (ds.map .d)) v := by
  obtain ⟨cs, rfl, _⟩ := okWide_struct hu hv
  obtain ⟨fuel, hf⟩ := h
  obtain ⟨ds, h1, h2⟩ := Rw (K := Kz) hcl Rj fuel t _ _ (G2 ht) hf
  exact ⟨fuel, ds, h2, by simp only [Rep]; exact ⟨cs.toList, by simp, h1⟩⟩
theorem Rv {k : IntKind} (hu : P.underlying t = some (.int k)) (hv : Value.okWide P W r b0 t v) (h : DataW.Trod enc P W base spare held t v d p) : ∃ z, Rep Kz W (.d (.v (.int k z))) v /\ (Lit.int k z).wf = true := by
  obtain ⟨z, rfl, _, _, hw⟩ := open_int hu hv h
  exact ⟨z, ⟨rfl, rfl⟩, hw⟩
theorem La {e : TypeId} (hcl : Jj P ts = true) (ht : ts.any (Nat.beq t) = true) (hu : P.underlying t = some (.slice e)) (hv : Value.okWide P W r b0 t v) (h : DataW.Trod enc P W base spare held t v d p) : ∃ n l, Rep Kz W (.d (.sl (P.cellsOf e) l)) v /\ ∀ x ∈ l, Shp P n e x := by
  obtain ⟨a, len, cap, rfl⟩ := okWide_slice hu hv
  obtain ⟨fuel, hf⟩ := h
  obtain ⟨ds, h1, h2⟩ := Rw (K := Kz) hcl Rj fuel t _ _ (G2 ht) hf
  cases fuel with
  | zero => exact h2.elim
  | succ n =>
    unfold Shp at h2
    rw [hu] at h2
    obtain ⟨l, rfl, _, h3⟩ := h2
    obtain ⟨u, us, h4, h5, h6⟩ := h1
    simp [Value.cells] at h4
    exact ⟨n, l, by rw [h4.1]; exact h5, h3⟩
variable {n : Nat} {ds : List DV}
theorem Ix {k : IntKind} (hu : P.underlying t = some (.int k)) (h : Shp P n t ds) : ∃ z, ds = [.v (.int k z)] /\ (Lit.int k z).wf = true := by
  cases n with
  | zero => exact h.elim
  | succ n => unfold Shp at h; rw [hu] at h; exact h
theorem Zh (hu : P.underlying t = some .string) (h : Shp P n t ds) : ∃ s : ByteArray, ds = [.v (.string s)] /\ s.size <= 9223372036854775807 := by
  cases n with
  | zero => exact h.elim
  | succ n => unfold Shp at h; rw [hu] at h; exact h
theorem Zg {e : TypeId} (hu : P.underlying t = some (.slice e)) (h : Shp P n t ds) : ∃ m l, n = m + 1 /\ ds = [.sl (P.cellsOf e) l] /\ ∀ x ∈ l, Shp P m e x := by
  cases n with
  | zero => exact h.elim
  | succ n => unfold Shp at h; rw [hu] at h; obtain ⟨l, h1, _, h2⟩ := h; exact ⟨n, l, rfl, h1, h2⟩
theorem Py {fs : Array Field} (hu : P.underlying t = some (.struct fs)) (h : Shp P n t ds) : ∃ m parts, n = m + 1 /\ ds = List.flatten parts /\ parts.length = fs.size /\ ∀ (i : Nat) (f : Field) (p : List DV), fs[i]? = some f -> parts[i]? = some p -> Shp P m f.type p := by
  cases n with
  | zero => exact h.elim
  | succ n => unfold Shp at h; rw [hu] at h; obtain ⟨l, h1, h2, h3⟩ := h; exact ⟨n, l, rfl, h1, h2, h3⟩
theorem J2 {α : Type} {R : α -> Prop} (f : α -> List DV) : ∀ {l : List (List DV)}, (∀ x ∈ l, ∃ a, x = f a /\ R a) -> ∃ zs : List α, l = zs.map f /\ ∀ a ∈ zs, R a
  | [], _ => ⟨[], rfl, fun _ h => by cases h⟩
  | x :: l, h => by
    obtain ⟨a, rfl, ha⟩ := h x List.mem_cons_self
    obtain ⟨zs, rfl, has⟩ := J2 f (l := l) fun y hy => h y (List.mem_cons_of_mem _ hy)
    refine ⟨a :: zs, rfl, fun b hb => ?_⟩
    rcases List.mem_cons.1 hb with rfl | hb
    . exact ha
    . exact has b hb
end
theorem An0 {parts : List (List DV)} (h : parts.length = 4) : ∃ a b c d, parts = [a, b, c, d] := by
  match parts, h with
  | [a, b, c, d], _ => exact ⟨a, b, c, d, rfl⟩
theorem parts5 {parts : List (List DV)} (h : parts.length = 5) : ∃ a b c d e, parts = [a, b, c, d, e] := by
  match parts, h with
  | [a, b, c, d, e], _ => exact ⟨a, b, c, d, e, rfl⟩
end Go.Proofs.YtiledamgmppcmaaGreatDoor
namespace Go.Proofs.YtiledamgmppcmaaGreatDoor
open Go.RowKit
theorem memS_yes {l : List ByteArray} {s : ByteArray} {i : Nat} (hx : l[i]? = some s) : Tz l s = true := by
  unfold Tz; rw [List.any_eq_true]; exact ⟨s, List.mem_of_getElem? hx, by simp⟩
set_option maxHeartbeats 400000 in
theorem in_do (l : List ByteArray) (s : ByteArray) : An 78 [.d (.sl 1 (l.map Xj)), .d (.v (.string s))] ⟨[], []⟩ (.ret (.d (.v (.bool (Tz l s))))) ⟨[], []⟩ := by
  refine G5 Tryz.func78 rfl rfl (Nat.le_of_ble_eq_true rfl) rfl (Nat.le_refl _) ?_
  intro hf
  have hl : l.length <= 9223372036854775807 := by have := hf.1; simpa [Amo] using this
  repeat' (first | refine rl5 ?_ | refine rs5 (fun h => ?_) (fun h => ?_) | fail)
  refine Bt (ι := Nat) (ok := fun i => i <= l.length /\ Tz (l.take i) s = false) (L := fun i => [(0, .d (.sl 1 (l.map Xj))), (1, .d (.v (.string s))), (5, .d (.v (.int .i64 i)))]) (Sx := fun _ => ⟨[], []⟩) (μ := fun i => l.length - i) 0 ⟨Nat.zero_le _, by simp [Tz]⟩ (by repeat (first | exact Ag | refine Ac rfl ?_)) rfl ?_
  rintro i ⟨hi, hm⟩
  repeat' (first | refine rl5 ?_ | refine rs5 (fun h => ?_) (fun h => ?_) | fail)
  simp only [List.length_map]
  refine Acm rfl (fun h => ?_) (fun h => ?_)
  . repeat' (first | refine rl5 ?_ | refine rs5 (fun h => ?_) (fun h => ?_) | fail)
    have hlt : i < l.length := by simpa using h
    obtain ⟨x, hx⟩ : ∃ x, l[i]? = some x := ⟨_, List.getElem?_eq_getElem hlt⟩
    refine wix (Xj x) rfl rfl rfl rfl rfl (Ku hx) (by omega) ?_
    repeat' (first | refine rl5 ?_ | refine rs5 (fun h => ?_) (fun h => ?_) | fail)
    refine Acm rfl (fun h2 => ?_) (fun h2 => ?_)
    . repeat' (first | refine rl5 ?_ | refine rs5 (fun h => ?_) (fun h => ?_) | fail)
      refine q15 ?_
      rw [memS_yes (by rw [hx]; congr 1; simpa using h2)]
    . repeat' (first | refine rl5 ?_ | refine rs5 (fun h => ?_) (fun h => ?_) | fail)
      exact ⟨i + 1, ⟨by omega, by rw [Ae0 hx hm]; exact h2⟩, by omega, by repeat (first | exact Ag | refine Ac rfl ?_), rfl⟩
  . repeat' (first | refine rl5 ?_ | refine rs5 (fun h => ?_) (fun h => ?_) | fail)
    refine q15 ?_
    rw [List.take_of_length_le (by simp at h; omega)] at hm
    rw [hm]
end Go.Proofs.YtiledamgmppcmaaGreatDoor
namespace Go.Proofs.YtiledamgmppcmaaGreatDoor
open Go.RowKit
theorem U5 (x : Ex) : An 63 [exP x] ⟨[], []⟩ (.ret (Ai (Ak x.op))) ⟨[], []⟩ := by
  refine Af Tryz.func63 rfl rfl (Nat.le_of_ble_eq_true rfl) rfl (Nat.le_refl _) ?_
  repeat' (first | refine rl0 ?_ | refine rs0 (fun h => ?_) (fun h => ?_) | fail)
  all_goals simp only [decide_eq_true_eq, decide_eq_false_iff_not] at *
  all_goals congr 4
  all_goals unfold Ak
  all_goals (repeat' split)
  all_goals omega
theorem Qp (op : Int) : An 64 [Ai op] ⟨[], []⟩ (.ret (By (C3 op))) ⟨[], []⟩ := by
  refine Af Tryz.func64 rfl rfl (Nat.le_of_ble_eq_true rfl) rfl (Nat.le_refl _) ?_
  repeat' (first | refine rl0 ?_ | refine rs0 (fun h => ?_) (fun h => ?_) | fail)
  all_goals simp only [decide_eq_true_eq, decide_eq_false_iff_not] at *
  all_goals congr 3
  all_goals simp_all [C3]
end Go.Proofs.YtiledamgmppcmaaGreatDoor
namespace Go.Proofs.YtiledamgmppcmaaGreatDoor
open Go.RowKit
theorem all_take {α : Type} {l : List α} {p : α -> Bool} {i : Nat} {x : α} (hx : l[i]? = some x) (h : (l.take i).all p = true) (hp : p x = true) : (l.take (i + 1)).all p = true := by
  obtain ⟨hlt, rfl⟩ := List.getElem?_eq_some_iff.1 hx
  rw [List.take_succ_eq_append_getElem hlt, List.all_append, h]; simp [hp]
theorem allB_no {α : Type} {l : List α} {p : α -> Bool} {i : Nat} {x : α} (hx : l[i]? = some x) (hp : p x = false) : l.all p = false := by
  rw [List.all_eq_false]; exact ⟨x, List.mem_of_getElem? hx, by simp [hp]⟩
set_option maxHeartbeats 1000000 in
theorem kind_do (vars : List ByteArray) : ∀ (n : Nat) (x : Ex), x.hgt <= n -> x.fits = true -> An 56 [exP x, D8 vars] ⟨[], []⟩ (.ret (Ai (Kr vars x))) ⟨[], []⟩ := by
  intro n
  induction n with
  | zero => intro a h; cases a; simp [Ex.hgt] at h
  | succ n ih =>
    intro x hn hx
    refine G5 Tryz.func56 rfl rfl (Nat.le_of_ble_eq_true rfl) rfl (Nat.le_refl _) ?_
    intro hf
    have hfit : x.args.length <= 9223372036854775807 := by rw [<- A6]; exact hf.1.2.2.2.1
    have hvar : vars.length <= 9223372036854775807 := by have := hf.2.1; simpa [Amo] using this
    repeat' (first | refine rl4 ?_ | refine rs4 (fun h => ?_) (fun h => ?_) | fail)
    refine Ln (ι := Int × Int) (ok := fun p => p = (Zz x.op, isZ x.op) /\ x.op ≠ 19 /\ ¬ (x.op = 2 /\ Tz vars x.name = false)) (L := fun p => [(1, D8 vars), (2, .ptr 0 0), (5, Ai p.1), (6, Ai p.2)]) (Sx := fun _ => ⟨[(exP x).parts], []⟩) ?_ ?_
    . repeat' (first | refine rl0 ?_ | refine rs0 (fun h => ?_) (fun h => ?_) | fail)
      . refine D3 (in_do vars x.name) rfl rfl rfl rfl rfl (by repeat (first | exact Ad | refine Aa (Ab _) ?_)) ?_
        repeat' (first | refine rl0 ?_ | refine rs0 (fun h => ?_) (fun h => ?_) | fail)
        . rw [My, if_pos (by simp_all)]
        . refine ⟨(_, _), ?_, (by repeat (first | exact Ag | refine Ac rfl ?_)), rfl⟩
          simp_all [Zz, isZ]
      rotate_right 2
      . obtain ⟨a, b, c, he⟩ := args3 hx (by simpa using h)
        have ha := fun y (hy : y ∈ x.args) => ih y (by have := Mn hy; omega) (Abw hx hy)
        refine Ib _ rfl rfl rfl rfl rfl (Cf (i := 0) (x := a) (by rw [he]; rfl)) (by omega) ?_
        repeat' (first | refine rl0 ?_ | refine rs0 (fun h => ?_) (fun h => ?_) | fail)
        refine wcn (ha a (by rw [he]; simp)) rfl rfl rfl rfl rfl (by repeat (first | exact Ad | refine Aa (Ab _) ?_)) ?_
        repeat' (first | refine rl0 ?_ | refine rs0 (fun h => ?_) (fun h => ?_) | fail)
        refine Ib _ rfl rfl rfl rfl rfl (Cf (i := 1) (x := b) (by rw [he]; rfl)) (by omega) ?_
        repeat' (first | refine rl0 ?_ | refine rs0 (fun h => ?_) (fun h => ?_) | fail)
        refine wcn (ha b (by rw [he]; simp)) rfl rfl rfl rfl rfl (by repeat (first | exact Ad | refine Aa (Ab _) ?_)) ?_
        repeat' (first | refine rl0 ?_ | refine rs0 (fun h => ?_) (fun h => ?_) | fail)
        refine Ib _ rfl rfl rfl rfl rfl (Cf (i := 2) (x := c) (by rw [he]; rfl)) (by omega) ?_
        repeat' (first | refine rl0 ?_ | refine rs0 (fun h => ?_) (fun h => ?_) | fail)
        refine wcn (ha c (by rw [he]; simp)) rfl rfl rfl rfl rfl (by repeat (first | exact Ad | refine Aa (Ab _) ?_)) ?_
        repeat' (first | refine rl0 ?_ | refine rs0 (fun h => ?_) (fun h => ?_) | fail)
        all_goals rw [My vars x, he]
        all_goals simp_all [J5]
      . refine ⟨(_, _), ?_, (by repeat (first | exact Ag | refine Ac rfl ?_)), rfl⟩
        simp only [decide_eq_true_eq, decide_eq_false_iff_not] at *
        simp_all [Zz, isZ]
        omega
      all_goals refine ⟨(_, _), ?_, (by repeat (first | exact Ag | refine Ac rfl ?_)), rfl⟩
      all_goals simp only [decide_eq_true_eq, decide_eq_false_iff_not] at *
      all_goals simp_all [Zz, isZ]
    . rintro _ ⟨rfl, h19, h2⟩
      have hk : Kr vars x = if (J5 vars x.args).all (· == Zz x.op) then isZ x.op else 0 := by rw [My, if_neg h2, if_neg h19]
      repeat' (first | refine rl0 ?_ | refine rs0 (fun h => ?_) (fun h => ?_) | fail)
      refine Bt (ι := Nat) (ok := fun i => i <= x.args.length /\ ((J5 vars x.args).take i).all (· == Zz x.op) = true) (L := fun i => [(1, D8 vars), (2, .ptr 0 0), (5, Ai (Zz x.op)), (6, Ai (isZ x.op)), (10, Ai i)]) (Sx := fun _ => ⟨[(exP x).parts], []⟩) (μ := fun i => x.args.length - i) 0 ⟨Nat.zero_le _, by simp⟩ (by repeat (first | exact Ag | refine Ac rfl ?_)) rfl ?_
      rintro i ⟨hi, hm⟩
      repeat' (first | refine rl0 ?_ | refine rs0 (fun h => ?_) (fun h => ?_) | fail)
      . have hlt : i < x.args.length := by rw [A6] at h; simpa using h
        obtain ⟨y, hy⟩ : ∃ y, x.args[i]? = some y := ⟨_, List.getElem?_eq_getElem hlt⟩
        refine wix _ rfl rfl rfl rfl rfl (Cf hy) (by omega) ?_
        repeat' (first | refine rl0 ?_ | refine rs0 (fun h => ?_) (fun h => ?_) | fail)
        have hy2 := List.mem_of_getElem? hy
        have hy3 : (J5 vars x.args)[i]? = some (Kr vars y) := by rw [Pi]; simp [hy]
        refine D3 (ih y (by have := Mn hy2; omega) (Abw hx hy2)) rfl rfl rfl rfl rfl (by repeat (first | exact Ad | refine Aa (Ab _) ?_)) ?_
        repeat' (first | refine rl0 ?_ | refine rs0 (fun h => ?_) (fun h => ?_) | fail)
        . rw [hk, allB_no hy3 (by simp_all)]; rfl
        . exact ⟨i + 1, ⟨by omega, all_take hy3 hm (by simp_all)⟩, by omega, (by repeat (first | exact Ag | refine Ac rfl ?_)), rfl⟩
      . rw [List.take_of_length_le (by rw [Pi]; rw [A6] at h; simp at h |-; omega)] at hm
        rw [hk, hm]; rfl
end Go.Proofs.YtiledamgmppcmaaGreatDoor
namespace Go.Proofs.YtiledamgmppcmaaGreatDoor
open Go.RowKit
theorem Cg (c : UInt8) (w : World) : Calls Tryz.prog 104 #[.int .u8 (c.toNat : Int)] w fun e w' => e = .returned (.bool (B7 c)) /\ w = w' := by
  by_cases h1 : 97 <= (c.toNat : Int)
  . go_enter Tryz.func104, Tryz.ntmps104
    go_wp2
    go_ret
    exact ⟨Au (by simp [B7, h1]), rfl⟩
  . go_enter Tryz.func104, Tryz.ntmps104
    go_wp2
    go_ret
    exact ⟨Au (by rw [Ht (by omega)]), rfl⟩
theorem Es (c : UInt8) (w : World) : Calls Tryz.prog 106 #[.int .u8 (c.toNat : Int)] w fun e w' => e = .returned (.bool (Bi c)) /\ w = w' := by
  by_cases h1 : 48 <= (c.toNat : Int)
  . go_enter Tryz.func106, Tryz.ntmps106
    go_wp2
    go_ret
    exact ⟨Au (by simp [Bi, h1]), rfl⟩
  . go_enter Tryz.func106, Tryz.ntmps106
    go_wp2
    go_ret
    exact ⟨Au (by rw [M6 (by omega)]), rfl⟩
theorem Jv (c : UInt8) (w : World) : Calls Tryz.prog 103 #[.int .u8 (c.toNat : Int)] w fun e w' => e = .returned (.bool (B9 c)) /\ w = w' := by
  have HP : Hid (B9 c = (B7 c || Bi c || Ov c)) := Lib.hid rfl
  have HU : Hid (Ov c = ((c.toNat : Int) == 95)) := Lib.hid (by rw [Bool.eq_iff_iff]; simp [Ov]; omega)
  cases h1 : B7 c <;> cases h2 : Bi c
  all_goals
    go_enter Tryz.func103, Tryz.ntmps103
    go_wp2_with (first | (go_at_call 104; refine (Cg _ _).mono ?_; rintro e w' ⟨rfl, rfl⟩) | (go_at_call 106; refine (Es _ _).mono ?_; rintro e w' ⟨rfl, rfl⟩))
    go_ret
    exact ⟨Au (by rw [HP.out, HU.out, h1, h2]; simp), rfl⟩
theorem Gv (b n c : Nat) (zs : List ByteArray) (x : ByteArray) (w : World) (hz : zs.length = n) (hbig : n <= 1000000)
    (hc : ∀ j, j < n -> w.cell? ⟨b, j, none⟩ = some (.string (zs.getD j ByteArray.empty))) :
    Calls Tryz.prog 105 #[.slice (some ⟨b, 0, none⟩) n c, .string x] w fun e w' => e = .returned (.bool (Q0 zs x)) /\ w = w' := by
  have HZ := Lib.hid hz
  have hz' : n <= zs.length := by omega
  clear hz
  go_enter Tryz.func105, Tryz.ntmps105
  go_wp2
  go_loop [5] (fun i => ∃ k : Nat, k <= n /\ i = .int .i64 k /\ Q0 (zs.take k) x = false) (fun i => n - (intOf i).toNat)
  case atStart => exact ⟨0, Nat.zero_le _, rfl, by simp [Q0]⟩
  case round =>
    obtain ⟨k, hk, rfl, hm⟩ := hrel
    have hcell : k < n -> w.cell? ⟨b, k, none⟩ = some (.string (zs.getD k ByteArray.empty)) := fun h => hc k h
    have HM := Lib.hid hm
    clear hm hc
    go_wp2
    . rename_i hlt _ _ heq _
      go_ret
      exact ⟨Au (Xx zs x k (by omega) (by simpa using (beq_iff_eq.1 heq).symm)).symm, rfl⟩
    . rename_i hlt hne
      refine ⟨⟨k + 1, by omega, by simp, ?_⟩, by simp [intOf]; omega⟩
      exact U9 zs x k (by omega) HM.out (fun h => absurd h.symm (by simpa using hne))
    . rename_i hge _
      go_ret
      refine ⟨Au ?_, rfl⟩
      have hk : k = zs.length := by have := HZ.out; omega
      have h := HM.out
      rw [hk, List.take_length] at h
      exact h.symm
end Go.Proofs.YtiledamgmppcmaaGreatDoor
namespace Go.Proofs.YtiledamgmppcmaaGreatDoor
open Go.RowKit
theorem Dj (w : World) :
    Calls Tryz.prog 58 #[] w fun e w' => e = .returned (.slice (some ⟨w.heap.size, 0, none⟩) 23 23) /\ w.alloc (.cells Cm 9) = w' := by
  go_enter Tryz.func58, Tryz.ntmps58
  go_wp2
  go_ret
  exact ⟨rfl, rfl⟩
set_option maxHeartbeats 1000000 in
theorem Nw (s : ByteArray) (w : World) (hs : s.size <= 9223372036854775807) :
    Calls Tryz.prog 142 #[.string s] w fun e w' => e = .returned (.bool (Ei s.data.toList)) /\ Below w.heap.size w w' := by
  have hlen : s.data.toList.length = s.size := by simp
  have HL := Lib.hid hlen
  clear hlen
  by_cases h1 : s.size < 1
  . have HF : Hid (Ei s.data.toList = false) := Lib.hid (by
      have hz : s.toList = [] := Ce (by omega)
      rw [Ea, <- Df, hz]; rfl)
    go_enter Tryz.func142, Tryz.ntmps142
    go_wp2
    go_ret
    exact ⟨Au HF.out.symm, Below.refl _ _⟩
  . have hp : 0 < s.size := by omega
    have HH := Lib.hid (Tx hp)
    by_cases h2 : 12 < s.size
    . have HF : Hid (Ei s.data.toList = false) := Lib.hid (by
        rw [Ea, decide_eq_false (by rw [HL.out]; omega)]; simp)
      go_enter Tryz.func142, Tryz.ntmps142
      go_wp2
      go_ret
      exact ⟨Au HF.out.symm, Below.refl _ _⟩
    . cases h3 : B7 s[0]
      . have HF : Hid (Ei s.data.toList = false) := Lib.hid (by
          rw [Ea, HH.out]; simp [h3])
        go_enter Tryz.func142, Tryz.ntmps142
        go_wp2_with (go_at_call 104; refine (Cg _ _).mono ?_; rintro e w' ⟨rfl, rfl⟩)
        go_ret
        exact ⟨Au HF.out.symm, Below.refl _ _⟩
      . cases h4 : Q0 Cc s
        . have HG : Hid (Ei s.data.toList = s.data.toList.all B9) := Lib.hid (by
            rw [Ea, HH.out, <- Cx, h4]; simp [h3]; intro _; omega)
          go_enter Tryz.func142, Tryz.ntmps142
          go_wp2_with (first | (go_at_call 104; refine (Cg _ _).mono ?_; rintro e w' ⟨rfl, rfl⟩) | (go_at_call 58; refine (Dj _).mono ?_; rintro e w' ⟨rfl, rfl⟩) | (go_at_call 105; refine (Gv _ 23 _ Cc _ _ rfl (by omega) (F3 _)).mono ?_; rintro e w' ⟨rfl, rfl⟩))
          go_loop [3] (fun i => ∃ k : Nat, k <= s.size /\ i = .int .i64 k /\ (s.data.toList.take k).all B9 = true) (fun i => s.size - (intOf i).toNat)
          case atStart => exact ⟨0, by omega, rfl, by simp⟩
          case round =>
            obtain ⟨k, hk, rfl, hm⟩ := hrel
            have HM := Lib.hid hm
            clear hm h3 h4
            by_cases hlt : k < s.size
            . have hl : k < s.data.toList.length := by simpa using hlt
              cases h5 : B9 s[k]
              . have HF : Hid (s.data.toList.all B9 = false) := Lib.hid (Il hl h5)
                go_wp2_with (go_at_call 103; refine (Jv _ _).mono ?_; rintro e w' ⟨rfl, rfl⟩)
                go_ret
                exact ⟨Au (by rw [HG.out, HF.out]), (Below.refl _ _).alloc (Nat.le_refl _) _⟩
              . have HP : Hid (B9 s.data.toList[k] = true) := Lib.hid h5
                go_wp2_with (go_at_call 103; refine (Jv _ _).mono ?_; rintro e w' ⟨rfl, rfl⟩)
                go_round
                case rel => exact ⟨k + 1, by omega, by go_num, Mq hl HM.out HP.out⟩
                case measure => simp [intOf]; omega
            . have HA : Hid (s.data.toList.all B9 = true) := Lib.hid (Qt (by simp; omega) HM.out)
              go_wp2
              go_ret
              exact ⟨Au (by rw [HG.out, HA.out]), (Below.refl _ _).alloc (Nat.le_refl _) _⟩
        . have HF : Hid (Ei s.data.toList = false) := Lib.hid (by
            rw [Ea, <- Cx, h4]; simp)
          go_enter Tryz.func142, Tryz.ntmps142
          go_wp2_with (first | (go_at_call 104; refine (Cg _ _).mono ?_; rintro e w' ⟨rfl, rfl⟩) | (go_at_call 58; refine (Dj _).mono ?_; rintro e w' ⟨rfl, rfl⟩) | (go_at_call 105; refine (Gv _ 23 _ Cc _ _ rfl (by omega) (F3 _)).mono ?_; rintro e w' ⟨rfl, rfl⟩))
          go_ret
          exact ⟨Au HF.out.symm, (Below.refl _ _).alloc (Nat.le_refl _) _⟩
end Go.Proofs.YtiledamgmppcmaaGreatDoor
namespace Go.Proofs.YtiledamgmppcmaaGreatDoor
open Go.RowKit
set_option maxHeartbeats 2000000 in
theorem B2 (op : Int) (w : World) :
    Calls Tryz.prog 141 #[.int .i64 op] w fun e w' => e = .returned (.int .i64 (Fl op)) /\ w = w' := by
  by_cases h : 1 <= op /\ op <= 19
  . obtain ⟨k, rfl⟩ := Int.eq_ofNat_of_zero_le (show 0 <= op by omega)
    obtain rfl | rfl | rfl | rfl | rfl | rfl | rfl | rfl | rfl | rfl | rfl | rfl | rfl | rfl | rfl | rfl | rfl | rfl | rfl : k = 1 \/ k = 2 \/ k = 3 \/ k = 4 \/ k = 5 \/ k = 6 \/ k = 7 \/ k = 8 \/ k = 9 \/ k = 10 \/ k = 11 \/ k = 12 \/ k = 13 \/ k = 14 \/ k = 15 \/ k = 16 \/ k = 17 \/ k = 18 \/ k = 19 := by omega
    all_goals
      go_enter Tryz.func141, Tryz.ntmps141
      go_wp2
      go_ret
      exact ⟨rfl, rfl⟩
  . have HA := Lib.hid (Um op (by omega))
    have h1 : (op == 1) = false := by simp; omega
    have h2 : (op == 2) = false := by simp; omega
    have h3 : (op == 3) = false := by simp; omega
    have h4 : (op == 4) = false := by simp; omega
    have h5 : (op == 5) = false := by simp; omega
    have h6 : (op == 6) = false := by simp; omega
    have h7 : (op == 7) = false := by simp; omega
    have h8 : (op == 8) = false := by simp; omega
    have h9 : (op == 9) = false := by simp; omega
    have h10 : (op == 10) = false := by simp; omega
    have h11 : (op == 11) = false := by simp; omega
    have h12 : (op == 12) = false := by simp; omega
    have h13 : (op == 13) = false := by simp; omega
    have h14 : (op == 14) = false := by simp; omega
    have h15 : (op == 15) = false := by simp; omega
    have h16 : (op == 16) = false := by simp; omega
    have h17 : (op == 17) = false := by simp; omega
    have h18 : (op == 18) = false := by simp; omega
    have h19 : (op == 19) = false := by simp; omega
    clear h
    go_enter Tryz.func141, Tryz.ntmps141
    go_wp2
    go_ret
    exact ⟨by rw [HA.out]; rfl, rfl⟩
theorem O4 (l : List UInt8) : (B5 1 l 0 = 0) <-> Ei l = true := by
  unfold B5 Ay
  rw [if_pos rfl]
  cases h : Ei l with
  | true => simp
  | false => simp
mutual
theorem Mm (left d k : Nat) : (x : Ex) -> vis left d x = some k -> k <= left
  | .mk op n nm l => by
    rw [Tu]
    intro h
    split at h
    . cases h
    . exact Nat.le_trans (Sk _ _ _ l h) (Nat.sub_le _ _)
theorem Sk (left d k : Nat) : (l : List Ex) -> Dt left d l = some k -> k <= left
  | [] => by simp [Dt]; omega
  | x :: r => by
    rw [Dt]
    intro h
    cases hv : vis left d x with
    | none => rw [hv] at h; cases h
    | some m => rw [hv] at h; exact Nat.le_trans (Sk _ _ _ r h) (Mm _ _ _ x hv)
end
def L9 : Option Nat -> Int
  | none => -1
  | some k => k
set_option maxRecDepth 100000 in
set_option maxHeartbeats 4000000 in
theorem O6 {w : World} {sl : Value} {args : List Ex} (h : ArgsAt w sl args) : ∀ (x : Ex) (left d : Nat) (W : World), x.args = args -> x.name.size <= 9223372036854775807 -> left <= 60 -> d <= 13 -> Below w.heap.size w W ->
    Calls Tryz.prog 98 #[x.val sl, .int .i64 left, .int .i64 d] W fun e w' => e = .returned (.int .i64 (L9 (vis left d x))) /\ Below W.heap.size W w' := by
  induction h with
  | mk p cap args S hcap hmax hfit hname hargs ih =>
    intro x left d W hxa hxn hleft hd hbW
    obtain ⟨op, n, nm, l⟩ := x
    obtain rfl : l = args := hxa
    simp only [Ex.val, Ex.op, Ex.n, Ex.name] at hxn |-
    have HBW := Lib.hid hbW
    have HV := Lib.hid (Tu left d (.mk op n nm l))
    have HIH := Lib.hid ih
    clear ih hbW
    obtain ⟨W1, hW1⟩ : ∃ W1, W.alloc (.cells #[.int .i64 op, .int .i64 n, .string nm, .slice p l.length cap] 24) = W1 := ⟨_, rfl⟩
    have hb1 : Below W.heap.size W W1 := by rw [<- hW1]; exact (Below.refl _ _).alloc (Nat.le_refl _) _
    have hrow : W1.heap[W.heap.size]? = some (.cells #[.int .i64 op, .int .i64 n, .string nm, .slice p l.length cap] 24 (0, 0)) := by rw [<- hW1]; exact heap_alloc_new W _
    have c0 : W1.cell? ⟨W.heap.size, 0, none⟩ = some (.int .i64 op) := cell_of_row _ _ _ _ _ _ hrow
    have c1 : W1.cell? ⟨W.heap.size, 1, none⟩ = some (.int .i64 n) := cell_of_row _ _ _ _ _ _ hrow
    have c2 : W1.cell? ⟨W.heap.size, 2, none⟩ = some (.string nm) := cell_of_row _ _ _ _ _ _ hrow
    have c3 : W1.cell? ⟨W.heap.size, 3, none⟩ = some (.slice p l.length cap) := cell_of_row _ _ _ _ _ _ hrow
    have l0 := Br c0
    have l3 := Br c3
    have HW1 := Lib.hid hW1
    have HB1 := Lib.hid hb1
    have HC0 := Lib.hid c0
    have HC1 := Lib.hid c1
    have HC2 := Lib.hid c2
    have HC3 := Lib.hid c3
    clear hW1 hb1 hrow c0 c1 c2 c3
    obtain ⟨A, hAr⟩ : ∃ A, Fl op = A := ⟨_, rfl⟩
    have HAR := Lib.hid hAr
    have HP3 : Hid (¬ (A = (l.length : Int)) -> Cl (.mk op n nm l) = false) := Lib.hid (fun h => Ns (by rw [hAr]; omega))
    clear hAr
    by_cases g1 : left = 0
    . have HA : Hid (L9 (vis left d (.mk op n nm l)) = -1) := Lib.hid (by rw [HV.out, if_pos (.inl g1)]; rfl)
      subst g1
      have hd1 : decide (((0 : Nat) : Int) < 1) = true := rfl
      go_enter Tryz.func98, Tryz.ntmps98
      go_wp2_with fail
      rw [HW1.out]
      refine Al (by kernel_rfl) (by kernel_rfl) ?_
      repeat (go_big_quiet_step ((go_at_call 141; exact Calls.later_of ((B2 _ _).mono fun _ _ ⟨he, hw⟩ => ⟨by rw [he, HAR.out], by rw [<- hw]; exact Below.refl _ _⟩))))
      refine wpQuiet_nil ?_
      intro w2 hb2
      go_wp2
      go_ret
      exact ⟨by rw [HA.out]; rfl, HB1.out.trans (hb2.mono HB1.out.size)⟩
    . have hd1 : decide ((left : Int) < 1) = false := by simp; omega
      by_cases g2 : 12 < d
      . have HA : Hid (L9 (vis left d (.mk op n nm l)) = -1) := Lib.hid (by rw [HV.out, if_pos (.inr (.inl g2))]; rfl)
        have hd2 : decide (12 < (d : Int)) = true := by simp; omega
        go_enter Tryz.func98, Tryz.ntmps98
        go_wp2_with fail
        rw [HW1.out]
        refine Al (by kernel_rfl) (by kernel_rfl) ?_
        repeat (go_big_quiet_step ((go_at_call 141; exact Calls.later_of ((B2 _ _).mono fun _ _ ⟨he, hw⟩ => ⟨by rw [he, HAR.out], by rw [<- hw]; exact Below.refl _ _⟩))))
        refine wpQuiet_nil ?_
        intro w2 hb2
        go_wp2
        go_ret
        exact ⟨by rw [HA.out]; rfl, HB1.out.trans (hb2.mono HB1.out.size)⟩
      . have hd2 : decide (12 < (d : Int)) = false := by simp; omega
        by_cases g3 : A = (l.length : Int)
        . subst g3
          have hd3 : (((l.length : Int)) != (l.length : Int)) = false := by simp
          by_cases e1 : op = 2
          . obtain ⟨nb, hnb⟩ : ∃ nb, Ei nm.data.toList = nb := ⟨_, rfl⟩
            have HNB := Lib.hid hnb
            have HQ : Hid (Cl (.mk op n nm l) = (nb && decide (n = 0))) := Lib.hid (by
              rw [Bool.eq_iff_iff, I6, if_pos e1, O4, hnb, Bool.and_eq_true, decide_eq_true_eq]
              exact ⟨fun h => ⟨h.2.2.2.2, by omega⟩, fun h => ⟨HAR.out.symm, by omega, by omega, .inl h.2, h.1⟩⟩)
            clear hnb
            subst e1
            go_enter Tryz.func98, Tryz.ntmps98
            go_wp2_with fail
            rw [HW1.out]
            refine Al (by kernel_rfl) (by kernel_rfl) ?_
            repeat (go_big_quiet_step ((go_at_call 141; exact Calls.later_of ((B2 _ _).mono fun _ _ ⟨he, hw⟩ => ⟨by rw [he, HAR.out], by rw [<- hw]; exact Below.refl _ _⟩))))
            refine wpQuiet_nil ?_
            intro w2 hb2
            have k0 := Ae hb2 HC0.out
            have k1 := Ae hb2 HC1.out
            have k2 := Ae hb2 HC2.out
            have k3 := Ae hb2 HC3.out
            have HB2 := Lib.hid (HB1.out.trans (hb2.mono HB1.out.size))
            clear hb2
            go_wp2_with fail
            refine (Nw nm _ hxn).mono ?_
            rintro e w3 ⟨rfl, hb3⟩
            rw [HNB.out]
            have m0 := Ae hb3 k0
            have m1 := Ae hb3 k1
            have m2 := Ae hb3 k2
            have m3 := Ae hb3 k3
            have HB3 := Lib.hid (HB2.out.trans (hb3.mono HB2.out.size))
            clear hb3 k0 k1 k2 k3
            cases nb with
            | false =>
              have HA : Hid (L9 (vis left d (.mk 2 n nm l)) = -1) := Lib.hid (by rw [HV.out, if_pos (.inr (.inr (by rw [HQ.out]; rfl)))]; rfl)
              go_wp2
              go_ret
              exact ⟨by rw [HA.out]; rfl, HB3.out⟩
            | true =>
              by_cases e2 : n = 0
              . subst e2
                have HVL : Hid (vis left d (.mk 2 0 nm l) = Dt (left - 1) (d + 1) l) := Lib.hid (by rw [HV.out, if_neg (by rw [HQ.out]; simp; omega)]; rfl)
                have hl1 : (left : Int) - 1 = ((left - 1 : Nat) : Int) := by omega
                go_wp2_with fail
                go_loopw [1, 7] (fun c i wr => ∃ j k : Nat, j <= l.length /\ k <= 60 /\ c = .int .i64 k /\ i = .int .i64 j /\ Dt k (d + 1) (l.drop j) = vis left d (.mk 2 0 nm l) /\ Below w3.heap.size w3 wr) (fun _ i _ => l.length - (intOf i).toNat)
                case atStart => exact ⟨0, left - 1, Nat.zero_le _, by omega, by rw [<- hl1], rfl, HVL.out.symm, Below.refl _ _⟩
                case round =>
                  obtain ⟨j, k, hj, hk, rfl, rfl, hvl, hB⟩ := hrel
                  have HVJ := Lib.hid hvl
                  have HB := Lib.hid hB
                  have q3 := Ae hB m3
                  clear hvl hB m0 m1 m2 m3
                  by_cases hlt : j < l.length
                  . obtain ⟨a, ha⟩ : ∃ a, l[j]? = some a := ⟨_, List.getElem?_eq_getElem hlt⟩
                    have hbw : Below w.heap.size w wr := HBW.out.trans ((HB3.out.trans (HB.out.mono HB3.out.size)).mono HBW.out.size)
                    obtain ⟨pj, cj, Sj, hSj, -⟩ := (hargs j a ha).inv
                    have hsub := HIH.out j a ha a k (d + 1) wr rfl (hname j a ha) hk (by omega) hbw
                    rw [hSj] at hsub
                    have hdr : Dt k (d + 1) (l.drop j) = match vis k (d + 1) a with | none => none | some m => Dt m (d + 1) (l.drop (j + 1)) := by
                      obtain ⟨hj', rfl⟩ := List.getElem?_eq_some_iff.1 ha
                      rw [List.drop_eq_getElem_cons hj', Dt]
                      all_goals (cases vis k (d + 1) l[j] <;> rfl)
                    have hle := fun m => Mm k (d + 1) m a
                    obtain ⟨b, o, rfl, hc⟩ := hfit (by rintro rfl; simp at hlt)
                    obtain ⟨r0, r1, r2, r3⟩ := hc j a ha
                    have s0 := Ae hbw r0
                    have s1 := Ae hbw r1
                    have s2 := Ae hbw r2
                    have s3 := Ae hbw r3
                    rw [hSj] at s3
                    obtain ⟨V, hV⟩ : ∃ V, vis k (d + 1) a = V := ⟨_, rfl⟩
                    rw [hV] at hsub hdr
                    have HLE := Lib.hid (fun m h => hle m (hV.trans h))
                    have HDR := Lib.hid hdr
                    have HSUB := Lib.hid hsub
                    obtain ⟨oa, na, nma, la⟩ := a
                    simp only [Ex.op, Ex.n, Ex.name, Ex.args] at s0 s1 s2 s3
                    clear r0 r1 r2 r3 hc ha hSj hsub hdr hle hV hbw
                    go_wp2_with fail
                    refine HSUB.out.mono ?_
                    rintro e w5 ⟨rfl, hb5⟩
                    have HB5 := Lib.hid (HB.out.trans (hb5.mono HB.out.size))
                    have q5 := Ae hb5 q3
                    clear hb5 q3 s0 s1 s2 s3 HB
                    cases V with
                    | none =>
                      simp only [L9]
                      go_wp2
                      go_ret
                      have h := HVJ.out
                      rw [HDR.out] at h
                      exact ⟨by rw [<- h]; rfl, HB3.out.trans (HB5.out.mono HB3.out.size)⟩
                    | some m =>
                      have hm := HLE.out m rfl
                      simp only [L9]
                      go_wp2
                      go_roundw
                      case rel => exact ⟨j + 1, m, by omega, by omega, rfl, by go_num, by have h := HVJ.out; rw [HDR.out] at h; exact h, HB5.out⟩
                      case measure => simp [intOf]; omega
                  . obtain rfl : j = l.length := by omega
                    go_wp2
                    go_ret
                    have h := HVJ.out
                    rw [List.drop_length, Dt] at h
                    exact ⟨by rw [<- h]; rfl, HB3.out.trans (HB.out.mono HB3.out.size)⟩
              . have HA : Hid (L9 (vis left d (.mk 2 n nm l)) = -1) := Lib.hid (by rw [HV.out, if_pos (.inr (.inr (by rw [HQ.out]; simp [e2])))]; rfl)
                have hd4 : (n != 0) = true := by simpa using e2
                go_wp2
                go_ret
                exact ⟨by rw [HA.out]; rfl, HB3.out⟩
          . have hq : Cl (.mk op n nm l) = true <-> (0 <= n /\ n <= 9999 /\ (n = 0 \/ op = 1) /\ nm.size = 0) := by
              rw [I6, if_neg e1]
              exact ⟨fun h => h.2, fun h => ⟨HAR.out.symm, h⟩⟩
            have HNO : Hid (¬ (0 <= n /\ n <= 9999 /\ (n = 0 \/ op = 1) /\ nm.size = 0) -> L9 (vis left d (.mk op n nm l)) = -1) := Lib.hid (fun h => by
              rw [HV.out, if_pos (.inr (.inr (by cases hp : Cl (.mk op n nm l) with | false => rfl | true => exact absurd (hq.1 hp) h)))]; rfl)
            have HQ := Lib.hid hq
            clear hq
            have hop2 : (op == 2) = false := by simpa using e1
            have hop2' : (op != 2) = true := by simpa using e1
            by_cases e2 : nm.size = 0
            . have hnm := Ce e2
              by_cases e3 : n = 0 \/ op = 1
              . by_cases e4 : n < 0
                . have HA := Lib.hid (HNO.out (by omega))
                  by_cases e6 : n = 0
                  . omega
                  . obtain rfl : op = 1 := by omega
                    go_enter Tryz.func98, Tryz.ntmps98
                    go_wp2_with fail
                    rw [HW1.out]
                    refine Al (by kernel_rfl) (by kernel_rfl) ?_
                    repeat (go_big_quiet_step ((go_at_call 141; exact Calls.later_of ((B2 _ _).mono fun _ _ ⟨he, hw⟩ => ⟨by rw [he, HAR.out], by rw [<- hw]; exact Below.refl _ _⟩))))
                    refine wpQuiet_nil ?_
                    intro w2 hb2
                    have k0 := Ae hb2 HC0.out
                    have k1 := Ae hb2 HC1.out
                    have k2 := Ae hb2 HC2.out
                    have k3 := Ae hb2 HC3.out
                    have HB2 := Lib.hid (HB1.out.trans (hb2.mono HB1.out.size))
                    clear hb2
                    go_wp2
                    go_ret
                    exact ⟨by rw [HA.out]; rfl, HB2.out⟩
                . by_cases e5 : 9999 < n
                  . have HA := Lib.hid (HNO.out (by omega))
                    obtain rfl : op = 1 := by omega
                    go_enter Tryz.func98, Tryz.ntmps98
                    go_wp2_with fail
                    rw [HW1.out]
                    refine Al (by kernel_rfl) (by kernel_rfl) ?_
                    repeat (go_big_quiet_step ((go_at_call 141; exact Calls.later_of ((B2 _ _).mono fun _ _ ⟨he, hw⟩ => ⟨by rw [he, HAR.out], by rw [<- hw]; exact Below.refl _ _⟩))))
                    refine wpQuiet_nil ?_
                    intro w2 hb2
                    have k0 := Ae hb2 HC0.out
                    have k1 := Ae hb2 HC1.out
                    have k2 := Ae hb2 HC2.out
                    have k3 := Ae hb2 HC3.out
                    have HB2 := Lib.hid (HB1.out.trans (hb2.mono HB1.out.size))
                    clear hb2
                    go_wp2
                    go_ret
                    exact ⟨by rw [HA.out]; rfl, HB2.out⟩
                  . have HQY := Lib.hid (HQ.out.2 ⟨by omega, by omega, e3, e2⟩)
                    by_cases e6 : n = 0
                    . subst e6
                      by_cases e7 : op = 1
                      . subst e7
                        go_enter Tryz.func98, Tryz.ntmps98
                        go_wp2_with fail
                        rw [HW1.out]
                        refine Al (by kernel_rfl) (by kernel_rfl) ?_
                        repeat (go_big_quiet_step ((go_at_call 141; exact Calls.later_of ((B2 _ _).mono fun _ _ ⟨he, hw⟩ => ⟨by rw [he, HAR.out], by rw [<- hw]; exact Below.refl _ _⟩))))
                        refine wpQuiet_nil ?_
                        intro w2 hb2
                        have k0 := Ae hb2 HC0.out
                        have k1 := Ae hb2 HC1.out
                        have k2 := Ae hb2 HC2.out
                        have k3 := Ae hb2 HC3.out
                        have HB2 := Lib.hid (HB1.out.trans (hb2.mono HB1.out.size))
                        clear hb2
                        have HVL : Hid (vis left d (.mk 1 0 nm l) = Dt (left - 1) (d + 1) l) := Lib.hid (by rw [HV.out, if_neg (by rw [HQY.out]; simp; omega)]; rfl)
                        have hl1 : (left : Int) - 1 = ((left - 1 : Nat) : Int) := by omega
                        go_wp2_with fail
                        go_loopw [1, 7] (fun c i wr => ∃ j k : Nat, j <= l.length /\ k <= 60 /\ c = .int .i64 k /\ i = .int .i64 j /\ Dt k (d + 1) (l.drop j) = vis left d (.mk 1 0 nm l) /\ Below w2.heap.size w2 wr) (fun _ i _ => l.length - (intOf i).toNat)
                        case atStart => exact ⟨0, left - 1, Nat.zero_le _, by omega, by rw [<- hl1], rfl, HVL.out.symm, Below.refl _ _⟩
                        case round =>
                          obtain ⟨j, k, hj, hk, rfl, rfl, hvl, hB⟩ := hrel
                          have HVJ := Lib.hid hvl
                          have HB := Lib.hid hB
                          have q3 := Ae hB k3
                          clear hvl hB k0 k1 k2 k3
                          by_cases hlt : j < l.length
                          . obtain ⟨a, ha⟩ : ∃ a, l[j]? = some a := ⟨_, List.getElem?_eq_getElem hlt⟩
                            have hbw : Below w.heap.size w wr := HBW.out.trans ((HB2.out.trans (HB.out.mono HB2.out.size)).mono HBW.out.size)
                            obtain ⟨pj, cj, Sj, hSj, -⟩ := (hargs j a ha).inv
                            have hsub := HIH.out j a ha a k (d + 1) wr rfl (hname j a ha) hk (by omega) hbw
                            rw [hSj] at hsub
                            have hdr : Dt k (d + 1) (l.drop j) = match vis k (d + 1) a with | none => none | some m => Dt m (d + 1) (l.drop (j + 1)) := by
                              obtain ⟨hj', rfl⟩ := List.getElem?_eq_some_iff.1 ha
                              rw [List.drop_eq_getElem_cons hj', Dt]
                              all_goals (cases vis k (d + 1) l[j] <;> rfl)
                            have hle := fun m => Mm k (d + 1) m a
                            obtain ⟨b, o, rfl, hc⟩ := hfit (by rintro rfl; simp at hlt)
                            obtain ⟨r0, r1, r2, r3⟩ := hc j a ha
                            have s0 := Ae hbw r0
                            have s1 := Ae hbw r1
                            have s2 := Ae hbw r2
                            have s3 := Ae hbw r3
                            rw [hSj] at s3
                            obtain ⟨V, hV⟩ : ∃ V, vis k (d + 1) a = V := ⟨_, rfl⟩
                            rw [hV] at hsub hdr
                            have HLE := Lib.hid (fun m h => hle m (hV.trans h))
                            have HDR := Lib.hid hdr
                            have HSUB := Lib.hid hsub
                            obtain ⟨oa, na, nma, la⟩ := a
                            simp only [Ex.op, Ex.n, Ex.name, Ex.args] at s0 s1 s2 s3
                            clear r0 r1 r2 r3 hc ha hSj hsub hdr hle hV hbw
                            go_wp2_with fail
                            refine HSUB.out.mono ?_
                            rintro e w5 ⟨rfl, hb5⟩
                            have HB5 := Lib.hid (HB.out.trans (hb5.mono HB.out.size))
                            have q5 := Ae hb5 q3
                            clear hb5 q3 s0 s1 s2 s3 HB
                            cases V with
                            | none =>
                              simp only [L9]
                              go_wp2
                              go_ret
                              have h := HVJ.out
                              rw [HDR.out] at h
                              exact ⟨by rw [<- h]; rfl, HB2.out.trans (HB5.out.mono HB2.out.size)⟩
                            | some m =>
                              have hm := HLE.out m rfl
                              simp only [L9]
                              go_wp2
                              go_roundw
                              case rel => exact ⟨j + 1, m, by omega, by omega, rfl, by go_num, by have h := HVJ.out; rw [HDR.out] at h; exact h, HB5.out⟩
                              case measure => simp [intOf]; omega
                          . obtain rfl : j = l.length := by omega
                            go_wp2
                            go_ret
                            have h := HVJ.out
                            rw [List.drop_length, Dt] at h
                            exact ⟨by rw [<- h]; rfl, HB2.out.trans (HB.out.mono HB2.out.size)⟩
                      . have hx1 : (op != 1) = true := by simpa using e7
                        go_enter Tryz.func98, Tryz.ntmps98
                        go_wp2_with fail
                        rw [HW1.out]
                        refine Al (by kernel_rfl) (by kernel_rfl) ?_
                        repeat (go_big_quiet_step ((go_at_call 141; exact Calls.later_of ((B2 _ _).mono fun _ _ ⟨he, hw⟩ => ⟨by rw [he, HAR.out], by rw [<- hw]; exact Below.refl _ _⟩))))
                        refine wpQuiet_nil ?_
                        intro w2 hb2
                        have k0 := Ae hb2 HC0.out
                        have k1 := Ae hb2 HC1.out
                        have k2 := Ae hb2 HC2.out
                        have k3 := Ae hb2 HC3.out
                        have HB2 := Lib.hid (HB1.out.trans (hb2.mono HB1.out.size))
                        clear hb2
                        have HVL : Hid (vis left d (.mk op 0 nm l) = Dt (left - 1) (d + 1) l) := Lib.hid (by rw [HV.out, if_neg (by rw [HQY.out]; simp; omega)]; rfl)
                        have hl1 : (left : Int) - 1 = ((left - 1 : Nat) : Int) := by omega
                        go_wp2_with fail
                        go_loopw [1, 7] (fun c i wr => ∃ j k : Nat, j <= l.length /\ k <= 60 /\ c = .int .i64 k /\ i = .int .i64 j /\ Dt k (d + 1) (l.drop j) = vis left d (.mk op 0 nm l) /\ Below w2.heap.size w2 wr) (fun _ i _ => l.length - (intOf i).toNat)
                        case atStart => exact ⟨0, left - 1, Nat.zero_le _, by omega, by rw [<- hl1], rfl, HVL.out.symm, Below.refl _ _⟩
                        case round =>
                          obtain ⟨j, k, hj, hk, rfl, rfl, hvl, hB⟩ := hrel
                          have HVJ := Lib.hid hvl
                          have HB := Lib.hid hB
                          have q3 := Ae hB k3
                          clear hvl hB k0 k1 k2 k3
                          by_cases hlt : j < l.length
                          . obtain ⟨a, ha⟩ : ∃ a, l[j]? = some a := ⟨_, List.getElem?_eq_getElem hlt⟩
                            have hbw : Below w.heap.size w wr := HBW.out.trans ((HB2.out.trans (HB.out.mono HB2.out.size)).mono HBW.out.size)
                            obtain ⟨pj, cj, Sj, hSj, -⟩ := (hargs j a ha).inv
                            have hsub := HIH.out j a ha a k (d + 1) wr rfl (hname j a ha) hk (by omega) hbw
                            rw [hSj] at hsub
                            have hdr : Dt k (d + 1) (l.drop j) = match vis k (d + 1) a with | none => none | some m => Dt m (d + 1) (l.drop (j + 1)) := by
                              obtain ⟨hj', rfl⟩ := List.getElem?_eq_some_iff.1 ha
                              rw [List.drop_eq_getElem_cons hj', Dt]
                              all_goals (cases vis k (d + 1) l[j] <;> rfl)
                            have hle := fun m => Mm k (d + 1) m a
                            obtain ⟨b, o, rfl, hc⟩ := hfit (by rintro rfl; simp at hlt)
                            obtain ⟨r0, r1, r2, r3⟩ := hc j a ha
                            have s0 := Ae hbw r0
                            have s1 := Ae hbw r1
                            have s2 := Ae hbw r2
                            have s3 := Ae hbw r3
                            rw [hSj] at s3
                            obtain ⟨V, hV⟩ : ∃ V, vis k (d + 1) a = V := ⟨_, rfl⟩
                            rw [hV] at hsub hdr
                            have HLE := Lib.hid (fun m h => hle m (hV.trans h))
                            have HDR := Lib.hid hdr
                            have HSUB := Lib.hid hsub
                            obtain ⟨oa, na, nma, la⟩ := a
                            simp only [Ex.op, Ex.n, Ex.name, Ex.args] at s0 s1 s2 s3
                            clear r0 r1 r2 r3 hc ha hSj hsub hdr hle hV hbw
                            go_wp2_with fail
                            refine HSUB.out.mono ?_
                            rintro e w5 ⟨rfl, hb5⟩
                            have HB5 := Lib.hid (HB.out.trans (hb5.mono HB.out.size))
                            have q5 := Ae hb5 q3
                            clear hb5 q3 s0 s1 s2 s3 HB
                            cases V with
                            | none =>
                              simp only [L9]
                              go_wp2
                              go_ret
                              have h := HVJ.out
                              rw [HDR.out] at h
                              exact ⟨by rw [<- h]; rfl, HB2.out.trans (HB5.out.mono HB2.out.size)⟩
                            | some m =>
                              have hm := HLE.out m rfl
                              simp only [L9]
                              go_wp2
                              go_roundw
                              case rel => exact ⟨j + 1, m, by omega, by omega, rfl, by go_num, by have h := HVJ.out; rw [HDR.out] at h; exact h, HB5.out⟩
                              case measure => simp [intOf]; omega
                          . obtain rfl : j = l.length := by omega
                            go_wp2
                            go_ret
                            have h := HVJ.out
                            rw [List.drop_length, Dt] at h
                            exact ⟨by rw [<- h]; rfl, HB2.out.trans (HB.out.mono HB2.out.size)⟩
                    . obtain rfl : op = 1 := by omega
                      have hx2 : (n != 0) = true := by simpa using e6
                      go_enter Tryz.func98, Tryz.ntmps98
                      go_wp2_with fail
                      rw [HW1.out]
                      refine Al (by kernel_rfl) (by kernel_rfl) ?_
                      repeat (go_big_quiet_step ((go_at_call 141; exact Calls.later_of ((B2 _ _).mono fun _ _ ⟨he, hw⟩ => ⟨by rw [he, HAR.out], by rw [<- hw]; exact Below.refl _ _⟩))))
                      refine wpQuiet_nil ?_
                      intro w2 hb2
                      have k0 := Ae hb2 HC0.out
                      have k1 := Ae hb2 HC1.out
                      have k2 := Ae hb2 HC2.out
                      have k3 := Ae hb2 HC3.out
                      have HB2 := Lib.hid (HB1.out.trans (hb2.mono HB1.out.size))
                      clear hb2
                      have HVL : Hid (vis left d (.mk 1 n nm l) = Dt (left - 1) (d + 1) l) := Lib.hid (by rw [HV.out, if_neg (by rw [HQY.out]; simp; omega)]; rfl)
                      have hl1 : (left : Int) - 1 = ((left - 1 : Nat) : Int) := by omega
                      go_wp2_with fail
                      go_loopw [1, 7] (fun c i wr => ∃ j k : Nat, j <= l.length /\ k <= 60 /\ c = .int .i64 k /\ i = .int .i64 j /\ Dt k (d + 1) (l.drop j) = vis left d (.mk 1 n nm l) /\ Below w2.heap.size w2 wr) (fun _ i _ => l.length - (intOf i).toNat)
                      case atStart => exact ⟨0, left - 1, Nat.zero_le _, by omega, by rw [<- hl1], rfl, HVL.out.symm, Below.refl _ _⟩
                      case round =>
                        obtain ⟨j, k, hj, hk, rfl, rfl, hvl, hB⟩ := hrel
                        have HVJ := Lib.hid hvl
                        have HB := Lib.hid hB
                        have q3 := Ae hB k3
                        clear hvl hB k0 k1 k2 k3
                        by_cases hlt : j < l.length
                        . obtain ⟨a, ha⟩ : ∃ a, l[j]? = some a := ⟨_, List.getElem?_eq_getElem hlt⟩
                          have hbw : Below w.heap.size w wr := HBW.out.trans ((HB2.out.trans (HB.out.mono HB2.out.size)).mono HBW.out.size)
                          obtain ⟨pj, cj, Sj, hSj, -⟩ := (hargs j a ha).inv
                          have hsub := HIH.out j a ha a k (d + 1) wr rfl (hname j a ha) hk (by omega) hbw
                          rw [hSj] at hsub
                          have hdr : Dt k (d + 1) (l.drop j) = match vis k (d + 1) a with | none => none | some m => Dt m (d + 1) (l.drop (j + 1)) := by
                            obtain ⟨hj', rfl⟩ := List.getElem?_eq_some_iff.1 ha
                            rw [List.drop_eq_getElem_cons hj', Dt]
                            all_goals (cases vis k (d + 1) l[j] <;> rfl)
                          have hle := fun m => Mm k (d + 1) m a
                          obtain ⟨b, o, rfl, hc⟩ := hfit (by rintro rfl; simp at hlt)
                          obtain ⟨r0, r1, r2, r3⟩ := hc j a ha
                          have s0 := Ae hbw r0
                          have s1 := Ae hbw r1
                          have s2 := Ae hbw r2
                          have s3 := Ae hbw r3
                          rw [hSj] at s3
                          obtain ⟨V, hV⟩ : ∃ V, vis k (d + 1) a = V := ⟨_, rfl⟩
                          rw [hV] at hsub hdr
                          have HLE := Lib.hid (fun m h => hle m (hV.trans h))
                          have HDR := Lib.hid hdr
                          have HSUB := Lib.hid hsub
                          obtain ⟨oa, na, nma, la⟩ := a
                          simp only [Ex.op, Ex.n, Ex.name, Ex.args] at s0 s1 s2 s3
                          clear r0 r1 r2 r3 hc ha hSj hsub hdr hle hV hbw
                          go_wp2_with fail
                          refine HSUB.out.mono ?_
                          rintro e w5 ⟨rfl, hb5⟩
                          have HB5 := Lib.hid (HB.out.trans (hb5.mono HB.out.size))
                          have q5 := Ae hb5 q3
                          clear hb5 q3 s0 s1 s2 s3 HB
                          cases V with
                          | none =>
                            simp only [L9]
                            go_wp2
                            go_ret
                            have h := HVJ.out
                            rw [HDR.out] at h
                            exact ⟨by rw [<- h]; rfl, HB2.out.trans (HB5.out.mono HB2.out.size)⟩
                          | some m =>
                            have hm := HLE.out m rfl
                            simp only [L9]
                            go_wp2
                            go_roundw
                            case rel => exact ⟨j + 1, m, by omega, by omega, rfl, by go_num, by have h := HVJ.out; rw [HDR.out] at h; exact h, HB5.out⟩
                            case measure => simp [intOf]; omega
                        . obtain rfl : j = l.length := by omega
                          go_wp2
                          go_ret
                          have h := HVJ.out
                          rw [List.drop_length, Dt] at h
                          exact ⟨by rw [<- h]; rfl, HB2.out.trans (HB.out.mono HB2.out.size)⟩
              . have HA := Lib.hid (HNO.out (by omega))
                have hx1 : (op != 1) = true := by simp; omega
                have hx2 : (n != 0) = true := by simp; omega
                go_enter Tryz.func98, Tryz.ntmps98
                go_wp2_with fail
                rw [HW1.out]
                refine Al (by kernel_rfl) (by kernel_rfl) ?_
                repeat (go_big_quiet_step ((go_at_call 141; exact Calls.later_of ((B2 _ _).mono fun _ _ ⟨he, hw⟩ => ⟨by rw [he, HAR.out], by rw [<- hw]; exact Below.refl _ _⟩))))
                refine wpQuiet_nil ?_
                intro w2 hb2
                have k0 := Ae hb2 HC0.out
                have k1 := Ae hb2 HC1.out
                have k2 := Ae hb2 HC2.out
                have k3 := Ae hb2 HC3.out
                have HB2 := Lib.hid (HB1.out.trans (hb2.mono HB1.out.size))
                clear hb2
                go_wp2
                go_ret
                exact ⟨by rw [HA.out]; rfl, HB2.out⟩
            . have hnm := Do (show 0 < nm.size by omega)
              have HA := Lib.hid (HNO.out (by omega))
              go_enter Tryz.func98, Tryz.ntmps98
              go_wp2_with fail
              rw [HW1.out]
              refine Al (by kernel_rfl) (by kernel_rfl) ?_
              repeat (go_big_quiet_step ((go_at_call 141; exact Calls.later_of ((B2 _ _).mono fun _ _ ⟨he, hw⟩ => ⟨by rw [he, HAR.out], by rw [<- hw]; exact Below.refl _ _⟩))))
              refine wpQuiet_nil ?_
              intro w2 hb2
              have k0 := Ae hb2 HC0.out
              have k1 := Ae hb2 HC1.out
              have k2 := Ae hb2 HC2.out
              have k3 := Ae hb2 HC3.out
              have HB2 := Lib.hid (HB1.out.trans (hb2.mono HB1.out.size))
              clear hb2
              go_wp2
              go_ret
              exact ⟨by rw [HA.out]; rfl, HB2.out⟩
        . have HA : Hid (L9 (vis left d (.mk op n nm l)) = -1) := Lib.hid (by rw [HV.out, if_pos (.inr (.inr (HP3.out g3)))]; rfl)
          have hd3 : (A != (l.length : Int)) = true := by simpa using g3
          go_enter Tryz.func98, Tryz.ntmps98
          go_wp2_with fail
          rw [HW1.out]
          refine Al (by kernel_rfl) (by kernel_rfl) ?_
          repeat (go_big_quiet_step ((go_at_call 141; exact Calls.later_of ((B2 _ _).mono fun _ _ ⟨he, hw⟩ => ⟨by rw [he, HAR.out], by rw [<- hw]; exact Below.refl _ _⟩))))
          refine wpQuiet_nil ?_
          intro w2 hb2
          go_wp2
          go_ret
          exact ⟨by rw [HA.out]; rfl, HB1.out.trans (hb2.mono HB1.out.size)⟩
end Go.Proofs.YtiledamgmppcmaaGreatDoor
namespace Go.Proofs.YtiledamgmppcmaaGreatDoor
open Go.RowKit
theorem Pt (v : Value) (x : Ex) (w : World) (h : Af7 w v x) :
    Calls Tryz.prog 51 #[v] w fun e w' => e = .returned (.bool (Ge x)) /\ Below w.heap.size w w' := by
  obtain ⟨s, rfl, hn, ha⟩ := h
  have hc := fun W hb => O6 ha x 60 1 W rfl hn (Nat.le_refl _) (by omega) hb
  obtain ⟨p, cap, S, rfl, hcap, hmax, -⟩ := ha.inv
  have HC := Lib.hid hc
  have HV : Hid (Ge x = (vis 60 1 x).isSome) := Lib.hid rfl
  obtain ⟨V, hV⟩ : ∃ V, vis 60 1 x = V := ⟨_, rfl⟩
  rw [hV] at HC HV
  obtain ⟨op, n, nm, l⟩ := x
  simp only [Ex.val, Ex.op, Ex.n, Ex.name, Ex.args] at HC |-
  clear ha hc hV
  go_enter Tryz.func51, Tryz.ntmps51
  go_wp2_with fail
  refine (HC.out _ ((Below.refl _ _).alloc (Nat.le_refl _) _)).mono ?_
  rintro e w1 ⟨rfl, hb1⟩
  have HB := Lib.hid (El hb1)
  clear hb1 HC
  cases V with
  | none =>
    simp only [L9]
    go_wp2
    go_ret
    exact ⟨by rw [HV.out]; rfl, HB.out⟩
  | some k =>
    simp only [L9]
    have hk : decide ((0 : Int) <= (k : Int)) = true := by simp
    go_wp2
    go_ret
    exact ⟨by rw [HV.out]; rfl, HB.out⟩
end Go.Proofs.YtiledamgmppcmaaGreatDoor
namespace Go.Proofs.YtiledamgmppcmaaGreatDoor
open Go.RowKit
theorem Lb (x : Ex) (hs : x.small) : An 51 [exP x] ⟨[], []⟩ (.ret (A7 (Ge x))) ⟨[], []⟩ := by
  refine J4 Tryz.func51 rfl rfl rfl fun K w vs _ hA => ?_
  simp only [Bm] at hA
  obtain ⟨u, us, rfl, hr, rfl⟩ := hA
  exact Pt u x w (Abt hs hr)
end Go.Proofs.YtiledamgmppcmaaGreatDoor
namespace Go.Proofs.YtiledamgmppcmaaGreatDoor
open Go.RowKit
section
variable {N : Nat} {ops : Array Oper} {rest : List Oper} {o : Oper} {F : Nat -> PV} {S S' : PS} {q : WRes -> Prop} {c : Operand} {al : Array Operand} {ats : Array TypeId} {f : Nat} {caps args : List PV}
theorem Aa2 {t : Nat} {T : RTok} (h : S.toks[t]? = some T) : Passes S ⟨[], [T]⟩ [] [t] := by
  refine ⟨by simp, by simp, rfl, rfl, fun i j h => by simp at h, fun i j hi => ?_, by simp⟩
  cases i with
  | zero => simp at hi; subst hi; simp [h]
  | succ i => simp at hi
theorem Adx {t : Nat} {T : RTok} : S.after [] [t] ⟨[], [T]⟩ = S.setTok t T := by
  cases S; simp [PS.after, Z1, PS.setTok]
theorem wct {t v : Nat} {T T' : RTok} (hD : An f args ⟨[], [T]⟩ (.ret (.hd 0 v)) ⟨[], [T']⟩) (hg : Am ops F o = some true) (ho : o.op = .call { callee := .value c, args := al, argTypes := ats }) (hc : evP F c = .fn f caps) (hT : S.toks[t]? = some T)
    (hlt : PV.ltL 0 1 args = true) (ha : F6 S (al.toList.map (evP F) ++ caps) (PV.renL (fbN []) (ftN [t] S.toks.length) args)) (hS : S.setTok t T' = S') (kk : WK Tryz.prog N ops rest (Ch N o.dst (.hd t v) F) S' q) : WK Tryz.prog N ops (o :: rest) F S q := by
  subst hS
  have h := Acd ho hD.1 hc (Aa2 hT) ha hlt rfl hD.2
  rw [Adx] at h
  exact Kb hg h kk
theorem Ahc {k e : Nat} {T' : RTok} {ps : List PV} {r : PV} (ho : o.op = .call { callee := .value c, args := al, argTypes := ats }) (hc : evP F c = .fn f caps) (hal : al.toList.map (evP F) ++ caps = .d (.v (.slice none 0 0)) :: ps)
    (ha : F6 (S.addTok ⟨0, k, [], e⟩) ps (PV.renL (fbN []) (ftN [S.toks.length] (S.addTok ⟨0, k, [], e⟩).toks.length) args)) (hlt : PV.ltL 0 1 args = true) (hD : An f (.hd 0 0 :: args) ⟨[], [⟨0, k, [], e⟩]⟩ (.ret r) ⟨[], [T']⟩) :
    OpS Tryz.prog o F S (r.ren (fbN []) (ftN [S.toks.length] (S.addTok ⟨0, k, [], e⟩).toks.length)) ((S.addTok ⟨0, k, [], e⟩).after [] [S.toks.length] ⟨[], [T']⟩) := by
  intro ro mm K w a next Q hI hx hn
  obtain ⟨vs, h1, h2⟩ := Vo ho hD.1 hc hx
  rw [hal] at h2
  simp only [Bm] at h2
  obtain ⟨u, us, rfl, hu, h2⟩ := h2
  rw [Ej hu] at h1
  obtain ⟨K1, m1, m2, m3⟩ := hI.mint k e
  have hT : (S.addTok ⟨0, k, [], e⟩).toks[S.toks.length]? = some ⟨0, k, [], e⟩ := by simp [PS.addTok]
  have hp := Aa2 hT
  have h3 : Bm (Sa K1 [] [S.toks.length]) w (.hd 0 0 :: args) (.slice none 0 0 :: us) := by
    refine Tf m1 hp (by simp only [PV.ltL, PV.lt, Bool.and_eq_true]; exact ⟨by simp, hlt⟩) ?_
    simp only [PV.renL, PV.ren, Bm]
    exact ⟨_, _, rfl, m3, F6.rep m1 ha (Bm.step m2 _ _ h2)⟩
  refine Vz h1 ((hD.2 (Sa K1 [] [S.toks.length]) w _ (m1.sub hp) h3).mono ?_)
  rintro e w' ⟨K0', hs, hI', v, rfl, hr⟩
  exact hn v w' (Ale K1 K0' [S.toks.length]) (m2.trans hI (Xn m1 hp hs)) (Aga m1 hp hs hI' rfl) ((Agb m1 hp hs hI' rfl).1 r v hr)
theorem wctN {k e v : Nat} {T' : RTok} {ps : List PV} (hD : An f (.hd 0 0 :: args) ⟨[], [⟨0, k, [], e⟩]⟩ (.ret (.hd 0 v)) ⟨[], [T']⟩) (hg : Am ops F o = some true) (ho : o.op = .call { callee := .value c, args := al, argTypes := ats }) (hc : evP F c = .fn f caps) (hal : al.toList.map (evP F) ++ caps = .d (.v (.slice none 0 0)) :: ps)
    (ha : F6 (S.addTok ⟨0, k, [], e⟩) ps (PV.renL (fbN []) (ftN [S.toks.length] (S.addTok ⟨0, k, [], e⟩).toks.length) args)) (hlt : PV.ltL 0 1 args = true) (hS : S.addTok T' = S') (kk : WK Tryz.prog N ops rest (Ch N o.dst (.hd S.toks.length v) F) S' q) : WK Tryz.prog N ops (o :: rest) F S q := by
  subst hS
  have h := Ahc (S := S) ho hc hal ha hlt hD
  rw [Adx] at h
  have e2 : (S.addTok ⟨0, k, [], e⟩).setTok S.toks.length T' = S.addTok T' := by cases S; simp [PS.addTok, PS.setTok]
  rw [e2] at h
  exact Kb hg h kk
end
end Go.Proofs.YtiledamgmppcmaaGreatDoor
namespace Go.Proofs.YtiledamgmppcmaaGreatDoor
open Go.RowKit
def V3 (k : IntKind) (a b : Int) : Int := k.wrap (BitVec.ofInt k.bits a &&& BitVec.ofInt k.bits b).toNat
section
variable {P : Program} {o : Oper} {F : Nat -> PV} {S : PS} {ty yt : TypeId} {x y : Operand}
theorem T3 {k : IntKind} {a b : Int} (ho : o.op = .binOp .and ty x y yt) (hx : evP F x = .d (.v (.int k a))) (hy : evP F y = .d (.v (.int k b))) : OpS P o F S (.d (.v (.int k (V3 k a b)))) S :=
  E6 ho hx hy rfl fun w => by simp [G6, binOp, Op.intBits, V3]
theorem Nq {t : TypeId} {I : TyI} {n : Nat} {z : Value} {kx ky : IntKind} (ho : o.op = .makeSlice t x y) (hI : TyI.of P t = some I) (hk : I.kind = 2) (hek : I.ek = 1) (hez : I.ez = [z]) (hz1 : z.oneCell' = true) (hx : evP F x = .d (.v (.int kx n))) (hy : evP F y = .d (.v (.int ky n)))
    (hn : I.eb * n <= 281474976710656) (h63 : n <= 9223372036854775807) : OpS P o F S (.d (.sl 1 (List.replicate n [.v z]))) S :=
  OpS.val fun K w ρ hInv h => by
    have h1 := h x (by simp [ho, Op.operands])
    have h2 := h y (by simp [ho, Op.operands])
    rw [hx] at h1
    rw [hy] at h2
    have h1 := Ej h1
    have h2 := Ej h2
    obtain ⟨i, d, zz, hi, hu, hz, _, hzz, hd⟩ := TyI.inv hI
    rw [hk] at hd; simp at hd
    obtain ⟨rfl, ie, hie, ze, hze, hzs, hek2, heb, hez2⟩ := hd
    have hsz : ie.size = 1 := by rw [<- hek]; first | exact hek2 | exact hek2.symm
    have hcl : ze.cells.toList = [z] := by rw [<- hez]; first | exact hez2.1 | exact hez2.1.symm
    have hrun := run_make (P := P) w t I.elem ie ze hu hie hze kx ky n n (by omega) (Int.le_refl _) (by have hb : ie.bytes = I.eb := (by first | exact heb | exact heb.symm); rw [hb]; omega) (by omega)
    simp only [Int.toNat_natCast, hsz, Nat.mul_one] at hrun
    obtain ⟨g1, g2⟩ := hInv.below (w' := w.alloc (.cells (madeCells ze.cells n) I.elem)) ((Below.refl _ _).alloc (Nat.le_refl _) _)
    refine ⟨_, _, K, by simp only [execOp, ho, h1, h2, Sem.run_bind, hrun]; rfl, g2, g1, ?_⟩
    simp only [Rep, Ef, List.length_replicate]
    refine ⟨_, n, rfl, Nat.le_refl _, h63, fun _ => ⟨w.heap.size, 0, rfl, Rh hInv (by simp) _, Fx.2 ⟨fun e he => by rw [List.eq_of_mem_replicate he]; rfl, ?_⟩⟩⟩
    have e1 : (List.replicate n [DV.v z]).flatten = List.replicate n (.v z) := by simp
    rw [e1]
    refine Io On ?_
    rw [U8 hcl n, List.map_replicate]
    exact Tb hz1 n
end
section
variable {N : Nat} {ops : Array Oper} {rest : List Oper} {o : Oper} {F : Nat -> PV} {S : PS} {q : WRes -> Prop}
theorem Apb {k : IntKind} {a b : Int} {ty yt : TypeId} {x y : Operand} (hg : Am ops F o = some true) (ho : o.op = .binOp .and ty x y yt) (hx : evP F x = .d (.v (.int k a))) (hy : evP F y = .d (.v (.int k b)))
    (kk : WK Tryz.prog N ops rest (Ch N o.dst (.d (.v (.int k (V3 k a b)))) F) S q) : WK Tryz.prog N ops (o :: rest) F S q := Kb hg (T3 ho hx hy) kk
theorem Ali {t : TypeId} {x y : Operand} {l : List PV} {kd : IntKind} {j : Int} {p : PV} (hg : Am ops F o = some true) (ho : o.op = .index t x y) (hk : (Bq t && Nat.beq (tyi t).kind 3 && Bq (tyi t).elem && !(tyi (tyi t).elem).isRow) = true) (hx : evP F x = .agg l) (hy : evP F y = .d (.v (.int kd j))) (h0 : 0 <= j) (h1 : j < (tyi t).len)
    (hp : l[j.toNat * (tyi (tyi t).elem).size]? = some p) (kk : WK Tryz.prog N ops rest (Ch N o.dst p F) S q) : WK Tryz.prog N ops (o :: rest) F S q := by
  simp only [Bool.and_eq_true, Bool.not_eq_true'] at hk
  exact Kb hg (J7 ho (Gl t hk.1.1.1) (Nat.eq_of_beq_eq_true hk.1.1.2) (Gl _ hk.1.2) hx hy h0 h1 (.inr ⟨hk.2, hp⟩)) kk
theorem Ah4 {t : TypeId} {x y : Operand} {n : Nat} {kx ky : IntKind} (z : Value) (hg : Am ops F o = some true) (ho : o.op = .makeSlice t x y) (hk : (Bq t && Nat.beq (tyi t).kind 2 && Nat.beq (tyi t).ek 1) = true) (hez : (tyi t).ez = [z]) (hz1 : z.oneCell' = true) (hx : evP F x = .d (.v (.int kx n))) (hy : evP F y = .d (.v (.int ky n)))
    (hn : (tyi t).eb * n <= 281474976710656) (h63 : n <= 9223372036854775807) (kk : WK Tryz.prog N ops rest (Ch N o.dst (.d (.sl 1 (List.replicate n [.v z]))) F) S q) : WK Tryz.prog N ops (o :: rest) F S q := by
  simp only [Bool.and_eq_true] at hk
  exact Kb hg (Nq ho (Gl t hk.1.1) (Nat.eq_of_beq_eq_true hk.1.2) (Nat.eq_of_beq_eq_true hk.2) hez hz1 hx hy hn h63) kk
end
@[reducible] def Co (l : List UInt8) : PV := .d (.sl 1 (l.map fun b => [.v (.int .u8 b.toNat)]))
def Aw (l : List UInt8) (a : Nat) : Int := if a < l.length /\ a < 18 then ((l.getD a 0).toNat : Int) else 0
theorem Ey (l : List UInt8) (a : Nat) : 0 <= Aw l a /\ Aw l a < 256 := by
  unfold Aw
  split
  . have := (l.getD a 0).toNat_lt
    omega
  . omega
theorem Ni {l : List UInt8} {a : Nat} (h : a < l.length) : (l.map fun b => [DV.v (.int .u8 b.toNat)])[((a : Nat) : Int).toNat]? = some [.v (.int .u8 ((l.getD a 0).toNat : Int))] := by
  simp [h, List.getD_eq_getElem?_getD]
@[reducible] def mkS (l : List UInt8) (a : Nat) : PS := ⟨[[Co l, Ai a]], []⟩
theorem No (l : List UInt8) (a : Nat) (ha : a <= 1000000) : An 108 [.ptr 0 0] (mkS l a) (.ret (Ai (Aw l a))) (mkS l (a + 1)) := by
  refine Af Tryz.func108 rfl rfl (Nat.le_of_ble_eq_true rfl) rfl (Nat.le_refl _) ?_
  repeat' (first | refine rl0 ?_ | refine rs0 (fun h => ?_) (fun h => ?_) | fail)
  . rw [show Aw l a = 0 from if_neg (by simp at h; omega)]
  . rename_i g
    rw [show Aw l a = 0 from if_neg (by simp at g h; omega)]
  . rename_i g
    have hc : a < l.length /\ a < 18 := by simp at g h; omega
    refine Ib [.v (.int .u8 ((l.getD a 0).toNat : Int))] rfl rfl rfl rfl rfl (by rw [show ((a : Int) + 1 - 1).toNat = ((a : Nat) : Int).toNat from by omega]; exact Ni hc.1) (by omega) ?_
    have hlt := (l.getD a 0).toNat_lt
    repeat' (first | refine rl0 ?_ | refine rs0 (fun h => ?_) (fun h => ?_) | fail)
    refine wan rfl rfl ⟨by show (-9223372036854775808 : Int) <= _; omega, by show _ <= (9223372036854775807 : Int); omega⟩ ?_
    repeat' (first | refine rl0 ?_ | refine rs0 (fun h => ?_) (fun h => ?_) | fail)
    rw [show Aw l a = ((l.getD a 0).toNat : Int) from if_pos hc]
    rfl
end Go.Proofs.YtiledamgmppcmaaGreatDoor
namespace Go.Proofs.YtiledamgmppcmaaGreatDoor
open Go.RowKit
def Aof : ByteArray := ⟨#[120, 121, 122]⟩
def Dp (want n : Int) : Bool := decide (want = 1) || (decide (want = 0) && decide (V3 .i64 n 128 = 0))
def Ag6 : List Int := [0, 1, 2, 3, 5, 9999, 7, 1]
def C2 (num : Bool) (n : Int) : Ex :=
  if num = false then .mk (3 + n / 16 % 2) 0 ⟨#[]⟩ [] else if 1 < n % 16 then .mk 2 0 (Aof.extract (n / 16 % 3).toNat (n / 16 % 3 + 1).toNat) [] else .mk 1 (Ag6.getD (n / 16 % 8).toNat 0) ⟨#[]⟩ []
def A8 (num : Bool) (n : Int) : Int × List Int :=
  if num = false then (if n % 16 < 10 then (11 + n / 16 % 6, [1, 1]) else if n % 16 < 11 then (6, [2]) else if n % 16 < 15 then (17 + n / 16 % 2, [2, 2]) else (19, [2, 2, 2]))
  else (if n % 16 < 7 then (5, [1]) else if n % 16 < 14 then (7 + n / 16 % 4, [1, 1]) else (19, [2, 1, 1]))
def Be (g : Int -> Nat -> Ex × Nat) : List Int -> Nat -> List Ex × Nat
  | [], a => ([], a)
  | t :: ts, a => ((g t a).1 :: (Be g ts (g t a).2).1, (Be g ts (g t a).2).2)
def Fq (want : Int) (ts : List Int) : List Int := if want = 0 then List.replicate ts.length 0 else ts
def Gd (l : List UInt8) : Nat -> Int -> Nat -> Ex × Nat
  | 0, want, a => (C2 (Dp want (Aw l a)) (Aw l a), a + 1)
  | f + 1, want, a => if Aw l a % 16 < 5 then (C2 (Dp want (Aw l a)) (Aw l a), a + 1) else
      (.mk (A8 (Dp want (Aw l a)) (Aw l a)).1 0 ⟨#[]⟩ (Be (Gd l f) (Fq want (A8 (Dp want (Aw l a)) (Aw l a)).2) (a + 1)).1, (Be (Gd l f) (Fq want (A8 (Dp want (Aw l a)) (Aw l a)).2) (a + 1)).2)
theorem Is (num : Bool) (n : Int) : 1 <= (A8 num n).2.length /\ (A8 num n).2.length <= 3 := by
  unfold A8
  repeat' split
  all_goals simp
theorem F8 (want : Int) (ts : List Int) : (Fq want ts).length = ts.length := by unfold Fq; split <;> simp
theorem Hu {g : Int -> Nat -> Ex × Nat} {b : Nat} (hg : ∀ t a, (g t a).2 <= a + b) : ∀ (ts : List Int) (a : Nat), (Be g ts a).2 <= a + ts.length * b
  | [], a => by simp [Be]
  | t :: ts, a => by
    have h1 := hg t a
    have h2 := Hu hg ts (g t a).2
    simp only [Be, List.length_cons, Nat.succ_mul]
    omega
theorem Mo (l : List UInt8) : ∀ (f : Nat) (want : Int) (a : Nat), (Gd l f want a).2 <= a + 4 ^ f
  | 0, want, a => by simp [Gd]
  | f + 1, want, a => by
    have hp : 1 <= 4 ^ f := Nat.pos_of_ne_zero (by simp)
    rw [Gd]
    split
    . simp only [Nat.pow_succ]; omega
    . have h1 := Hu (Mo l f) (Fq want (A8 (Dp want (Aw l a)) (Aw l a)).2) (a + 1)
      have h2 := Is (Dp want (Aw l a)) (Aw l a)
      rw [F8] at h1
      have h3 : (A8 (Dp want (Aw l a)) (Aw l a)).2.length * 4 ^ f <= 3 * 4 ^ f := Nat.mul_le_mul_right _ h2.2
      simp only [Nat.pow_succ]; omega
theorem Ha {g : Int -> Nat -> Ex × Nat} : ∀ {ts : List Int} {a i : Nat} {t : Int}, ts[i]? = some t -> Be g (ts.take (i + 1)) a = ((Be g (ts.take i) a).1 ++ [(g t (Be g (ts.take i) a).2).1], (g t (Be g (ts.take i) a).2).2)
  | [], a, i, t, h => by simp at h
  | s :: ts, a, 0, t, h => by simp at h; subst h; simp [Be]
  | s :: ts, a, i + 1, t, h => by
    simp only [List.getElem?_cons_succ] at h
    have := Ha (g := g) (a := (g s a).2) h
    simp only [List.take_succ_cons, Be, this, List.cons_append]
theorem Fu {g : Int -> Nat -> Ex × Nat} : ∀ (ts : List Int) (a : Nat), (Be g ts a).1.length = ts.length
  | [], a => rfl
  | t :: ts, a => by simp [Be, Fu ts]
theorem Qf {l : List Int} {i : Nat} {x : Int} (h : l[i]? = some x) : (l.map fun n => [DV.v (.int .i64 n)])[((i : Nat) : Int).toNat]? = some [.v (.int .i64 x)] := by simp [h]
theorem Hr (l r : List Ex) : Eb (l ++ r) = Eb l ++ Eb r := by simp [L5]
set_option maxHeartbeats 1000000 in
theorem Ty (l : List UInt8) (g : Int -> Nat -> Ex × Nat) (b : Nat) (deep : Int) (hd : 0 <= deep /\ deep <= 100) (hg : ∀ t a, (g t a).2 <= a + b) (hone : ∀ (t : Int) (a : Nat), a + b <= 1000000 -> An 66 [.ptr 0 0, Ai t, Ai (deep + 1)] (mkS l a) (.ret (exP (g t a).1)) (mkS l (g t a).2)) (ts : List Int) (hts : ts.length <= 3) (a : Nat) (ha : a + 3 * b <= 1000000) :
    An 147 [.ptr 0 0, Ai deep, Fj ts] (mkS l a) (.ret (.d (.sl 4 (Eb (Be g ts a).1)))) (mkS l (Be g ts a).2) := by
  have raw : An 147 [.ptr 0 0, Ai deep, Fj ts] (mkS l a) (.ret (.hd 0 ts.length)) ⟨[[Co l, Ai (Be g ts a).2]], [⟨ts.length, 4, Eb (Be g ts a).1, 24⟩]⟩ := by
    refine Af Tryz.func147 rfl rfl (Nat.le_of_ble_eq_true rfl) rfl (by simp) ?_
    repeat' (first | refine rl0 ?_ | refine rs0 (fun h => ?_) (fun h => ?_) | fail)
    refine T4 7 4 24 rfl ?_
    refine Bt (ι := Nat) (ok := fun i => i <= ts.length) (L := fun i => [(0, .ptr 0 0), (1, Ai deep), (7, .hd 0 i), (10, Fj ts), (11, Ai (ts.map fun n => [DV.v (.int .i64 n)]).length), (12, Ai i)]) (Sx := fun i => ⟨[[Co l, Ai (Be g (ts.take i) a).2]], [⟨i, 4, Eb (Be g (ts.take i) a).1, 24⟩]⟩) (μ := fun i => ts.length - i) 0 (Nat.zero_le _) (by repeat (first | exact Ag | refine Ac rfl ?_)) rfl ?_
    rintro i hi
    repeat' (first | refine rl0 ?_ | refine rs0 (fun h => ?_) (fun h => ?_) | fail)
    . have hlt : i < ts.length := by simpa using h
      obtain ⟨t, ht⟩ : ∃ t, ts[i]? = some t := ⟨_, List.getElem?_eq_getElem hlt⟩
      have hstep := Ha (g := g) (a := a) ht
      have hle := Hu hg (ts.take i) a
      rw [List.length_take, Nat.min_eq_left hi] at hle
      have hib : i * b <= 2 * b := Nat.mul_le_mul_right _ (by omega)
      have hll := Fu (g := g) (ts.take i) a
      rw [List.length_take, Nat.min_eq_left hi] at hll
      refine wix _ rfl rfl rfl rfl rfl (Qf ht) (by omega) ?_
      repeat' (first | refine rl0 ?_ | refine rs0 (fun h => ?_) (fun h => ?_) | fail)
      refine wcb (id := 0) (hone t _ (by omega)) rfl rfl rfl rfl rfl rfl rfl rfl (by repeat (first | exact Ad | refine Aa (Ab _) ?_)) rfl ?_
      generalize hx : g t (Be g (ts.take i) a).2 = x at hstep |-
      obtain ⟨x, a2⟩ := x
      repeat' (first | refine rl0 ?_ | refine rs0 (fun h => ?_) (fun h => ?_) | fail)
      refine Alh (news := [[.v (.int .i64 x.op), .v (.int .i64 x.n), .v (.string x.name), .sl 4 (Eb x.args)]]) (S' := ⟨[[Co l, Ai a2]], [⟨i + 1, 4, Eb (Be g (ts.take i) a).1 ++ [[.v (.int .i64 x.op), .v (.int .i64 x.n), .v (.string x.name), .sl 4 (Eb x.args)]], 24⟩]⟩) rfl rfl rfl rfl rfl rfl ?_ ?_ rfl ?_
      . rw [A6, hll]; show (i + 1) * 56 <= _; omega
      . rw [A6, hll]; show i + 1 <= _; omega
      repeat' (first | refine rl0 ?_ | refine rs0 (fun h => ?_) (fun h => ?_) | fail)
      refine ⟨i + 1, by omega, by omega, (by repeat (first | exact Ag | refine Ac rfl ?_)), ?_⟩
      rw [hstep, Hr]
      simp [Eb]
      cases x; rfl
    . obtain rfl : i = ts.length := by have : ¬ (i < ts.length) := by simpa using h
                                       omega
      rw [List.take_length]
      exact fin rfl rfl (.inr rfl) rfl rfl rfl rfl
  exact Ki (S' := ⟨[[Co l, Ai (Be g ts a).2]], [⟨ts.length, 4, Eb (Be g ts a).1, 24⟩]⟩) 1 0 (A4 raw (Q5 (Jh rfl))) (Nat.le_refl _) (Nat.le_refl _) rfl rfl
set_option maxHeartbeats 1000000 in
theorem Zr (l : List UInt8) (g : Int -> Nat -> Ex × Nat) (b : Nat) (deep op : Int) (want : Int) (hd : 0 <= deep /\ deep <= 100) (hg : ∀ t a, (g t a).2 <= a + b) (hone : ∀ (t : Int) (a : Nat), a + b <= 1000000 -> An 66 [.ptr 0 0, Ai t, Ai (deep + 1)] (mkS l a) (.ret (exP (g t a).1)) (mkS l (g t a).2)) (ts : List Int) (hts : ts.length <= 3) (a : Nat) (ha : a + 3 * b <= 1000000) :
    An 109 [.ptr 0 0, A7 (decide (want = 0)), Ai deep, Ai op, Fj ts] (mkS l a) (.ret (exP (.mk op 0 ⟨#[]⟩ (Be g (Fq want ts) a).1))) (mkS l (Be g (Fq want ts) a).2) := by
  have hL := Ty l g b deep hd hg hone (Fq want ts) (by rw [F8]; exact hts) a ha
  unfold Fq at hL |-
  refine Af Tryz.func109 rfl rfl (Nat.le_of_ble_eq_true rfl) rfl (Nat.le_refl _) ?_
  repeat' (first | refine rl0 ?_ | refine rs0 (fun h => ?_) (fun h => ?_) | fail)
  . have hw : want = 0 := by simpa using h
    rw [if_pos hw] at hL |-
    rw [show Fj (List.replicate ts.length 0) = .d (.sl 1 (List.replicate ts.length [.v (.int .i64 0)])) from by simp] at hL
    refine Ah4 (n := (ts.map fun n => [DV.v (.int .i64 n)]).length) (kx := .i64) (ky := .i64) (.int .i64 0) rfl rfl rfl rfl rfl rfl rfl (by rw [List.length_map]; show 8 * _ <= _; omega) (by rw [List.length_map]; omega) ?_
    rw [List.length_map]
    repeat' (first | refine rl0 ?_ | refine rs0 (fun h => ?_) (fun h => ?_) | fail)
    refine wcb (id := 0) hL rfl rfl rfl rfl rfl rfl rfl rfl (by repeat (first | exact Ad | refine Aa (Ab _) ?_)) rfl ?_
    repeat' (first | refine rl0 ?_ | refine rs0 (fun h => ?_) (fun h => ?_) | fail)
    rfl
  . have hw : want ≠ 0 := by simpa using h
    rw [if_neg hw] at hL |-
    refine wcb (id := 0) hL rfl rfl rfl rfl rfl rfl rfl rfl (by repeat (first | exact Ad | refine Aa (Ab _) ?_)) rfl ?_
    repeat' (first | refine rl0 ?_ | refine rs0 (fun h => ?_) (fun h => ?_) | fail)
    rfl
end Go.Proofs.YtiledamgmppcmaaGreatDoor
namespace Go.Proofs.YtiledamgmppcmaaGreatDoor
open Go.RowKit
theorem tab8 {n : Int} (h0 : 0 <= n) (h1 : n < 256) : (([Ai 0, Ai 1, Ai 2, Ai 3, Ai 5, Ai 9999, Ai 7, Ai 1] : List PV)[(n / 16 % 8).toNat * 1]?) = some (Ai (Ag6.getD (n / 16 % 8).toNat 0)) := by
  have : n / 16 % 8 = 0 \/ n / 16 % 8 = 1 \/ n / 16 % 8 = 2 \/ n / 16 % 8 = 3 \/ n / 16 % 8 = 4 \/ n / 16 % 8 = 5 \/ n / 16 % 8 = 6 \/ n / 16 % 8 = 7 := by omega
  rcases this with h | h | h | h | h | h | h | h <;> rw [h] <;> rfl
set_option maxHeartbeats 2000000 in
theorem Kw (l : List UInt8) (want deep : Int) (a : Nat) (ha : a <= 1000000) (hd : 0 <= deep /\ deep <= 100) (hl : 10 <= deep \/ Aw l a % 16 < 5) : An 66 [.ptr 0 0, Ai want, Ai deep] (mkS l a) (.ret (exP (C2 (Dp want (Aw l a)) (Aw l a)))) (mkS l (a + 1)) := by
  have hn := Ey l a
  have raw : An 66 [.ptr 0 0, Ai want, Ai deep] (mkS l a) (.ret (.agg [Ai (C2 (Dp want (Aw l a)) (Aw l a)).op, Ai (C2 (Dp want (Aw l a)) (Aw l a)).n, By (C2 (Dp want (Aw l a)) (Aw l a)).name, .d (.v (.slice none 0 0))])) (mkS l (a + 1)) := by
    refine Af Tryz.func66 rfl rfl (Nat.le_of_ble_eq_true rfl) rfl (Nat.le_refl _) ?_
    repeat' (first | refine rl0 ?_ | refine rs0 (fun h => ?_) (fun h => ?_) | fail)
    refine wcb (id := 0) (No l a ha) rfl rfl rfl rfl rfl rfl rfl rfl (by repeat (first | exact Ad | refine Aa (Ab _) ?_)) rfl ?_
    generalize Aw l a = n at *
    refine wst rfl rfl trivial ?_
    refine Ca ?_
    refine C5 ?_
    refine Ln (ι := Unit) (fun _ => True) (fun _ => [(0, .ptr 0 0), (1, Ai want), (2, Ai deep), (6, .ptr 1 0), (7, Ai n), (8, A7 (Dp want n))]) (fun _ => ⟨[[Co l, Ai ((a + 1 : Nat) : Int)], [Ai 0, Ai 0, By ⟨#[]⟩, .d (.v (.slice none 0 0))]], []⟩) ?_ (fun _ _ => ?_)
    . refine Bx ?_
      refine wst rfl rfl trivial ?_
      refine wst rfl rfl trivial ?_
      refine wst rfl rfl trivial ?_
      refine H9 rfl rfl rfl ⟨rfl⟩ (fun h => ?_) (fun h => ?_)
      . repeat refine E7 rfl ?_
        refine wst rfl rfl trivial ?_
        refine wst rfl rfl trivial ?_
        refine Ca ?_
        refine ⟨(), trivial, ?_, rfl⟩
        have e : Dp want n = true := by unfold Dp; rw [h]; rfl
        rw [e]
        exact (by repeat (first | exact Ag | refine Ac rfl ?_))
      . refine wst rfl rfl trivial ?_
        refine wst rfl rfl trivial ?_
        refine wst rfl rfl trivial ?_
        refine H9 rfl rfl rfl ⟨rfl⟩ (fun h2 => ?_) (fun h2 => ?_)
        . refine wst rfl rfl trivial ?_
          refine Apb rfl rfl rfl rfl ?_
          refine wst rfl rfl trivial ?_
          refine wst rfl rfl trivial ?_
          refine wst rfl rfl trivial ?_
          refine wst rfl rfl trivial ?_
          refine Ca ?_
          refine ⟨(), trivial, ?_, rfl⟩
          have e : Dp want n = decide (V3 .i64 n 128 = 0) := by unfold Dp; rw [h, h2]; rfl
          rw [e]
          exact (by repeat (first | exact Ag | refine Ac rfl ?_))
        . repeat refine E7 rfl ?_
          refine wst rfl rfl trivial ?_
          refine wst rfl rfl trivial ?_
          refine wst rfl rfl trivial ?_
          refine Ca ?_
          refine ⟨(), trivial, ?_, rfl⟩
          have e : Dp want n = false := by unfold Dp; rw [h, h2]; rfl
          rw [e]
          exact (by repeat (first | exact Ag | refine Ac rfl ?_))
    generalize Dp want n = b
    refine C5 ?_
    refine C5 ?_
    refine Ln (ι := Unit) (fun _ => True) (fun _ => [(0, .ptr 0 0), (1, Ai want), (2, Ai deep), (6, .ptr 1 0), (7, Ai n), (8, A7 b), (29, A7 true)]) (fun _ => ⟨[[Co l, Ai ((a + 1 : Nat) : Int)], [Ai 0, Ai 0, By ⟨#[]⟩, .d (.v (.slice none 0 0))]], []⟩) ?_ (fun _ _ => ?_)
    . refine Bx ?_
      refine wst rfl rfl trivial ?_
      refine wst rfl rfl trivial ?_
      refine wst rfl rfl trivial ?_
      refine H9 rfl rfl rfl ⟨rfl⟩ (fun h => ?_) (fun h => ?_)
      . repeat refine E7 rfl ?_
        refine wst rfl rfl trivial ?_
        refine Ca ?_
        exact ⟨(), trivial, (by repeat (first | exact Ag | refine Ac rfl ?_)), rfl⟩
      . refine wst rfl rfl trivial ?_
        refine wst rfl rfl ⟨by omega, by omega⟩ ?_
        refine wst rfl rfl trivial ?_
        refine wst rfl rfl trivial ?_
        refine Ca ?_
        refine ⟨(), trivial, ?_, rfl⟩
        have e : decide (n % 16 < 5) = true := by simp at h |-; omega
        exact Ac rfl (Ac rfl (Ac rfl (Ac rfl (Ac rfl (Ac rfl (Ac (show PV.d (.v (.bool (decide (n % 16 < 5)))) = _ by rw [e]) Ag))))))
    cases b
    . repeat' (first | refine rl0 ?_ | refine rs0 (fun h => ?_) (fun h => ?_) | fail)
      rw [show C2 false n = .mk (3 + n / 16 % 2) 0 ⟨#[]⟩ [] from rfl]
      rfl
    . repeat' (first | refine rl0 ?_ | refine rs0 (fun h => ?_) (fun h => ?_) | fail)
      . have e : C2 true n = .mk 2 0 (Aof.extract (n / 16 % 3).toNat (n / 16 % 3 + 1).toNat) [] := by unfold C2; rw [if_neg (by simp), if_pos (by simpa using h)]
        refine wst rfl rfl ⟨by omega, by omega, by show _ <= (3 : Int); omega⟩ ?_
        repeat' (first | refine rl0 ?_ | refine rs0 (fun h => ?_) (fun h => ?_) | fail)
        rw [e]
        rfl
      . have e : C2 true n = .mk 1 (Ag6.getD (n / 16 % 8).toNat 0) ⟨#[]⟩ [] := by unfold C2; rw [if_neg (by simp), if_neg (by simpa using h)]
        refine Ali rfl rfl rfl rfl rfl (by omega) (by show _ < 8; omega) (tab8 hn.1 hn.2) ?_
        repeat' (first | refine rl0 ?_ | refine rs0 (fun h => ?_) (fun h => ?_) | fail)
        rw [e]
        rfl
  exact A4 raw (A9 (Aa (Ab _) (Aa (Ab _) (Aa (Ab _) (Aa (by
    have e : Eb (C2 (Dp want (Aw l a)) (Aw l a)).args = [] := by
      unfold C2
      split
      . rfl
      . split <;> rfl
    rw [e]; exact Bo) Ad)))))
set_option maxHeartbeats 4000000 in
theorem Rq (l : List UInt8) : ∀ (f : Nat), f <= 9 -> ∀ (want : Int) (a : Nat), a + 4 ^ f <= 1000000 -> An 66 [.ptr 0 0, Ai want, Ai (10 - f)] (mkS l a) (.ret (exP (Gd l f want a).1)) (mkS l (Gd l f want a).2)
  | 0, _, want, a, ha => by
    rw [Gd]
    exact Kw l want _ a (by simp at ha; omega) ⟨by simp, by simp⟩ (.inl (by simp))
  | f + 1, hf, want, a, ha => by
    have hp : 1 <= 4 ^ f := Nat.pos_of_ne_zero (by simp)
    have hpow : 4 ^ (f + 1) = 4 * 4 ^ f := by rw [Nat.pow_succ]; omega
    rw [Gd]
    by_cases hlf : Aw l a % 16 < 5
    . rw [if_pos hlf]
      exact Kw l want _ a (by omega) ⟨by omega, by omega⟩ (.inr hlf)
    rw [if_neg hlf]
    have hdeep : (10 : Int) - ((f + 1 : Nat) : Int) + 1 = 10 - (f : Nat) := by omega
    have hsub := fun (op : Int) (ts : List Int) (hts : ts.length <= 3) => Zr l (Gd l f) (4 ^ f) (10 - ((f + 1 : Nat) : Int)) op want ⟨by omega, by omega⟩ (Mo l f) (fun t a' h' => by rw [hdeep]; exact Rq l f (by omega) t a' h') ts hts (a + 1) (by omega)
    have hn := Ey l a
    have hnx := No l a (by omega)
    generalize hdp : (10 : Int) - ((f + 1 : Nat) : Int) = deep at *
    have hd : 0 <= deep /\ deep < 10 := by omega
    refine Af Tryz.func66 rfl rfl (Nat.le_of_ble_eq_true rfl) rfl (Nat.le_refl _) ?_
    repeat' (first | refine rl0 ?_ | refine rs0 (fun h => ?_) (fun h => ?_) | fail)
    refine wcb (id := 0) hnx rfl rfl rfl rfl rfl rfl rfl rfl (by repeat (first | exact Ad | refine Aa (Ab _) ?_)) rfl ?_
    generalize Aw l a = n at *
    refine wst rfl rfl trivial ?_
    refine Ca ?_
    refine C5 ?_
    refine Ln (ι := Unit) (fun _ => True) (fun _ => [(0, .ptr 0 0), (1, Ai want), (2, Ai deep), (6, .ptr 1 0), (7, Ai n), (8, A7 (Dp want n))]) (fun _ => ⟨[[Co l, Ai ((a + 1 : Nat) : Int)], [Ai 0, Ai 0, By ⟨#[]⟩, .d (.v (.slice none 0 0))]], []⟩) ?_ (fun _ _ => ?_)
    . refine Bx ?_
      refine wst rfl rfl trivial ?_
      refine wst rfl rfl trivial ?_
      refine wst rfl rfl trivial ?_
      refine H9 rfl rfl rfl ⟨rfl⟩ (fun h => ?_) (fun h => ?_)
      . repeat refine E7 rfl ?_
        refine wst rfl rfl trivial ?_
        refine wst rfl rfl trivial ?_
        refine Ca ?_
        refine ⟨(), trivial, ?_, rfl⟩
        have e : Dp want n = true := by unfold Dp; rw [h]; rfl
        rw [e]
        exact (by repeat (first | exact Ag | refine Ac rfl ?_))
      . refine wst rfl rfl trivial ?_
        refine wst rfl rfl trivial ?_
        refine wst rfl rfl trivial ?_
        refine H9 rfl rfl rfl ⟨rfl⟩ (fun h2 => ?_) (fun h2 => ?_)
        . refine wst rfl rfl trivial ?_
          refine Apb rfl rfl rfl rfl ?_
          refine wst rfl rfl trivial ?_
          refine wst rfl rfl trivial ?_
          refine wst rfl rfl trivial ?_
          refine wst rfl rfl trivial ?_
          refine Ca ?_
          refine ⟨(), trivial, ?_, rfl⟩
          have e : Dp want n = decide (V3 .i64 n 128 = 0) := by unfold Dp; rw [h, h2]; rfl
          rw [e]
          exact (by repeat (first | exact Ag | refine Ac rfl ?_))
        . repeat refine E7 rfl ?_
          refine wst rfl rfl trivial ?_
          refine wst rfl rfl trivial ?_
          refine wst rfl rfl trivial ?_
          refine Ca ?_
          refine ⟨(), trivial, ?_, rfl⟩
          have e : Dp want n = false := by unfold Dp; rw [h, h2]; rfl
          rw [e]
          exact (by repeat (first | exact Ag | refine Ac rfl ?_))
    generalize Dp want n = b
    refine C5 ?_
    refine C5 ?_
    refine Ln (ι := Unit) (fun _ => True) (fun _ => [(0, .ptr 0 0), (1, Ai want), (2, Ai deep), (6, .ptr 1 0), (7, Ai n), (8, A7 b), (29, A7 false)]) (fun _ => ⟨[[Co l, Ai ((a + 1 : Nat) : Int)], [Ai 0, Ai 0, By ⟨#[]⟩, .d (.v (.slice none 0 0))]], []⟩) ?_ (fun _ _ => ?_)
    . refine Bx ?_
      refine wst rfl rfl trivial ?_
      refine wst rfl rfl trivial ?_
      refine wst rfl rfl trivial ?_
      refine H9 rfl rfl rfl ⟨rfl⟩ (fun h => ?_) (fun h => ?_)
      . exfalso; simp at h; omega
      . refine wst rfl rfl trivial ?_
        refine wst rfl rfl ⟨by omega, by omega⟩ ?_
        refine wst rfl rfl trivial ?_
        refine wst rfl rfl trivial ?_
        refine Ca ?_
        refine ⟨(), trivial, ?_, rfl⟩
        have e : decide (n % 16 < 5) = false := by simp; omega
        exact Ac rfl (Ac rfl (Ac rfl (Ac rfl (Ac rfl (Ac rfl (Ac (show PV.d (.v (.bool (decide (n % 16 < 5)))) = _ by rw [e]) Ag))))))
    cases b
    . repeat' (first | refine rl0 ?_ | refine rs0 (fun h => ?_) (fun h => ?_) | fail)
      . have e : A8 false n = (11 + n / 16 % 6, [1, 1]) := by unfold A8; rw [if_pos rfl,  if_pos (by simpa using h)]
        rw [e]
        refine wcb (id := 0) (hsub (11 + n / 16 % 6) [1, 1] (by decide)) rfl rfl rfl rfl rfl rfl rfl rfl (by repeat (first | exact Ad | refine Aa (Ab _) ?_)) rfl ?_
        repeat' (first | refine rl0 ?_ | refine rs0 (fun h => ?_) (fun h => ?_) | fail)
        rfl
      . rename_i g1
        have e : A8 false n = (6, [2]) := by unfold A8; rw [if_pos rfl, if_neg (by simpa using g1), if_pos (by simpa using h)]
        rw [e]
        refine wcb (id := 0) (hsub (6) [2] (by decide)) rfl rfl rfl rfl rfl rfl rfl rfl (by repeat (first | exact Ad | refine Aa (Ab _) ?_)) rfl ?_
        repeat' (first | refine rl0 ?_ | refine rs0 (fun h => ?_) (fun h => ?_) | fail)
        rfl
      . rename_i g1 g2
        have e : A8 false n = (17 + n / 16 % 2, [2, 2]) := by unfold A8; rw [if_pos rfl, if_neg (by simpa using g1), if_neg (by simpa using g2), if_pos (by simpa using h)]
        rw [e]
        refine wcb (id := 0) (hsub (17 + n / 16 % 2) [2, 2] (by decide)) rfl rfl rfl rfl rfl rfl rfl rfl (by repeat (first | exact Ad | refine Aa (Ab _) ?_)) rfl ?_
        repeat' (first | refine rl0 ?_ | refine rs0 (fun h => ?_) (fun h => ?_) | fail)
        rfl
      . rename_i g1 g2
        have e : A8 false n = (19, [2, 2, 2]) := by unfold A8; rw [if_pos rfl, if_neg (by simpa using g1), if_neg (by simpa using g2), if_neg (by simpa using h)]
        rw [e]
        refine wcb (id := 0) (hsub (19) [2, 2, 2] (by decide)) rfl rfl rfl rfl rfl rfl rfl rfl (by repeat (first | exact Ad | refine Aa (Ab _) ?_)) rfl ?_
        repeat' (first | refine rl0 ?_ | refine rs0 (fun h => ?_) (fun h => ?_) | fail)
        rfl
    . repeat' (first | refine rl0 ?_ | refine rs0 (fun h => ?_) (fun h => ?_) | fail)
      . have e : A8 true n = (5, [1]) := by unfold A8; rw [if_neg (by simp),  if_pos (by simpa using h)]
        rw [e]
        refine wcb (id := 0) (hsub (5) [1] (by decide)) rfl rfl rfl rfl rfl rfl rfl rfl (by repeat (first | exact Ad | refine Aa (Ab _) ?_)) rfl ?_
        repeat' (first | refine rl0 ?_ | refine rs0 (fun h => ?_) (fun h => ?_) | fail)
        rfl
      . rename_i g1
        have e : A8 true n = (7 + n / 16 % 4, [1, 1]) := by unfold A8; rw [if_neg (by simp), if_neg (by simpa using g1), if_pos (by simpa using h)]
        rw [e]
        refine wcb (id := 0) (hsub (7 + n / 16 % 4) [1, 1] (by decide)) rfl rfl rfl rfl rfl rfl rfl rfl (by repeat (first | exact Ad | refine Aa (Ab _) ?_)) rfl ?_
        repeat' (first | refine rl0 ?_ | refine rs0 (fun h => ?_) (fun h => ?_) | fail)
        rfl
      . rename_i g1
        have e : A8 true n = (19, [2, 1, 1]) := by unfold A8; rw [if_neg (by simp), if_neg (by simpa using g1), if_neg (by simpa using h)]
        rw [e]
        refine wcb (id := 0) (hsub (19) [2, 1, 1] (by decide)) rfl rfl rfl rfl rfl rfl rfl rfl (by repeat (first | exact Ad | refine Aa (Ab _) ?_)) rfl ?_
        repeat' (first | refine rl0 ?_ | refine rs0 (fun h => ?_) (fun h => ?_) | fail)
        rfl
end Go.Proofs.YtiledamgmppcmaaGreatDoor
namespace Go.Proofs.YtiledamgmppcmaaGreatDoor
open Go.RowKit
def Adj : List ByteArray := [⟨#[120]⟩, ⟨#[121]⟩, ⟨#[122]⟩]
theorem vars_do : An 21 [] ⟨[], []⟩ (.ret (D8 Adj)) ⟨[], []⟩ := by
  refine Af Tryz.func21 rfl rfl (Nat.le_of_ble_eq_true rfl) rfl (Nat.le_refl _) ?_
  repeat' (first | refine rl0 ?_ | refine rs0 (fun h => ?_) (fun h => ?_) | fail)
  rfl
def eqS : List ByteArray -> List ByteArray -> Bool
  | [], [] => true
  | x :: l, y :: l' => decide (x = y) && eqS l l'
  | _, _ => false
theorem Aaq : ∀ {l l' : List ByteArray}, l.length ≠ l'.length -> eqS l l' = false
  | [], [], h => absurd rfl h
  | _ :: _, [], _ => rfl
  | [], _ :: _, _ => rfl
  | x :: l, y :: l', h => by simp only [eqS, Aaq (l := l) (l' := l') (by simpa using h), Bool.and_false]
theorem Aim {l l' : List ByteArray} {i : Nat} {x y : ByteArray} (hx : l[i]? = some x) (hy : l'[i]? = some y) : eqS (l.drop i) (l'.drop i) = (decide (x = y) && eqS (l.drop (i + 1)) (l'.drop (i + 1))) := by
  obtain ⟨h1, rfl⟩ := List.getElem?_eq_some_iff.1 hx
  obtain ⟨h2, rfl⟩ := List.getElem?_eq_some_iff.1 hy
  rw [List.drop_eq_getElem_cons h1, List.drop_eq_getElem_cons h2]; rfl
theorem Amf : ∀ {l l' : List ByteArray}, eqS l l' = true <-> l = l'
  | [], [] => by simp [eqS]
  | _ :: _, [] => by simp [eqS]
  | [], _ :: _ => by simp [eqS]
  | x :: l, y :: l' => by simp [eqS, Amf (l := l) (l' := l')]
set_option maxHeartbeats 400000 in
theorem texts_do (a b : List ByteArray) : An 20 [D8 a, D8 b] ⟨[], []⟩ (.ret (A7 (eqS a b))) ⟨[], []⟩ := by
  refine G5 Tryz.func20 rfl rfl (Nat.le_of_ble_eq_true rfl) rfl (Nat.le_refl _) ?_
  intro hf
  have hl : a.length <= 9223372036854775807 := by have := hf.1; simpa [Amo] using this
  repeat' (first | refine rl0 ?_ | refine rs0 (fun h => ?_) (fun h => ?_) | fail)
  . rw [Aaq (by simp at h; omega)]
  have hab : a.length = b.length := by simp at h; omega
  refine Bt (ι := Nat) (ok := fun i => i <= a.length /\ eqS a b = eqS (a.drop i) (b.drop i)) (L := fun i => [(0, D8 a), (1, D8 b), (5, Ai i)]) (Sx := fun _ => ⟨[], []⟩) (μ := fun i => a.length - i) 0 ⟨Nat.zero_le _, rfl⟩ (by repeat (first | exact Ag | refine Ac rfl ?_)) rfl ?_
  rintro i ⟨hi, hm⟩
  repeat' (first | refine rl0 ?_ | refine rs0 (fun h => ?_) (fun h => ?_) | fail)
  . have hlt : i < a.length := by simpa using h
    obtain ⟨x, hx⟩ : ∃ x, a[i]? = some x := ⟨_, List.getElem?_eq_getElem hlt⟩
    obtain ⟨y, hy⟩ : ∃ y, b[i]? = some y := ⟨_, List.getElem?_eq_getElem (by omega)⟩
    refine Ib _ rfl rfl rfl rfl rfl (Ku hx) (by omega) ?_
    repeat' (first | refine rl0 ?_ | refine rs0 (fun h => ?_) (fun h => ?_) | fail)
    refine Ib _ rfl rfl rfl rfl rfl (Ku hy) (by omega) ?_
    repeat' (first | refine rl0 ?_ | refine rs0 (fun h => ?_) (fun h => ?_) | fail)
    . rw [hm, Aim hx hy]; simp_all
    . exact ⟨i + 1, ⟨by omega, by rw [hm, Aim hx hy]; simp_all⟩, by omega, (by repeat (first | exact Ag | refine Ac rfl ?_)), rfl⟩
  . rw [hm, List.drop_of_length_le (by simp at h; omega), List.drop_of_length_le (by simp at h; omega)]; rfl
end Go.Proofs.YtiledamgmppcmaaGreatDoor
namespace Go.Proofs.YtiledamgmppcmaaGreatDoor
open Go.RowKit
def Ic (l : List UInt8) (want : Int) : Ex := (Gd l 9 want 0).1
theorem O1 (l : List UInt8) (want : Int) : An 28 [Co l, Ai want] ⟨[], []⟩ (.ret (exP (Ic l want))) ⟨[], []⟩ := by
  refine Af Tryz.func28 rfl rfl (Nat.le_of_ble_eq_true rfl) rfl (Nat.le_refl _) ?_
  repeat' (first | refine rl0 ?_ | refine rs0 (fun h => ?_) (fun h => ?_) | fail)
  refine wcb (id := 1) (Rq l 9 (by omega) want 0 (by decide)) rfl rfl rfl rfl rfl rfl rfl rfl (by repeat (first | exact Ad | refine Aa (Ab _) ?_)) rfl ?_
  repeat' (first | refine rl0 ?_ | refine rs0 (fun h => ?_) (fun h => ?_) | fail)
  rfl
end Go.Proofs.YtiledamgmppcmaaGreatDoor
namespace Go.Proofs.YtiledamgmppcmaaGreatDoor
open Go.RowKit
theorem Af9 (l : List ByteArray) (x : Ex) : Uh l x = I0 (if x.op = 2 /\ Tz l x.name = false then l ++ [x.name] else l) x.args := by cases x; rw [Uh]; rfl
theorem Ia {l : List ByteArray} : ∀ {a : List Ex} {i : Nat} {x : Ex}, a[i]? = some x -> I0 l (a.take (i + 1)) = Uh (I0 l (a.take i)) x
  | [], i, x, h => by simp at h
  | y :: a, 0, x, h => by simp at h; subst h; simp [I0]
  | y :: a, i + 1, x, h => by
    simp only [List.getElem?_cons_succ] at h
    simp only [List.take_succ_cons, I0]
    exact Ia h
mutual
theorem addX_le : ∀ (x : Ex) (l : List ByteArray), l.length <= (Uh l x).length
  | .mk o n s a, l => by
    rw [Uh]
    refine Nat.le_trans ?_ (Abl a _)
    split <;> simp
theorem Abl : ∀ (a : List Ex) (l : List ByteArray), l.length <= (I0 l a).length
  | [], l => Nat.le_refl _
  | x :: r, l => by rw [I0]; exact Nat.le_trans (addX_le x l) (Abl r _)
end
theorem W7 : ∀ (a b : List Ex) (l : List ByteArray), I0 l (a ++ b) = I0 (I0 l a) b
  | [], b, l => rfl
  | x :: r, b, l => by simp only [List.cons_append, I0]; exact W7 r b _
set_option maxHeartbeats 1000000 in
theorem add_do : ∀ (n : Nat) (x : Ex) (l : List ByteArray), x.hgt <= n -> (Uh l x).length <= 1000000 -> An 52 [.hd 0 l.length, exP x] ⟨[], [Alg l]⟩ (.ret (.hd 0 (Uh l x).length)) ⟨[], [Alg (Uh l x)]⟩ := by
  intro n
  induction n with
  | zero => intro x l h; cases x; simp [Ex.hgt] at h
  | succ n ih =>
    intro x l hn hlen
    refine G5 Tryz.func52 rfl rfl (Nat.le_of_ble_eq_true rfl) rfl (Nat.le_refl _) ?_
    intro hf
    have hfit : x.args.length <= 9223372036854775807 := by rw [<- A6]; exact hf.2.1.2.2.2.1
    have hmono : ∀ (l' : List ByteArray), I0 l' x.args = Uh l x -> ∀ i, (I0 l' (x.args.take i)).length <= 1000000 := by
      intro l' he i
      refine Nat.le_trans ?_ hlen
      rw [<- he]
      conv => rhs; rw [<- List.take_append_drop i x.args, W7]
      exact Abl _ _
    repeat' (first | refine rl0 ?_ | refine rs0 (fun h => ?_) (fun h => ?_) | fail)
    . refine D3 (in_do l x.name) rfl rfl rfl rfl rfl (Aa (Q5 (Jh rfl)) (Aa (Ab _) Ad)) ?_
      repeat' (first | refine rl0 ?_ | refine rs0 (fun h => ?_) (fun h => ?_) | fail)
      . have he : I0 (l ++ [x.name]) x.args = Uh l x := by rw [Af9, if_pos ⟨by simp_all, by simp_all⟩]
        have h0 := hmono _ he 0
        simp only [List.take_zero, I0, List.length_append, List.length_singleton] at h0
        refine Alh (news := [Xj x.name]) (S' := ⟨[(exP x).parts], [Alg (l ++ [x.name])]⟩) rfl rfl rfl rfl rfl rfl ?_ ?_ ?_ ?_
        . simp; show _ * 16 <= _; omega
        . simp; omega
        . simp [PS.setTok, Alg, PV.parts]
        repeat' (first | refine rl0 ?_ | refine rs0 (fun h => ?_) (fun h => ?_) | fail)
        refine Bt (ι := Nat) (ok := fun i => i <= x.args.length) (L := fun i => [(0, .hd 0 (I0 ((l ++ [x.name])) (x.args.take i)).length), (3, .ptr 0 0), (5, Ai i)]) (Sx := fun i => ⟨[(exP x).parts], [Alg (I0 ((l ++ [x.name])) (x.args.take i))]⟩) (μ := fun i => x.args.length - i) 0 (Nat.zero_le _) (Ac (by simp only [List.take_zero, I0]; first | rfl | (simp; rfl)) (by repeat (first | exact Ag | refine Ac rfl ?_))) rfl ?_
        rintro i hi
        repeat' (first | refine rl0 ?_ | refine rs0 (fun h => ?_) (fun h => ?_) | fail)
        . have hlt : i < x.args.length := by rw [A6] at h; simpa using h
          obtain ⟨y, hy⟩ : ∃ y, x.args[i]? = some y := ⟨_, List.getElem?_eq_getElem hlt⟩
          refine wix _ rfl rfl rfl rfl rfl (Cf hy) (by omega) ?_
          repeat' (first | refine rl0 ?_ | refine rs0 (fun h => ?_) (fun h => ?_) | fail)
          have hm := hmono _ he (i + 1)
          rw [Ia hy] at hm
          refine wct (t := 0) (ih y _ (by have := Mn (List.mem_of_getElem? hy); omega) hm) rfl rfl rfl rfl rfl (by repeat (first | exact Ad | refine Aa (Ab _) ?_)) rfl ?_
          repeat' (first | refine rl0 ?_ | refine rs0 (fun h => ?_) (fun h => ?_) | fail)
          exact ⟨i + 1, by omega, by omega, by rw [Ia hy]; exact (by repeat (first | exact Ag | refine Ac rfl ?_)), by rw [Ia hy]; rfl⟩
        . have hi' : i = x.args.length := by rw [A6] at h; simp at h; omega
          subst hi'
          rw [List.take_length, he]
          refine q15 ?_
          rfl
      . have he : I0 l x.args = Uh l x := by rw [Af9, if_neg (by simp_all)]
        refine Bt (ι := Nat) (ok := fun i => i <= x.args.length) (L := fun i => [(0, .hd 0 (I0 (l) (x.args.take i)).length), (3, .ptr 0 0), (5, Ai i)]) (Sx := fun i => ⟨[(exP x).parts], [Alg (I0 (l) (x.args.take i))]⟩) (μ := fun i => x.args.length - i) 0 (Nat.zero_le _) (Ac (by simp only [List.take_zero, I0]; first | rfl | (simp; rfl)) (by repeat (first | exact Ag | refine Ac rfl ?_))) rfl ?_
        rintro i hi
        repeat' (first | refine rl0 ?_ | refine rs0 (fun h => ?_) (fun h => ?_) | fail)
        . have hlt : i < x.args.length := by rw [A6] at h; simpa using h
          obtain ⟨y, hy⟩ : ∃ y, x.args[i]? = some y := ⟨_, List.getElem?_eq_getElem hlt⟩
          refine wix _ rfl rfl rfl rfl rfl (Cf hy) (by omega) ?_
          repeat' (first | refine rl0 ?_ | refine rs0 (fun h => ?_) (fun h => ?_) | fail)
          have hm := hmono _ he (i + 1)
          rw [Ia hy] at hm
          refine wct (t := 0) (ih y _ (by have := Mn (List.mem_of_getElem? hy); omega) hm) rfl rfl rfl rfl rfl (by repeat (first | exact Ad | refine Aa (Ab _) ?_)) rfl ?_
          repeat' (first | refine rl0 ?_ | refine rs0 (fun h => ?_) (fun h => ?_) | fail)
          exact ⟨i + 1, by omega, by omega, by rw [Ia hy]; exact (by repeat (first | exact Ag | refine Ac rfl ?_)), by rw [Ia hy]; rfl⟩
        . have hi' : i = x.args.length := by rw [A6] at h; simp at h; omega
          subst hi'
          rw [List.take_length, he]
          refine q15 ?_
          rfl
    . have he : I0 l x.args = Uh l x := by rw [Af9, if_neg (by simp_all)]
      refine Bt (ι := Nat) (ok := fun i => i <= x.args.length) (L := fun i => [(0, .hd 0 (I0 (l) (x.args.take i)).length), (3, .ptr 0 0), (5, Ai i)]) (Sx := fun i => ⟨[(exP x).parts], [Alg (I0 (l) (x.args.take i))]⟩) (μ := fun i => x.args.length - i) 0 (Nat.zero_le _) (Ac (by simp only [List.take_zero, I0]; first | rfl | (simp; rfl)) (by repeat (first | exact Ag | refine Ac rfl ?_))) rfl ?_
      rintro i hi
      repeat' (first | refine rl0 ?_ | refine rs0 (fun h => ?_) (fun h => ?_) | fail)
      . have hlt : i < x.args.length := by rw [A6] at h; simpa using h
        obtain ⟨y, hy⟩ : ∃ y, x.args[i]? = some y := ⟨_, List.getElem?_eq_getElem hlt⟩
        refine wix _ rfl rfl rfl rfl rfl (Cf hy) (by omega) ?_
        repeat' (first | refine rl0 ?_ | refine rs0 (fun h => ?_) (fun h => ?_) | fail)
        have hm := hmono _ he (i + 1)
        rw [Ia hy] at hm
        refine wct (t := 0) (ih y _ (by have := Mn (List.mem_of_getElem? hy); omega) hm) rfl rfl rfl rfl rfl (by repeat (first | exact Ad | refine Aa (Ab _) ?_)) rfl ?_
        repeat' (first | refine rl0 ?_ | refine rs0 (fun h => ?_) (fun h => ?_) | fail)
        exact ⟨i + 1, by omega, by omega, by rw [Ia hy]; exact (by repeat (first | exact Ag | refine Ac rfl ?_)), by rw [Ia hy]; rfl⟩
      . have hi' : i = x.args.length := by rw [A6] at h; simp at h; omega
        subst hi'
        rw [List.take_length, he]
        refine q15 ?_
        rfl
end Go.Proofs.YtiledamgmppcmaaGreatDoor
namespace Go.Proofs.YtiledamgmppcmaaGreatDoor
open Go.RowKit
set_option maxHeartbeats 1000000 in
theorem Acw (vars : List ByteArray) (x : Ex) (hs : x.small) : An 23 [exP x, D8 vars] ⟨[], []⟩ (.ret (.tup [Ai (Si vars x).1, Ai (Si vars x).2])) ⟨[], []⟩ := by
  refine Af Tryz.func23 rfl rfl (Nat.le_of_ble_eq_true rfl) rfl (Nat.le_refl _) ?_
  repeat' (first | refine rl0 ?_ | refine rs0 (fun h => ?_) (fun h => ?_) | fail)
  refine D3 (Lb x hs) rfl rfl rfl rfl rfl (by repeat (first | exact Ad | refine Aa (Ab _) ?_)) ?_
  repeat' (first | refine rl0 ?_ | refine rs0 (fun h => ?_) (fun h => ?_) | fail)
  . rw [show Si vars x = (0, 350) from by have := Cr x; simp_all [Si]]
  have hc : Bg x = 0 := (Cr x).2 (by simpa using h)
  refine D3 (kind_do vars x.hgt x (Nat.le_refl _) (Aak hc)) rfl rfl rfl rfl rfl (by repeat (first | exact Ad | refine Aa (Ab _) ?_)) ?_
  repeat' (first | refine rl0 ?_ | refine rs0 (fun h => ?_) (fun h => ?_) | fail)
  . rw [show Si vars x = (0, 351) from by simp_all [Si]]
  . rw [show Si vars x = (Kr vars x, 0) from by simp_all [Si]]
end Go.Proofs.YtiledamgmppcmaaGreatDoor
namespace Go.Proofs.YtiledamgmppcmaaGreatDoor
open Go.RowKit
theorem Aob (x : Ex) (hs : x.small) (hlen : Bg x = 0 -> (Uh [] x).length <= 1000000) : An 15 [exP x] ⟨[], []⟩ (.ret (.tup [D8 (Nn x).1, Ai (Nn x).2])) ⟨[], []⟩ := by
  by_cases hc : Bg x = 0
  . have hv := (Cr x).1 hc
    have e : Nn x = (Uh [] x, 0) := by unfold Nn; rw [if_pos hc]
    rw [e]
    refine Ki (S' := ⟨[], [Alg (Uh [] x)]⟩) 0 0 ?_ (Nat.le_refl _) (Nat.le_refl _) rfl rfl
    refine A4 (r' := .tup [.hd 0 (Uh [] x).length, Ai 0]) ?_ (Bh (Aa (Q5 (Jh rfl)) (Aa (Ab _) Ad)))
    refine Af Tryz.func15 rfl rfl (Nat.le_of_ble_eq_true rfl) rfl (by simp) ?_
    repeat' (first | refine rl0 ?_ | refine rs0 (fun h => ?_) (fun h => ?_) | fail)
    have hr := Lb x hs
    rw [hv] at hr
    refine D3 hr rfl rfl rfl rfl rfl (by repeat (first | exact Ad | refine Aa (Ab _) ?_)) ?_
    repeat' (first | refine rl0 ?_ | refine rs0 (fun h => ?_) (fun h => ?_) | fail)
    refine wctN (add_do x.hgt x [] (Nat.le_refl _) (hlen hc)) rfl rfl rfl rfl (by repeat (first | exact Ad | refine Aa (Ab _) ?_)) rfl rfl ?_
    repeat' (first | refine rl0 ?_ | refine rs0 (fun h => ?_) (fun h => ?_) | fail)
    rfl
  . have hv : Ge x = false := by
      cases e : Ge x with
      | false => rfl
      | true => exact absurd ((Cr x).2 e) hc
    have e : Nn x = ([], 350) := by unfold Nn; rw [if_neg hc]
    rw [e]
    refine A4 (r' := .tup [.d (.v (.slice none 0 0)), Ai 350]) ?_ (by repeat' (first | exact Ad | refine Aa ?_ ?_ | exact Bo | exact Ab _ | refine A9 ?_ | refine Bh ?_))
    refine Af Tryz.func15 rfl rfl (Nat.le_of_ble_eq_true rfl) rfl (Nat.le_refl _) ?_
    repeat' (first | refine rl0 ?_ | refine rs0 (fun h => ?_) (fun h => ?_) | fail)
    have hr := Lb x hs
    rw [hv] at hr
    refine D3 hr rfl rfl rfl rfl rfl (by repeat (first | exact Ad | refine Aa (Ab _) ?_)) ?_
    repeat' (first | refine rl0 ?_ | refine rs0 (fun h => ?_) (fun h => ?_) | fail)
    rfl
end Go.Proofs.YtiledamgmppcmaaGreatDoor
namespace Go.Proofs.YtiledamgmppcmaaGreatDoor
open Go.RowKit
noncomputable section
end
end Go.Proofs.YtiledamgmppcmaaGreatDoor
namespace Go.Proofs.YtiledamgmppcmaaGreatDoor
open Go.RowKit
noncomputable section
section
variable (P : Program) (orc : Nat -> List PV -> PS -> Option (POut × PS)) (rows : Nat -> Bool)
end
end
end Go.Proofs.YtiledamgmppcmaaGreatDoor
namespace Go.Proofs.YtiledamgmppcmaaGreatDoor
open Go.RowKit
section
variable {N : Nat} {ops : Array Oper} {rest : List Oper} {o : Oper} {F : Nat -> PV} {S S' : PS} {q : WRes -> Prop}
theorem wrow0 {t : TypeId} (hg : Am ops F o = some true) (ho : o.op = .buildSlice t 0 #[]) (hk : (Bq t && Nat.beq (tyi t).kind 2) = true) (hS : S.addTok ⟨0, (tyi t).ek, [], (tyi t).elem⟩ = S') (kk : WK Tryz.prog N ops rest (Ch N o.dst (.hd S.toks.length 0) F) S' q) : WK Tryz.prog N ops (o :: rest) F S q := by
  subst hS
  simp only [Bool.and_eq_true] at hk
  exact Kb hg (J6 (len := 0) (out := []) (ds := []) ho (Gl t hk.1) (Nat.eq_of_beq_eq_true hk.2) (by simp) rfl (by simp [P4, E9, Qc]) rfl (by simp)) kk
end
structure BendS where
  at_ : Nat
  what : Nat
  n : Int
  name : ByteArray
  X : Ex
@[reducible] def Alz (b : BendS) : PV := .agg [.d (.v (.int .u8 b.at_)), .d (.v (.int .u8 b.what)), Ai b.n, By b.name, Ai b.X.op, Ai b.X.n, By b.X.name, .d (.sl 4 (Eb b.X.args))]
theorem Ajl {G : Nat -> Nat -> Prop} {w : World} {a c d : Value} : ∀ {l : List (List DV)} {b o : Nat}, Dd G w 4 (l ++ [[.v a, .v c, .v d, .v (.slice none 0 0)]]) b o -> Dd G w 4 (l ++ [[.v a, .v c, .v d, .sl 4 []]]) b o
  | [], b, o, h => by
    simp only [List.nil_append, Dd, Bn] at h |-
    obtain ⟨h1, ⟨h2, h3, h4, ⟨u, h5, h6⟩, h7⟩, h8⟩ := h
    refine ⟨rfl, ⟨h2, h3, h4, ⟨u, h5, ?_⟩, h7⟩, h8⟩
    simp only [Ef] at h6 |-
    exact ⟨none, 0, h6.1, by simp, by simp, fun e => absurd rfl e⟩
  | e :: l, b, o, h => by
    simp only [List.cons_append, Dd] at h |-
    exact ⟨h.1, h.2.1, Ajl h.2.2⟩
theorem coe_rows {S : PS} {l : List (List DV)} {a c d : Value} : Coe S (.d (.sl 4 (l ++ [[.v a, .v c, .v d, .v (.slice none 0 0)]]))) (.d (.sl 4 (l ++ [[.v a, .v c, .v d, .sl 4 []]]))) := fun K w u _ h => by
  simp only [Rep, Ef] at h |-
  obtain ⟨p, cap, h1, h2, h3, h4⟩ := h
  refine ⟨p, cap, by simpa using h1, by simpa using h2, h3, fun _ => ?_⟩
  obtain ⟨b, o, h5, h6, h7⟩ := h4 (by simp)
  exact ⟨b, o, h5, by simpa using h6, Ajl h7⟩
theorem Al5 {S : PS} {p q r : PV} (h : Coe S p q) (h' : Coe S q r) : Coe S p r := fun K w u hI hr => h' K w u hI (h K w u hI hr)
def BendS.ok (b : BendS) : Prop := b.at_ < 256 /\ b.what < 256
def Aio : Ex := .mk 3 0 ⟨#[]⟩ []
def Ad1 (b : BendS) (x : Ex) : Ex :=
  if b.what % 6 = 0 then .mk b.n x.n x.name x.args else if b.what % 6 = 1 then .mk x.op b.n x.name x.args else if b.what % 6 = 2 then .mk x.op x.n (b.name.extract 0 (min b.name.size 14)) x.args
  else if b.what % 6 = 3 then .mk x.op x.n x.name (x.args ++ [Aio]) else if b.what % 6 = 4 then .mk x.op x.n x.name [] else b.X
mutual
def Q4 (b : BendS) (p : Nat) : Ex -> Ex × Nat
  | .mk o n s l => if p = b.at_ then (Ad1 b (.mk o n s l), p + 1) else (.mk o n s (Jz b (p + 1) l).1, (Jz b (p + 1) l).2)
def Jz (b : BendS) (p : Nat) : List Ex -> List Ex × Nat
  | [] => ([], p)
  | x :: r => ((Q4 b p x).1 :: (Jz b (Q4 b p x).2 r).1, (Jz b (Q4 b p x).2 r).2)
end
theorem Aid (b : BendS) (p : Nat) (x : Ex) : Q4 b p x = if p = b.at_ then (Ad1 b x, p + 1) else (.mk x.op x.n x.name (Jz b (p + 1) x.args).1, (Jz b (p + 1) x.args).2) := by cases x; rw [Q4]; rfl
mutual
theorem Aie (b : BendS) : ∀ (x : Ex) (p : Nat), (Q4 b p x).2 <= p + (Uk x).length
  | .mk o n s l, p => by
    rw [Q4, Uk]
    have := Abo b l (p + 1)
    split
    . simp
    . simp only [List.length_cons]; omega
theorem Abo (b : BendS) : ∀ (l : List Ex) (p : Nat), (Jz b p l).2 <= p + (Gm l).length
  | [], p => by simp [Jz]
  | x :: r, p => by
    rw [Jz, Gm, List.length_append]
    have h1 := Aie b x p
    have h2 := Abo b r (Q4 b p x).2
    simp only; omega
end
theorem Aah (b : BendS) : ∀ {l : List Ex} {p i : Nat} {x : Ex}, l[i]? = some x -> Jz b p (l.take (i + 1)) = ((Jz b p (l.take i)).1 ++ [(Q4 b (Jz b p (l.take i)).2 x).1], (Q4 b (Jz b p (l.take i)).2 x).2)
  | [], p, i, x, h => by simp at h
  | y :: l, p, 0, x, h => by simp at h; subst h; simp [Jz]
  | y :: l, p, i + 1, x, h => by
    simp only [List.getElem?_cons_succ] at h
    have := Aah b (p := (Q4 b p y).2) h
    simp only [List.take_succ_cons, Jz, this, List.cons_append]
theorem Ad0 (b : BendS) : ∀ (l : List Ex) (p : Nat), (Jz b p l).1.length = l.length
  | [], p => by simp [Jz]
  | x :: r, p => by rw [Jz]; simp [Ad0 b r]
theorem Ady : ∀ {l : List Ex} {i : Nat} {x : Ex}, l[i]? = some x -> (Gm (l.take i)).length + (Uk x).length <= (Gm l).length
  | [], i, x, h => by simp at h
  | y :: l, 0, x, h => by simp at h; subst h; simp [Gm]
  | y :: l, i + 1, x, h => by
    simp only [List.getElem?_cons_succ] at h
    simp only [List.take_succ_cons, Gm, List.length_append]
    have := Ady h
    omega
mutual
def Ex.thin : Ex -> Prop
  | .mk _ _ _ l => l.length <= 3 /\ Aac l
def Aac : List Ex -> Prop
  | [] => True
  | x :: l => x.thin /\ Aac l
end
theorem thin_eq {x : Ex} (h : x.thin) : x.args.length <= 3 /\ Aac x.args := by cases x; exact h
theorem Afy : ∀ {l : List Ex} {i : Nat} {x : Ex}, Aac l -> l[i]? = some x -> x.thin
  | [], _, _, _, h => by simp at h
  | y :: l, 0, x, hs, h => by simp at h; subst h; exact hs.1
  | y :: l, i + 1, x, hs, h => by simp at h; exact Afy hs.2 h
theorem rl8 {G X : Prop} (h : X) (t : Hx X -> G := by (intro h; (first | (refine wrow0 rfl rfl rfl (by apply Ob rfl; repeat (first | exact Bp rfl | apply Gx rfl | apply Gy rfl | apply Gz rfl | exact Je rfl | apply Gg rfl | exact Jf rfl | apply Gh rfl)) ?_) | refine wst rfl rfl trivial ?_ | refine wan rfl rfl trivial ?_ | refine Ca ?_ | refine Gw ?_ | refine C5 ?_ | refine Bx ?_ | refine Hy ?_ | refine Iw ?_ | refine Jq ?_ | refine Iv ?_ | refine Nu rfl ?_ | refine Nt rfl ?_ | refine E7 rfl ?_ | refine Zy rfl ?_ | refine wst rfl rfl (by first | (simp only [IntKind.lo, IntKind.hi]; omega) | omega) ?_ | refine wan rfl rfl (by first | (simp only [IntKind.lo, IntKind.hi]; omega) | omega) ?_ | (show WK _ _ _ _ _ _ _; refine wstB rfl rfl (by first | (apply Ck rfl; repeat (first | exact Bp rfl | apply Gx rfl | apply Gy rfl | apply Gz rfl)) | exact Lk rfl | (dsimp only [List.length_cons, List.length_nil, List.length_append, Nat.reduceAdd]; rfl) | rfl) (by apply Ob rfl; repeat (first | exact Bp rfl | apply Gx rfl | apply Gy rfl | apply Gz rfl | exact Je rfl | apply Gg rfl | exact Jf rfl | apply Gh rfl)) (by first | exact True.intro | (simp only [IntKind.lo, IntKind.hi]; omega) | omega) ?_) | (show WA _ _ _ chN _ _ _ _ _ _ _ _ _; refine wanB rfl rfl (by first | (apply Ck rfl; repeat (first | exact Bp rfl | apply Gx rfl | apply Gy rfl | apply Gz rfl)) | exact Lk rfl | (dsimp only [List.length_cons, List.length_nil, List.length_append, Nat.reduceAdd]; rfl) | rfl) (by first | exact True.intro | (simp only [IntKind.lo, IntKind.hi]; omega) | omega) ?_) | refine Dx chN [] [] rfl (by kernel_rfl) ?_ | refine waf rfl rfl (fun _ _ => rfl) trivial ?_ | refine waf rfl rfl (fun _ _ => rfl) (by first | (simp only [IntKind.lo, IntKind.hi]; omega) | omega) ?_ | refine wap rfl rfl rfl trivial ?_ | refine wap rfl rfl rfl (by first | (simp only [IntKind.lo, IntKind.hi]; omega) | omega) ?_ | (show WA _ _ _ _ _ _ _ _ _ _ _ _ _; refine wafB rfl rfl (fun _ _ => rfl) (by first | (apply Ck rfl; repeat (first | exact Bp rfl | apply Gx rfl | apply Gy rfl | apply Gz rfl)) | exact Lk rfl | (dsimp only [List.length_cons, List.length_nil, List.length_append, Nat.reduceAdd]; rfl) | rfl) (by first | exact True.intro | (simp only [IntKind.lo, IntKind.hi]; omega) | omega) ?_) | (show WA _ _ _ _ _ _ _ _ _ _ _ _ _; refine wapB rfl rfl rfl (by first | (apply Ck rfl; repeat (first | exact Bp rfl | apply Gx rfl | apply Gy rfl | apply Gz rfl)) | exact Lk rfl | (dsimp only [List.length_cons, List.length_nil, List.length_append, Nat.reduceAdd]; rfl) | rfl) (by first | exact True.intro | (simp only [IntKind.lo, IntKind.hi]; omega) | omega) ?_) | (show WA _ _ _ _ _ _ _ _ _ _ _ _ _; refine wac rfl rfl rfl (by first | (apply Ck rfl; repeat (first | exact Bp rfl | apply Gx rfl | apply Gy rfl | apply Gz rfl)) | exact Lk rfl | (dsimp only [List.length_cons, List.length_nil, List.length_append, Nat.reduceAdd]; rfl) | rfl) (by apply Ob rfl; repeat (first | exact Bp rfl | apply Gx rfl | apply Gy rfl | apply Gz rfl | exact Je rfl | apply Gg rfl | exact Jf rfl | apply Gh rfl)) (by first | exact True.intro | (simp only [IntKind.lo, IntKind.hi]; omega) | omega) Ar ?_) | (refine fin rfl rfl (by first | exact .inr rfl | exact .inl rfl) rfl (by first | (apply Ck rfl; repeat (first | exact Bp rfl | apply Gx rfl | apply Gy rfl | apply Gz rfl)) | (apply Ae6 rfl; repeat (first | exact Bp rfl | apply Gx rfl | apply Gy rfl | apply Gz rfl)) | exact Lk rfl | rfl) ?_ rfl) | fail); (repeat' (first | (refine wrow0 rfl rfl rfl (by apply Ob rfl; repeat (first | exact Bp rfl | apply Gx rfl | apply Gy rfl | apply Gz rfl | exact Je rfl | apply Gg rfl | exact Jf rfl | apply Gh rfl)) ?_) | refine wst rfl rfl trivial ?_ | refine wan rfl rfl trivial ?_ | refine Ca ?_ | refine Gw ?_ | refine C5 ?_ | refine Bx ?_ | refine Hy ?_ | refine Iw ?_ | refine Jq ?_ | refine Iv ?_ | refine Nu rfl ?_ | refine Nt rfl ?_ | refine E7 rfl ?_ | refine Zy rfl ?_ | refine wst rfl rfl (by first | (simp only [IntKind.lo, IntKind.hi]; omega) | omega) ?_ | refine wan rfl rfl (by first | (simp only [IntKind.lo, IntKind.hi]; omega) | omega) ?_ | (show WK _ _ _ _ _ _ _; refine wstB rfl rfl (by first | (apply Ck rfl; repeat (first | exact Bp rfl | apply Gx rfl | apply Gy rfl | apply Gz rfl)) | exact Lk rfl | (dsimp only [List.length_cons, List.length_nil, List.length_append, Nat.reduceAdd]; rfl) | rfl) (by apply Ob rfl; repeat (first | exact Bp rfl | apply Gx rfl | apply Gy rfl | apply Gz rfl | exact Je rfl | apply Gg rfl | exact Jf rfl | apply Gh rfl)) (by first | exact True.intro | (simp only [IntKind.lo, IntKind.hi]; omega) | omega) ?_) | (show WA _ _ _ chN _ _ _ _ _ _ _ _ _; refine wanB rfl rfl (by first | (apply Ck rfl; repeat (first | exact Bp rfl | apply Gx rfl | apply Gy rfl | apply Gz rfl)) | exact Lk rfl | (dsimp only [List.length_cons, List.length_nil, List.length_append, Nat.reduceAdd]; rfl) | rfl) (by first | exact True.intro | (simp only [IntKind.lo, IntKind.hi]; omega) | omega) ?_) | refine Dx chN [] [] rfl (by kernel_rfl) ?_ | refine waf rfl rfl (fun _ _ => rfl) trivial ?_ | refine waf rfl rfl (fun _ _ => rfl) (by first | (simp only [IntKind.lo, IntKind.hi]; omega) | omega) ?_ | refine wap rfl rfl rfl trivial ?_ | refine wap rfl rfl rfl (by first | (simp only [IntKind.lo, IntKind.hi]; omega) | omega) ?_ | (show WA _ _ _ _ _ _ _ _ _ _ _ _ _; refine wafB rfl rfl (fun _ _ => rfl) (by first | (apply Ck rfl; repeat (first | exact Bp rfl | apply Gx rfl | apply Gy rfl | apply Gz rfl)) | exact Lk rfl | (dsimp only [List.length_cons, List.length_nil, List.length_append, Nat.reduceAdd]; rfl) | rfl) (by first | exact True.intro | (simp only [IntKind.lo, IntKind.hi]; omega) | omega) ?_) | (show WA _ _ _ _ _ _ _ _ _ _ _ _ _; refine wapB rfl rfl rfl (by first | (apply Ck rfl; repeat (first | exact Bp rfl | apply Gx rfl | apply Gy rfl | apply Gz rfl)) | exact Lk rfl | (dsimp only [List.length_cons, List.length_nil, List.length_append, Nat.reduceAdd]; rfl) | rfl) (by first | exact True.intro | (simp only [IntKind.lo, IntKind.hi]; omega) | omega) ?_) | (show WA _ _ _ _ _ _ _ _ _ _ _ _ _; refine wac rfl rfl rfl (by first | (apply Ck rfl; repeat (first | exact Bp rfl | apply Gx rfl | apply Gy rfl | apply Gz rfl)) | exact Lk rfl | (dsimp only [List.length_cons, List.length_nil, List.length_append, Nat.reduceAdd]; rfl) | rfl) (by apply Ob rfl; repeat (first | exact Bp rfl | apply Gx rfl | apply Gy rfl | apply Gz rfl | exact Je rfl | apply Gg rfl | exact Jf rfl | apply Gh rfl)) (by first | exact True.intro | (simp only [IntKind.lo, IntKind.hi]; omega) | omega) Ar ?_) | (refine fin rfl rfl (by first | exact .inr rfl | exact .inl rfl) rfl (by first | (apply Ck rfl; repeat (first | exact Bp rfl | apply Gx rfl | apply Gy rfl | apply Gz rfl)) | (apply Ae6 rfl; repeat (first | exact Bp rfl | apply Gx rfl | apply Gy rfl | apply Gz rfl)) | exact Lk rfl | rfl) ?_ rfl) | fail)); exact h.out)) : G := t ⟨h⟩
set_option maxHeartbeats 2000000 in
theorem of_here (b : BendS) (hb : b.ok) (x : Ex) (hx : x.args.length <= 3) (p : Nat) (hp : p = b.at_) : An 48 [Alz b, exP x, Ai p] ⟨[], []⟩ (.ret (.tup [exP (Ad1 b x), Ai ((p + 1 : Nat) : Int)])) ⟨[], []⟩ := by
  have h255 := hb.1
  have hw255 := hb.2
  have hpz : decide ((p : Int) = (b.at_ : Int)) = true := by simp [hp]
  by_cases h3 : b.what % 6 = 3
  . have e : Ad1 b x = .mk x.op x.n x.name (x.args ++ [Aio]) := by unfold Ad1; rw [if_neg (by omega), if_neg (by omega), if_neg (by omega), if_pos h3]
    rw [e]
    have ex : Eb (x.args ++ [Aio]) = Eb x.args ++ [[.v (.int .i64 3), .v (.int .i64 0), .v (.string ⟨#[]⟩), .sl 4 []]] := by rw [Hr]; rfl
    refine Ki (S' := ⟨[], [⟨2, 4, Eb x.args ++ [[.v (.int .i64 3), .v (.int .i64 0), .v (.string ⟨#[]⟩), .v (.slice none 0 0)]], 24⟩]⟩) 0 0 (A4 (r' := .tup [.agg [Ai x.op, Ai x.n, By x.name, .hd 0 2], Ai ((p + 1 : Nat) : Int)]) ?_ (Bh (Aa (A9 (Aa (Ab _) (Aa (Ab _) (Aa (Ab _) (Aa (by show Coe _ _ (.d (.sl 4 (Eb (x.args ++ [Aio])))); rw [ex]; exact Al5 (Q5 (Jh rfl)) coe_rows) Ad))))) (Aa (Ab _) Ad)))) (Nat.le_refl _) (Nat.le_refl _) rfl rfl
    refine Af Tryz.func48 rfl rfl (Nat.le_of_ble_eq_true rfl) rfl (by simp) ?_
    repeat' (first | refine rl8 ?_ | refine rs0 (fun h => ?_) (fun h => ?_) | fail)
    refine wst rfl rfl ⟨(by show (-9223372036854775808 : Int) <= _; omega), (by show _ <= (9223372036854775807 : Int); omega)⟩ ?_
    repeat' (first | refine rl8 ?_ | refine rs0 (fun h => ?_) (fun h => ?_) | fail)
    all_goals (try (exfalso; simp at *; omega))
    refine Alh (news := Eb x.args) (S' := ⟨[[.d (.v (.int .u8 b.at_)), .d (.v (.int .u8 b.what)), Ai b.n, By b.name, Ai b.X.op, Ai b.X.n, By b.X.name, .d (.sl 4 (Eb b.X.args))], (exP x).parts, [Ai 0, Ai 0, By ⟨#[]⟩, .d (.v (.slice none 0 0))]], [⟨1, 4, Eb x.args, 24⟩]⟩) rfl rfl rfl rfl rfl rfl ?_ ?_ rfl ?_
    . rw [A6]; show (0 + _) * 56 <= _; omega
    . rw [A6]; show 0 + _ <= _; omega
    repeat' (first | refine rl8 ?_ | refine rs0 (fun h => ?_) (fun h => ?_) | fail)
    refine Alh (news := [[.v (.int .i64 3), .v (.int .i64 0), .v (.string ⟨#[]⟩), .v (.slice none 0 0)]]) (S' := ⟨[[.d (.v (.int .u8 b.at_)), .d (.v (.int .u8 b.what)), Ai b.n, By b.name, Ai b.X.op, Ai b.X.n, By b.X.name, .d (.sl 4 (Eb b.X.args))], (exP x).parts, [Ai 0, Ai 0, By ⟨#[]⟩, .d (.v (.slice none 0 0))]], [⟨2, 4, Eb x.args ++ [[.v (.int .i64 3), .v (.int .i64 0), .v (.string ⟨#[]⟩), .v (.slice none 0 0)]], 24⟩]⟩) rfl rfl rfl rfl rfl rfl ?_ ?_ rfl ?_
    . rw [A6]; show (_ + 1) * 56 <= _; omega
    . rw [A6]; show _ + 1 <= _; omega
    repeat' (first | refine rl8 ?_ | refine rs0 (fun h => ?_) (fun h => ?_) | fail)
    rfl
  by_cases h4 : b.what % 6 = 4
  . have e : Ad1 b x = .mk x.op x.n x.name [] := by unfold Ad1; rw [if_neg (by omega), if_neg (by omega), if_neg (by omega), if_neg (by omega), if_pos h4]
    rw [e]
    refine A4 (r' := .tup [.agg [Ai x.op, Ai x.n, By x.name, .d (.v (.slice none 0 0))], Ai ((p + 1 : Nat) : Int)]) ?_ (by repeat' (first | exact Ad | refine Aa ?_ ?_ | exact Bo | exact Ab _ | refine A9 ?_ | refine Bh ?_))
    refine Af Tryz.func48 rfl rfl (Nat.le_of_ble_eq_true rfl) rfl (Nat.le_refl _) ?_
    repeat' (first | refine rl0 ?_ | refine rs0 (fun h => ?_) (fun h => ?_) | fail)
    refine wst rfl rfl ⟨(by show (-9223372036854775808 : Int) <= _; omega), (by show _ <= (9223372036854775807 : Int); omega)⟩ ?_
    repeat' (first | refine rl0 ?_ | refine rs0 (fun h => ?_) (fun h => ?_) | fail)
    all_goals (first | (exfalso; simp at *; omega) | rfl)
  . refine Af Tryz.func48 rfl rfl (Nat.le_of_ble_eq_true rfl) rfl (Nat.le_refl _) ?_
    repeat' (first | refine rl0 ?_ | refine rs0 (fun h => ?_) (fun h => ?_) | fail)
    refine wst rfl rfl ⟨(by show (-9223372036854775808 : Int) <= _; omega), (by show _ <= (9223372036854775807 : Int); omega)⟩ ?_
    repeat' (first | refine rl0 ?_ | refine rs0 (fun h => ?_) (fun h => ?_) | fail)
    all_goals (try (exfalso; simp at *; omega))
    . rw [show Ad1 b x = .mk b.n x.n x.name x.args from by unfold Ad1; rw [if_pos (by simp at h; omega)]]; rfl
    . rw [show Ad1 b x = .mk x.op b.n x.name x.args from by unfold Ad1; rw [if_neg (by simp at *; omega), if_pos (by simp at h; omega)]]; rfl
    . rw [show Ad1 b x = .mk x.op x.n (b.name.extract 0 (min b.name.size 14)) x.args from by unfold Ad1; rw [if_neg (by simp at *; omega), if_neg (by simp at *; omega), if_pos (by simp at h; omega)],
        show min b.name.size 14 = (if (14 : Int) < b.name.size then (14 : Int) else b.name.size).toNat from by split <;> omega]; rfl
    . rw [show Ad1 b x = b.X from by unfold Ad1; rw [if_neg (by simp at *; omega), if_neg (by simp at *; omega), if_neg (by simp at *; omega), if_neg h3, if_neg h4]]; rfl
end Go.Proofs.YtiledamgmppcmaaGreatDoor
namespace Go.Proofs.YtiledamgmppcmaaGreatDoor
open Go.RowKit
@[reducible] def Abn (b : BendS) : List PV := [.d (.v (.int .u8 b.at_)), .d (.v (.int .u8 b.what)), Ai b.n, By b.name, Ai b.X.op, Ai b.X.n, By b.X.name, .d (.sl 4 (Eb b.X.args))]
theorem rl9 {G X : Prop} (h : X) (t : Hx X -> G := by (intro h; (first | refine wst rfl rfl trivial ?_ | refine wan rfl rfl trivial ?_ | refine Ca ?_ | refine Gw ?_ | refine C5 ?_ | refine Bx ?_ | refine Hy ?_ | refine Iw ?_ | refine Jq ?_ | refine Iv ?_ | refine Nu rfl ?_ | refine Nt rfl ?_ | refine E7 rfl ?_ | refine Zy rfl ?_ | refine wst rfl rfl (by first | (simp only [IntKind.lo, IntKind.hi]; omega) | omega) ?_ | refine wan rfl rfl (by first | (simp only [IntKind.lo, IntKind.hi]; omega) | omega) ?_ | (show WK _ _ _ _ _ _ _; refine wstB rfl rfl (by first | (apply Ck rfl; repeat (first | exact Bp rfl | apply Gx rfl | apply Gy rfl | apply Gz rfl)) | exact Lk rfl | (dsimp only [List.length_cons, List.length_nil, List.length_append, Nat.reduceAdd]; rfl) | rfl) (by apply Ob rfl; repeat (first | exact Bp rfl | apply Gx rfl | apply Gy rfl | apply Gz rfl | exact Je rfl | apply Gg rfl | exact Jf rfl | apply Gh rfl)) (by first | exact True.intro | (simp only [IntKind.lo, IntKind.hi]; omega) | omega) ?_) | (show WA _ _ _ chN _ _ _ _ _ _ _ _ _; refine wanB rfl rfl (by first | (apply Ck rfl; repeat (first | exact Bp rfl | apply Gx rfl | apply Gy rfl | apply Gz rfl)) | exact Lk rfl | (dsimp only [List.length_cons, List.length_nil, List.length_append, Nat.reduceAdd]; rfl) | rfl) (by first | exact True.intro | (simp only [IntKind.lo, IntKind.hi]; omega) | omega) ?_) | refine waf rfl rfl (fun _ _ => rfl) trivial ?_ | refine waf rfl rfl (fun _ _ => rfl) (by first | (simp only [IntKind.lo, IntKind.hi]; omega) | omega) ?_ | refine wap rfl (by kernel_rfl) rfl trivial ?_ | refine wap rfl (by kernel_rfl) rfl (by first | (simp only [IntKind.lo, IntKind.hi]; omega) | omega) ?_ | (show WA _ _ _ _ _ _ _ _ _ _ _ _ _; refine wafB rfl rfl (fun _ _ => rfl) (by first | (apply Ck rfl; repeat (first | exact Bp rfl | apply Gx rfl | apply Gy rfl | apply Gz rfl)) | exact Lk rfl | (dsimp only [List.length_cons, List.length_nil, List.length_append, Nat.reduceAdd]; rfl) | rfl) (by first | exact True.intro | (simp only [IntKind.lo, IntKind.hi]; omega) | omega) ?_) | (show WA _ _ _ _ _ _ _ _ _ _ _ _ _; refine wapB rfl (by kernel_rfl) rfl (by first | (apply Ck rfl; repeat (first | exact Bp rfl | apply Gx rfl | apply Gy rfl | apply Gz rfl)) | exact Lk rfl | (dsimp only [List.length_cons, List.length_nil, List.length_append, Nat.reduceAdd]; rfl) | rfl) (by first | exact True.intro | (simp only [IntKind.lo, IntKind.hi]; omega) | omega) ?_) | (show WA _ _ _ _ _ _ _ _ _ _ _ _ _; refine wac rfl rfl rfl (by first | (apply Ck rfl; repeat (first | exact Bp rfl | apply Gx rfl | apply Gy rfl | apply Gz rfl)) | exact Lk rfl | (dsimp only [List.length_cons, List.length_nil, List.length_append, Nat.reduceAdd]; rfl) | rfl) (by apply Ob rfl; repeat (first | exact Bp rfl | apply Gx rfl | apply Gy rfl | apply Gz rfl | exact Je rfl | apply Gg rfl | exact Jf rfl | apply Gh rfl)) (by first | exact True.intro | (simp only [IntKind.lo, IntKind.hi]; omega) | omega) Ar ?_) | (refine fin rfl rfl (by first | exact .inr rfl | exact .inl rfl) rfl (by first | (apply Ck rfl; repeat (first | exact Bp rfl | apply Gx rfl | apply Gy rfl | apply Gz rfl)) | (apply Ae6 rfl; repeat (first | exact Bp rfl | apply Gx rfl | apply Gy rfl | apply Gz rfl)) | exact Lk rfl | rfl) ?_ rfl) | fail); (repeat' (first | refine wst rfl rfl trivial ?_ | refine wan rfl rfl trivial ?_ | refine Ca ?_ | refine Gw ?_ | refine C5 ?_ | refine Bx ?_ | refine Hy ?_ | refine Iw ?_ | refine Jq ?_ | refine Iv ?_ | refine Nu rfl ?_ | refine Nt rfl ?_ | refine E7 rfl ?_ | refine Zy rfl ?_ | refine wst rfl rfl (by first | (simp only [IntKind.lo, IntKind.hi]; omega) | omega) ?_ | refine wan rfl rfl (by first | (simp only [IntKind.lo, IntKind.hi]; omega) | omega) ?_ | (show WK _ _ _ _ _ _ _; refine wstB rfl rfl (by first | (apply Ck rfl; repeat (first | exact Bp rfl | apply Gx rfl | apply Gy rfl | apply Gz rfl)) | exact Lk rfl | (dsimp only [List.length_cons, List.length_nil, List.length_append, Nat.reduceAdd]; rfl) | rfl) (by apply Ob rfl; repeat (first | exact Bp rfl | apply Gx rfl | apply Gy rfl | apply Gz rfl | exact Je rfl | apply Gg rfl | exact Jf rfl | apply Gh rfl)) (by first | exact True.intro | (simp only [IntKind.lo, IntKind.hi]; omega) | omega) ?_) | (show WA _ _ _ chN _ _ _ _ _ _ _ _ _; refine wanB rfl rfl (by first | (apply Ck rfl; repeat (first | exact Bp rfl | apply Gx rfl | apply Gy rfl | apply Gz rfl)) | exact Lk rfl | (dsimp only [List.length_cons, List.length_nil, List.length_append, Nat.reduceAdd]; rfl) | rfl) (by first | exact True.intro | (simp only [IntKind.lo, IntKind.hi]; omega) | omega) ?_) | refine waf rfl rfl (fun _ _ => rfl) trivial ?_ | refine waf rfl rfl (fun _ _ => rfl) (by first | (simp only [IntKind.lo, IntKind.hi]; omega) | omega) ?_ | refine wap rfl (by kernel_rfl) rfl trivial ?_ | refine wap rfl (by kernel_rfl) rfl (by first | (simp only [IntKind.lo, IntKind.hi]; omega) | omega) ?_ | (show WA _ _ _ _ _ _ _ _ _ _ _ _ _; refine wafB rfl rfl (fun _ _ => rfl) (by first | (apply Ck rfl; repeat (first | exact Bp rfl | apply Gx rfl | apply Gy rfl | apply Gz rfl)) | exact Lk rfl | (dsimp only [List.length_cons, List.length_nil, List.length_append, Nat.reduceAdd]; rfl) | rfl) (by first | exact True.intro | (simp only [IntKind.lo, IntKind.hi]; omega) | omega) ?_) | (show WA _ _ _ _ _ _ _ _ _ _ _ _ _; refine wapB rfl (by kernel_rfl) rfl (by first | (apply Ck rfl; repeat (first | exact Bp rfl | apply Gx rfl | apply Gy rfl | apply Gz rfl)) | exact Lk rfl | (dsimp only [List.length_cons, List.length_nil, List.length_append, Nat.reduceAdd]; rfl) | rfl) (by first | exact True.intro | (simp only [IntKind.lo, IntKind.hi]; omega) | omega) ?_) | (show WA _ _ _ _ _ _ _ _ _ _ _ _ _; refine wac rfl rfl rfl (by first | (apply Ck rfl; repeat (first | exact Bp rfl | apply Gx rfl | apply Gy rfl | apply Gz rfl)) | exact Lk rfl | (dsimp only [List.length_cons, List.length_nil, List.length_append, Nat.reduceAdd]; rfl) | rfl) (by apply Ob rfl; repeat (first | exact Bp rfl | apply Gx rfl | apply Gy rfl | apply Gz rfl | exact Je rfl | apply Gg rfl | exact Jf rfl | apply Gh rfl)) (by first | exact True.intro | (simp only [IntKind.lo, IntKind.hi]; omega) | omega) Ar ?_) | (refine fin rfl rfl (by first | exact .inr rfl | exact .inl rfl) rfl (by first | (apply Ck rfl; repeat (first | exact Bp rfl | apply Gx rfl | apply Gy rfl | apply Gz rfl)) | (apply Ae6 rfl; repeat (first | exact Bp rfl | apply Gx rfl | apply Gy rfl | apply Gz rfl)) | exact Lk rfl | rfl) ?_ rfl) | fail)); exact h.out)) : G := t ⟨h⟩
set_option maxHeartbeats 4000000 in
theorem of_do (b : BendS) (hb : b.ok) : ∀ (n : Nat) (x : Ex), x.hgt <= n -> x.thin -> ∀ p, p + (Uk x).length <= 1000000 -> An 48 [Alz b, exP x, Ai p] ⟨[], []⟩ (.ret (.tup [exP (Q4 b p x).1, Ai (Q4 b p x).2])) ⟨[], []⟩ := by
  intro n
  induction n with
  | zero => intro a h; cases a; simp [Ex.hgt] at h
  | succ n ih =>
    intro x hn ht p hp
    have ht' := thin_eq ht
    by_cases hpa : p = b.at_
    . rw [Aid, if_pos hpa]; exact of_here b hb x ht'.1 p hpa
    have h255 := hb.1
    have hall : (Uk x).length = 1 + (Gm x.args).length := by rw [Agc]; simp; omega
    rw [Aid, if_neg hpa]
    refine Ki (S' := ⟨[], [⟨x.args.length, 4, Eb (Jz b (p + 1) x.args).1, 24⟩]⟩) 0 0 (A4 (r' := .tup [.agg [Ai x.op, Ai x.n, By x.name, .hd 0 x.args.length], Ai ((Jz b (p + 1) x.args).2 : Int)]) ?_ (Bh (Aa (A9 (Aa (Ab _) (Aa (Ab _) (Aa (Ab _) (Aa (Q5 (Jh rfl)) Ad))))) (Aa (Ab _) Ad)))) (Nat.le_refl _) (Nat.le_refl _) rfl rfl
    refine Af Tryz.func48 rfl rfl (Nat.le_of_ble_eq_true rfl) rfl (by simp) ?_
    refine C5 ?_
    repeat' (first | refine rl0 ?_ | refine rs0 (fun h => ?_) (fun h => ?_) | fail)
    refine wst rfl rfl ⟨(by show (-9223372036854775808 : Int) <= _; omega), (by show _ <= (9223372036854775807 : Int); omega)⟩ ?_
    refine wst rfl rfl trivial ?_
    rw [show decide ((p : Int) = (b.at_ : Int)) = false from by simp; omega]
    repeat' (first | refine rl0 ?_ | refine rs0 (fun h => ?_) (fun h => ?_) | fail)
    refine T4 8 4 24 rfl ?_
    refine F9 (ι := Nat) (ok := fun i => i <= x.args.length) (L := fun i => [(2, Ai ((Jz b (p + 1) (x.args.take i)).2 : Int)), (3, .ptr 0 0), (4, .ptr 1 0), (6, .ptr 2 0), (8, .hd 0 i), (9, Ai i)])
      (Sx := fun i => ⟨[Abn b, (exP x).parts, D4], [⟨i, 4, Eb (Jz b (p + 1) (x.args.take i)).1, 24⟩]⟩) (μ := fun i => x.args.length - i) 0 (Nat.zero_le _) (Ac (by simp only [List.take_zero, Jz]; rfl) (by repeat (first | exact Ag | refine Ac rfl ?_))) (by simp only [List.take_zero, Jz]; rfl) ?_
    rintro i hi
    repeat' (first | refine rl9 ?_ | refine rs0 (fun h => ?_) (fun h => ?_) | fail)
    . have hlt : i < x.args.length := by rw [A6] at h; simpa using h
      obtain ⟨y, hy⟩ : ∃ y, x.args[i]? = some y := ⟨_, List.getElem?_eq_getElem hlt⟩
      have hstep := Aah b (p := p + 1) hy
      have hle := Abo b (x.args.take i) (p + 1)
      have hln := Ad0 b (x.args.take i) (p + 1)
      rw [List.length_take, Nat.min_eq_left hi] at hln
      have hget := Ady hy
      have hsub := ih y (by have := Mn (List.mem_of_getElem? hy); omega) (Afy ht'.2 hy) (Jz b (p + 1) (x.args.take i)).2 (by omega)
      have hle2 := Aie b y (Jz b (p + 1) (x.args.take i)).2
      generalize hz : Q4 b (Jz b (p + 1) (x.args.take i)).2 y = z at hstep hsub hle2
      obtain ⟨z, p2⟩ := z
      refine Dx (fun k => Nat.beq k 11) [] [] rfl (by kernel_rfl) ?_
      repeat' (first | refine rl9 ?_ | refine rs0 (fun h => ?_) (fun h => ?_) | fail)
      refine wixp _ rfl (by kernel_rfl) rfl rfl rfl rfl (Cf hy) (by omega) ?_
      repeat' (first | refine rl9 ?_ | refine rs0 (fun h => ?_) (fun h => ?_) | fail)
      refine wcpp hsub rfl (by kernel_rfl) rfl rfl rfl rfl (by repeat (first | exact Ad | refine Aa (Ab _) ?_)) ?_
      repeat' (first | refine rl9 ?_ | refine rs0 (fun h => ?_) (fun h => ?_) | fail)
      refine Alh (news := [[.v (.int .i64 z.op), .v (.int .i64 z.n), .v (.string z.name), .sl 4 (Eb z.args)]]) (S' := ⟨[Abn b, (exP x).parts, D4, (exP z).parts], [⟨i + 1, 4, Eb (Jz b (p + 1) (x.args.take i)).1 ++ [[.v (.int .i64 z.op), .v (.int .i64 z.n), .v (.string z.name), .sl 4 (Eb z.args)]], 24⟩]⟩) rfl rfl rfl rfl rfl rfl ?_ ?_ rfl ?_
      . rw [A6, hln]; show (i + 1) * 56 <= _; omega
      . rw [A6, hln]; show i + 1 <= _; omega
      repeat' (first | refine rl9 ?_ | refine rs0 (fun h => ?_) (fun h => ?_) | fail)
      refine ⟨i + 1, by omega, by omega, ?_, ?_, rfl, rfl, Nat.le_refl _, Nat.le_refl _⟩
      . rw [hstep]; exact (by repeat (first | exact Ag | refine Ac rfl ?_))
      . rw [hstep, Hr]
        have e : Eb [z] = [[.v (.int .i64 z.op), .v (.int .i64 z.n), .v (.string z.name), .sl 4 (Eb z.args)]] := by cases z; rfl
        rw [e]; rfl
    . have hi' := Xv hi h
      subst hi'
      rw [List.take_length]
      exact fin rfl rfl (.inr rfl) rfl rfl rfl rfl
end Go.Proofs.YtiledamgmppcmaaGreatDoor
namespace Go.Proofs.YtiledamgmppcmaaGreatDoor
open Go.RowKit Go.ChangeShapes Go.ChangeAt Go.WideShapes
def Zv : List TypeId := [24, 22, 3, 9, 5, 25, 28, 64, 27, 47, 44, 50, 45, 48]
theorem Jc : Jj Tryz.prog Zv = true := by kernel_rfl
theorem Aj3 : Tryz.prog.cellsOf 24 = 4 := by kernel_rfl
theorem Al3 : Tryz.prog.cellsOf 9 = 1 := by kernel_rfl
theorem Of : Tryz.prog.cellsOf 5 = 1 := by kernel_rfl
theorem Afv : ∀ {l : List Ex}, (∀ x ∈ l, x.small) -> Ih l
  | [], _ => trivial
  | x :: l, h => ⟨h x List.mem_cons_self, Afv fun y hy => h y (List.mem_cons_of_mem _ hy)⟩
theorem Ajn : ∀ (n : Nat) (ds : List DV), Shp Tryz.prog n 24 ds -> ∃ x : Ex, ds = exD x /\ x.small := by
  intro n
  induction n using Nat.strongRecOn with
  | ind n ih =>
    intro ds h
    obtain ⟨m, parts, rfl, rfl, hl, hp⟩ := Py Tryz.underlying24 h
    obtain ⟨a, b, c, d, rfl⟩ := An0 hl
    obtain ⟨o, rfl, _⟩ := Ix Tryz.underlying3 (hp 0 _ a rfl rfl)
    obtain ⟨k, rfl, _⟩ := Ix Tryz.underlying3 (hp 1 _ b rfl rfl)
    obtain ⟨s, rfl, hs⟩ := Zh Tryz.underlying9 (hp 2 _ c rfl rfl)
    obtain ⟨j, l, rfl, rfl, hx⟩ := Zg Tryz.underlying22 (hp 3 _ d rfl rfl)
    obtain ⟨xs, rfl, hxs⟩ := J2 exD (R := Ex.small) fun y hy => ih j (by omega) y (hx y hy)
    refine ⟨.mk o k s xs, ?_, hs, Afv hxs⟩
    rw [Aj3, exD, L5]; rfl
theorem Lp {z : Int} (h : (Lit.int .u8 z).wf = true) : ∃ b : UInt8, z = b.toNat := by
  have hb := bounds_u8 h
  refine ⟨UInt8.ofNat z.toNat, ?_⟩
  rw [UInt8.toNat_ofNat']
  omega
theorem Qo {n : Nat} {l : List (List DV)} (h : ∀ x ∈ l, Shp Tryz.prog n 5 x) : ∃ bs : List UInt8, l = bs.map fun b => [DV.v (.int .u8 b.toNat)] := by
  obtain ⟨bs, h1, _⟩ := J2 (fun b : UInt8 => [DV.v (.int .u8 b.toNat)]) (R := fun _ => True) fun x hx => by
    obtain ⟨z, rfl, hw⟩ := Ix Tryz.underlying5 (h x hx)
    obtain ⟨b, rfl⟩ := Lp hw
    exact ⟨b, rfl, trivial⟩
  exact ⟨bs, h1⟩
theorem shp_strs {n : Nat} {l : List (List DV)} (h : ∀ x ∈ l, Shp Tryz.prog n 9 x) : ∃ bs : List ByteArray, l = bs.map Xj /\ ∀ b ∈ bs, b.size <= 9223372036854775807 :=
  J2 Xj fun x hx => by
    obtain ⟨s, rfl, hs⟩ := Zh Tryz.underlying9 (h x hx)
    exact ⟨s, rfl, hs⟩
theorem shp_bend {n : Nat} {ds : List DV} (h : Shp Tryz.prog n 27 ds) : ∃ b : BendS, PV.agg (ds.map .d) = Alz b /\ b.ok /\ b.X.small := by
  obtain ⟨m, parts, rfl, rfl, hl, hp⟩ := Py Tryz.underlying27 h
  obtain ⟨a, b, c, d, e, rfl⟩ := parts5 hl
  obtain ⟨z0, rfl, w0⟩ := Ix Tryz.underlying5 (hp 0 _ a rfl rfl)
  obtain ⟨z1, rfl, w1⟩ := Ix Tryz.underlying5 (hp 1 _ b rfl rfl)
  obtain ⟨z2, rfl, _⟩ := Ix Tryz.underlying3 (hp 2 _ c rfl rfl)
  obtain ⟨s, rfl, hs⟩ := Zh Tryz.underlying9 (hp 3 _ d rfl rfl)
  obtain ⟨x, rfl, hx⟩ := Ajn _ _ (hp 4 _ e rfl rfl)
  obtain ⟨b0, rfl⟩ := Lp w0
  obtain ⟨b1, rfl⟩ := Lp w1
  refine ⟨⟨b0.toNat, b1.toNat, z2, s, x⟩, ?_, ⟨b0.toNat_lt, b1.toNat_lt⟩, hx⟩
  cases x
  rfl
end Go.Proofs.YtiledamgmppcmaaGreatDoor
namespace Go.Proofs.YtiledamgmppcmaaGreatDoor
open Go.RowKit
theorem Ai0 (num : Bool) (n : Int) : (Uk (C2 num n)).length = 1 /\ (C2 num n).thin := by
  unfold C2
  split
  . exact ⟨rfl, by simp [Ex.thin, Aac]⟩
  . split
    . exact ⟨rfl, by simp [Ex.thin, Aac]⟩
    . exact ⟨rfl, by simp [Ex.thin, Aac]⟩
theorem Aey {g : Int -> Nat -> Ex × Nat} (hg : ∀ t a, (g t a).2 = a + (Uk (g t a).1).length /\ (g t a).1.thin) : ∀ (ts : List Int) (a : Nat), (Be g ts a).2 = a + (Gm (Be g ts a).1).length /\ Aac (Be g ts a).1
  | [], a => by simp [Be, Gm, Aac]
  | t :: ts, a => by
    have h1 := hg t a
    have h2 := Aey hg ts (g t a).2
    simp only [Be, Gm, List.length_append, Aac]
    exact ⟨by omega, h1.2, h2.2⟩
theorem Ai8 (l : List UInt8) : ∀ (f : Nat) (want : Int) (a : Nat), (Gd l f want a).2 = a + (Uk (Gd l f want a).1).length /\ (Gd l f want a).1.thin
  | 0, want, a => by rw [Gd]; have := Ai0 (Dp want (Aw l a)) (Aw l a); exact ⟨by rw [this.1], this.2⟩
  | f + 1, want, a => by
    rw [Gd]
    split
    . have := Ai0 (Dp want (Aw l a)) (Aw l a); exact ⟨by rw [this.1], this.2⟩
    . have h1 := Aey (Ai8 l f) (Fq want (A8 (Dp want (Aw l a)) (Aw l a)).2) (a + 1)
      have h2 := Is (Dp want (Aw l a)) (Aw l a)
      have h3 := Fu (g := Gd l f) (Fq want (A8 (Dp want (Aw l a)) (Aw l a)).2) (a + 1)
      rw [F8] at h3
      simp only [Uk, List.length_cons, Ex.thin]
      exact ⟨by omega, by omega, h1.2⟩
theorem Ai3 (l : List UInt8) (want : Int) : (Uk (Ic l want)).length <= 262144 /\ (Ic l want).thin := by
  have h1 := Ai8 l 9 want 0
  have h2 := Mo l 9 want 0
  unfold Ic
  exact ⟨by have e : 4 ^ 9 = 262144 := rfl; omega, h1.2⟩
theorem Aax (num : Bool) (n : Int) : (C2 num n).small := by
  unfold C2
  split
  . simp [Ex.small, Ih]; show 0 <= _; omega
  . split
    . simp only [Ex.small, Ih, and_true]
      rw [ByteArray.size_extract]
      show min _ 3 - _ <= _; omega
    . simp [Ex.small, Ih]; show 0 <= _; omega
theorem Yu {g : Int -> Nat -> Ex × Nat} (hg : ∀ t a, (g t a).1.small) : ∀ (ts : List Int) (a : Nat), Ih (Be g ts a).1
  | [], a => by simp [Be, Ih]
  | t :: ts, a => by simp only [Be, Ih]; exact ⟨hg t a, Yu hg ts _⟩
theorem Aa0 (l : List UInt8) : ∀ (f : Nat) (want : Int) (a : Nat), (Gd l f want a).1.small
  | 0, want, a => by rw [Gd]; exact Aax _ _
  | f + 1, want, a => by
    rw [Gd]
    split
    . exact Aax _ _
    . simp only [Ex.small]
      exact ⟨by show 0 <= _; omega, Yu (Aa0 l f) _ _⟩
theorem Pl (l : List UInt8) (want : Int) : (Ic l want).small := Aa0 l 9 want 0
theorem Vq : ∀ {l r : List Ex}, Ih l -> Ih r -> Ih (l ++ r)
  | [], r, _, h => h
  | x :: l, r, h, h' => ⟨h.1, Vq h.2 h'⟩
theorem Ajz {b : BendS} {x : Ex} (hb : b.X.small) (hx : x.small) : (Ad1 b x).small := by
  have hs := Vr hx
  unfold Ad1
  split
  . exact ⟨hs.1, hs.2⟩
  split
  . exact ⟨hs.1, hs.2⟩
  split
  . refine ⟨?_, hs.2⟩
    rw [ByteArray.size_extract]; omega
  split
  . exact ⟨hs.1, Vq hs.2 ⟨⟨by show 0 <= _; omega, trivial⟩, trivial⟩⟩
  split
  . exact ⟨hs.1, trivial⟩
  . exact hb
mutual
theorem Aai {b : BendS} (hb : b.X.small) : ∀ (x : Ex) (p : Nat), x.small -> (Q4 b p x).1.small
  | .mk o n s l, p, hx => by
    rw [Q4]
    split
    . exact Ajz hb hx
    . exact ⟨hx.1, Yc hb l _ hx.2⟩
theorem Yc {b : BendS} (hb : b.X.small) : ∀ (l : List Ex) (p : Nat), Ih l -> Ih (Jz b p l).1
  | [], p, _ => by simp [Jz, Ih]
  | x :: r, p, h => by
    rw [Jz]
    exact ⟨Aai hb x p h.1, Yc hb r _ h.2⟩
end
def Ahy (g : Ex) : Nat -> Ex
  | 0 => g
  | i + 1 => .mk 5 0 ⟨#[]⟩ [Ahy g i]
def Ah3 (g : Ex) : Nat -> Ex
  | 0 => g
  | i + 1 => .mk 7 0 ⟨#[]⟩ [Ah3 g i, Ah3 g i]
theorem Abd {g : Ex} (h : g.small) : ∀ i, (Ahy g i).small
  | 0 => h
  | i + 1 => ⟨by show 0 <= _; omega, Abd h i, trivial⟩
theorem Wz {g : Ex} (h : g.small) : ∀ i, (Ah3 g i).small
  | 0 => h
  | i + 1 => ⟨by show 0 <= _; omega, Wz h i, Wz h i, trivial⟩
def Akx (x : Ex) (l : List UInt8) (b : BendS) (deep : Nat) : List Ex :=
  [x, Ic l (1 + (deep % 2 : Nat)), Ic l 0, (Q4 b 0 (Ic l (1 + (deep % 2 : Nat)))).1, Ahy (Ic l (1 + (deep % 2 : Nat))) (deep % 14), Ah3 (Ic l 1) (deep % 4)]
theorem Aky {x : Ex} {b : BendS} (hx : x.small) (hb : b.X.small) (l : List UInt8) (deep : Nat) : ∀ y ∈ Akx x l b deep, y.small := by
  intro y hy
  simp only [Akx, List.mem_cons, List.not_mem_nil, or_false] at hy
  rcases hy with rfl | rfl | rfl | rfl | rfl | rfl
  . exact hx
  . exact Pl _ _
  . exact Pl _ _
  . exact Aai hb _ _ (Pl _ _)
  . exact Abd (Pl _ _) _
  . exact Wz (Pl _ _) _
@[reducible] def zero6 : List PV := D4 ++ D4 ++ D4 ++ D4 ++ D4 ++ D4
theorem row1 (y : Ex) : Eb [y] = [[.v (.int .i64 y.op), .v (.int .i64 y.n), .v (.string y.name), .sl 4 (Eb y.args)]] := by cases y; rfl
theorem row2 (y : Ex) : Eb [y, y] = [[.v (.int .i64 y.op), .v (.int .i64 y.n), .v (.string y.name), .sl 4 (Eb y.args)], [.v (.int .i64 y.op), .v (.int .i64 y.n), .v (.string y.name), .sl 4 (Eb y.args)]] := by cases y; rfl
set_option maxHeartbeats 4000000 in
theorem some_do (x : Ex) (l : List UInt8) (b : BendS) (hb : b.ok) (deep : Nat) (hd : deep < 256) : An 13 [exP x, Co l, Alz b, .d (.v (.int .u8 deep))] ⟨[], []⟩ (.ret (.agg ((Akx x l b deep).flatMap fun y => (exP y).parts))) ⟨[], []⟩ := by
  have hof := of_do b hb (Ic l (1 + (deep % 2 : Nat))).hgt (Ic l (1 + (deep % 2 : Nat))) (Nat.le_refl _) (Ai3 l _).2 0 (by have := (Ai3 l (1 + (deep % 2 : Nat))).1; omega)
  have hmk := O1 l (1 + (deep % 2 : Nat))
  have hmk1 := O1 l 1
  have hmk0 := O1 l 0
  unfold Akx
  generalize Ic l (1 + (deep % 2 : Nat)) = g at *
  generalize Ic l 1 = g1 at *
  generalize Ic l 0 = g0 at *
  generalize Q4 b 0 g = bx at *
  obtain ⟨bx, bp⟩ := bx
  refine Af Tryz.func13 rfl rfl (Nat.le_of_ble_eq_true rfl) rfl (Nat.le_refl _) ?_
  repeat' (first | refine rl0 ?_ | refine rs0 (fun h => ?_) (fun h => ?_) | fail)
  refine wst rfl rfl ⟨(by show (-9223372036854775808 : Int) <= _; omega), (by show _ <= (9223372036854775807 : Int); omega)⟩ ?_
  repeat' (first | refine rl0 ?_ | refine rs0 (fun h => ?_) (fun h => ?_) | fail)
  refine D3 hmk rfl rfl rfl rfl rfl (by repeat (first | exact Ad | refine Aa (Ab _) ?_)) ?_
  repeat' (first | refine rl0 ?_ | refine rs0 (fun h => ?_) (fun h => ?_) | fail)
  refine D3 hof rfl rfl rfl rfl rfl (by repeat (first | exact Ad | refine Aa (Ab _) ?_)) ?_
  repeat' (first | refine rl0 ?_ | refine rs0 (fun h => ?_) (fun h => ?_) | fail)
  refine Bt (ι := Nat) (ok := fun i => i <= deep % 14) (L := fun i => [(1, Co l), (3, .d (.v (.int .u8 deep))), (4, .ptr 0 0), (6, .ptr 1 0), (8, .ptr 2 0), (9, .ptr 3 0), (10, .ptr 4 0), (12, .ptr 5 0), (13, Ai i)])
    (Sx := fun i => ⟨[(exP x).parts, Abn b, zero6, (exP g).parts, (exP bx).parts, (exP (Ahy g i)).parts], []⟩) (μ := fun i => deep % 14 - i) 0 (Nat.zero_le _) (by repeat (first | exact Ag | refine Ac rfl ?_)) rfl ?_
  rintro i hi
  repeat' (first | refine rl0 ?_ | refine rs0 (fun h => ?_) (fun h => ?_) | fail)
  refine wst rfl rfl ⟨(by show (-9223372036854775808 : Int) <= _; omega), (by show _ <= (9223372036854775807 : Int); omega)⟩ ?_
  repeat' (first | refine rl0 ?_ | refine rs0 (fun h => ?_) (fun h => ?_) | fail)
  . have hlt : i < deep % 14 := by simp at h; omega
    refine ⟨i + 1, by omega, by omega, (by repeat (first | exact Ag | refine Ac rfl ?_)), ?_⟩
    show _ = (⟨[(exP x).parts, Abn b, zero6, (exP g).parts, (exP bx).parts, [Ai 5, Ai 0, By ⟨#[]⟩, .d (.sl 4 (Eb [Ahy g i]))]], []⟩ : PS)
    rw [row1]; rfl
  . obtain rfl : i = deep % 14 := by simp at h; omega
    refine D3 hmk1 rfl rfl rfl rfl rfl (by repeat (first | exact Ad | refine Aa (Ab _) ?_)) ?_
    repeat' (first | refine rl0 ?_ | refine rs0 (fun h => ?_) (fun h => ?_) | fail)
    refine Bt (ι := Nat) (ok := fun i => i <= deep % 4) (L := fun i => [(1, Co l), (3, .d (.v (.int .u8 deep))), (4, .ptr 0 0), (6, .ptr 1 0), (8, .ptr 2 0), (9, .ptr 3 0), (10, .ptr 4 0), (12, .ptr 5 0), (14, .ptr 6 0), (15, Ai i)])
      (Sx := fun i => ⟨[(exP x).parts, Abn b, zero6, (exP g).parts, (exP bx).parts, (exP (Ahy g (deep % 14))).parts, (exP (Ah3 g1 i)).parts], []⟩) (μ := fun i => deep % 4 - i) 0 (Nat.zero_le _) (by repeat (first | exact Ag | refine Ac rfl ?_)) rfl ?_
    rintro i hi
    repeat' (first | refine rl9 ?_ | refine rs0 (fun h => ?_) (fun h => ?_) | fail)
    refine wst rfl rfl ⟨(by show (-9223372036854775808 : Int) <= _; omega), (by show _ <= (9223372036854775807 : Int); omega)⟩ ?_
    repeat' (first | refine rl9 ?_ | refine rs0 (fun h => ?_) (fun h => ?_) | fail)
    . have hlt : i < deep % 4 := by simp at h; omega
      refine ⟨i + 1, by omega, by omega, (by repeat (first | exact Ag | refine Ac rfl ?_)), ?_⟩
      show _ = (⟨[(exP x).parts, Abn b, zero6, (exP g).parts, (exP bx).parts, (exP (Ahy g (deep % 14))).parts, [Ai 7, Ai 0, By ⟨#[]⟩, .d (.sl 4 (Eb [Ah3 g1 i, Ah3 g1 i]))]], []⟩ : PS)
      rw [row2]; rfl
    . obtain rfl : i = deep % 4 := by simp at h; omega
      refine Dx (fun k => Nat.beq k 8) [] [] rfl (by kernel_rfl) ?_
      repeat' (first | refine rl9 ?_ | refine rs0 (fun h => ?_) (fun h => ?_) | fail)
      refine wcpp hmk0 rfl (by kernel_rfl) rfl rfl rfl rfl (by repeat (first | exact Ad | refine Aa (Ab _) ?_)) ?_
      repeat' (first | refine rl9 ?_ | refine rs0 (fun h => ?_) (fun h => ?_) | fail)
      rfl
end Go.Proofs.YtiledamgmppcmaaGreatDoor
namespace Go.Proofs.YtiledamgmppcmaaGreatDoor
open Go.RowKit
theorem Mc {j : Nat} (h : j < 10) : (⟨#[48, 49, 50, 51, 52, 53, 54, 55, 56, 57]⟩ : ByteArray).extract (j : Int).toNat ((j : Int) + 1).toNat = ⟨#[UInt8.ofNat (48 + j)]⟩ := by
  have : j = 0 \/ j = 1 \/ j = 2 \/ j = 3 \/ j = 4 \/ j = 5 \/ j = 6 \/ j = 7 \/ j = 8 \/ j = 9 := by omega
  rcases this with rfl | rfl | rfl | rfl | rfl | rfl | rfl | rfl | rfl | rfl <;> rfl
theorem O8 {j : Nat} (h : j < 10) : Mr j = ⟨#[UInt8.ofNat (48 + j)]⟩ := by
  unfold Mr; rw [I2, Lib.decDigits, dif_pos h]
theorem Uu {n : Nat} (h : ¬ n < 10) : Mr n = Mr (n / 10 : Nat) ++ ⟨#[UInt8.ofNat (48 + n % 10)]⟩ := by
  unfold Mr; rw [I2, I2, Lib.decDigits, dif_neg h]
  apply ByteArray.ext; apply Array.ext'; simp
set_option maxHeartbeats 400000 in
theorem Ps : ∀ (k n : Nat), n < k -> n <= 9223372036854775807 -> An 60 [Ai n] ⟨[], []⟩ (.ret (By (Mr n))) ⟨[], []⟩ := by
  intro k
  induction k with
  | zero => intro n h; omega
  | succ k ih =>
    intro n hk hn
    refine Af Tryz.func60 rfl rfl (Nat.le_of_ble_eq_true rfl) rfl (Nat.le_refl _) ?_
    repeat' (first | refine rl0 ?_ | refine rs0 (fun h => ?_) (fun h => ?_) | fail)
    . have h' : n < 10 := by have := h; simp at this; omega
      refine wst rfl rfl (by simp only [IntKind.lo, IntKind.hi]; omega) ?_
      refine wst rfl rfl ⟨by omega, by omega, by show (n : Int) + 1 <= 10; omega⟩ ?_
      repeat' (first | refine rl0 ?_ | refine rs0 (fun h => ?_) (fun h => ?_) | fail)
      rw [Mc h', O8 h']
    . have h' : ¬ n < 10 := by have := h; simp at this; omega
      have hd := ih (n / 10) (by omega) (by omega)
      refine wcn (args := [Ai (n / 10 : Nat)]) hd rfl rfl rfl rfl rfl (by repeat (first | exact Ad | refine Aa (Ab _) ?_)) ?_
      repeat' (first | refine rl0 ?_ | refine rs0 (fun h => ?_) (fun h => ?_) | fail)
      refine wan rfl rfl ⟨by omega, by omega, by show (n : Int) % 10 + 1 <= 10; omega⟩ ?_
      have hm : n % 10 < 10 := Nat.mod_lt _ (by omega)
      have hcut : (⟨#[48, 49, 50, 51, 52, 53, 54, 55, 56, 57]⟩ : ByteArray).extract ((n : Int) % 10).toNat ((n : Int) % 10 + 1).toNat = ⟨#[UInt8.ofNat (48 + n % 10)]⟩ := Mc hm
      refine wan rfl rfl (by rw [hcut]; have := Uv (n := n / 10) (by omega); show (Mr (n / 10 : Nat)).size + 1 <= _; omega) ?_
      repeat' (first | refine rl0 ?_ | refine rs0 (fun h => ?_) (fun h => ?_) | fail)
      rw [hcut, Uu h']
theorem Pr (n : Nat) (hn : n <= 9223372036854775807) : An 42 [Ai n] ⟨[], []⟩ (.ret (By (Mr n))) ⟨[], []⟩ := by
  refine Af Tryz.func42 rfl rfl (Nat.le_of_ble_eq_true rfl) rfl (Nat.le_refl _) ?_
  repeat' (first | refine rl0 ?_ | refine rs0 (fun h => ?_) (fun h => ?_) | fail)
  refine D3 (Ps (n + 1) n (by omega) hn) rfl rfl rfl rfl rfl (by repeat (first | exact Ad | refine Aa (Ab _) ?_)) ?_
  repeat' (first | refine rl0 ?_ | refine rs0 (fun h => ?_) (fun h => ?_) | fail)
  rfl
end Go.Proofs.YtiledamgmppcmaaGreatDoor
namespace Go.Proofs.YtiledamgmppcmaaGreatDoor
open Go.RowKit
theorem Hj {x : Ex} (k : Int) (hw : (Ap x).size <= 1000000) (h : An 27 [exP x] ⟨[], []⟩ (.ret (By (Ap x))) ⟨[], []⟩) : An 65 [exP x, Ai k] ⟨[], []⟩ (.ret (By (F5 (Ap x, Ak x.op) k))) ⟨[], []⟩ := by
  refine Af Tryz.func65 rfl rfl (Nat.le_of_ble_eq_true rfl) rfl (Nat.le_refl _) ?_
  repeat' (first | refine rl0 ?_ | refine rs0 (fun h => ?_) (fun h => ?_) | fail)
  refine D3 h rfl rfl rfl rfl rfl (by repeat (first | exact Ad | refine Aa (Ab _) ?_)) ?_
  repeat' (first | refine rl0 ?_ | refine rs0 (fun h => ?_) (fun h => ?_) | fail)
  refine D3 (U5 x) rfl rfl rfl rfl rfl (by repeat (first | exact Ad | refine Aa (Ab _) ?_)) ?_
  have e1 : (Wk ++ Ap x).size <= 1000002 := by simp only [ByteArray.size_append]; show 2 + _ <= _; omega
  repeat' (first | refine rl0 ?_ | refine rs0 (fun h => ?_) (fun h => ?_) | fail)
  . refine wst rfl rfl (by show 2 + (Ap x).size <= _; omega) ?_
    refine wst rfl rfl (by show (Wk ++ Ap x).size + 2 <= _; omega) ?_
    repeat' (first | refine rl0 ?_ | refine rs0 (fun h => ?_) (fun h => ?_) | fail)
    rw [show F5 (Ap x, Ak x.op) k = (Wk ++ Ap x) ++ Ahm from if_pos (by simpa using h)]; rfl
  . rw [show F5 (Ap x, Ak x.op) k = Ap x from if_neg (by simpa using h)]
theorem M0 {op : Int} (h1 : 5 <= op) (h2 : op <= 18) : op = 5 \/ op = 6 \/ op = 7 \/ op = 8 \/ op = 9 \/ op = 10 \/ op = 11 \/ op = 12 \/ op = 13 \/ op = 14 \/ op = 15 \/ op = 16 \/ op = 17 \/ op = 18 := by omega
theorem Qg {op : Int} (h : 5 <= op /\ op <= 18) : (Ak op = 3 \/ Ak op = 7) /\ Eu op = 1 \/ Ak op ≠ 3 /\ Ak op ≠ 7 /\ Eu op = 2 := by
  rcases M0 h.1 h.2 with rfl | rfl | rfl | rfl | rfl | rfl | rfl | rfl | rfl | rfl | rfl | rfl | rfl | rfl <;> decide
set_option maxHeartbeats 1000000 in
theorem Abr : ∀ (n : Nat) (x : Ex), x.hgt <= n -> x.fine = true -> wtX x <= 1000000 -> An 27 [exP x] ⟨[], []⟩ (.ret (By (Ap x))) ⟨[], []⟩ := by
  intro n
  induction n with
  | zero => intro a h; cases a; simp [Ex.hgt] at h
  | succ n ih =>
    intro x hn hx hw
    have hsub : ∀ y ∈ x.args, An 27 [exP y] ⟨[], []⟩ (.ret (By (Ap y))) ⟨[], []⟩ /\ (Ap y).size + 4 <= wtX y := fun y hy =>
      ⟨ih y (by have := Mn hy; omega) (Qd hx hy) (by have := Ajv hy; have := Alc x; omega), Nj y (Qd hx hy)⟩
    have hwx := Alc x
    refine Af Tryz.func27 rfl rfl (Nat.le_of_ble_eq_true rfl) rfl (Nat.le_refl _) ?_
    have hf := Tw hx
    have hc := Cp x
    have hs3 := Wo x.op
    repeat' (first | refine rl0 ?_ | refine rs0 (fun h => ?_) (fun h => ?_) | fail)
    . have ho : x.op = 1 := by simpa using h
      have hd : An 42 [Ai x.n] ⟨[], []⟩ (.ret (By (Mr x.n))) ⟨[], []⟩ := by
        obtain ⟨m, hm⟩ := Int.eq_ofNat_of_zero_le hf.2.1
        rw [hm]; exact Pr m (by omega)
      refine D3 hd rfl rfl rfl rfl rfl (by repeat (first | exact Ad | refine Aa (Ab _) ?_)) ?_
      repeat' (first | refine rl0 ?_ | refine rs0 (fun h => ?_) (fun h => ?_) | fail)
      rw [hc]; unfold Ph; rw [if_pos ho]
    . have ho : x.op = 2 := by simpa using h
      rw [hc]; unfold Ph; rw [if_neg (by omega), if_pos ho]
    . have ho : x.op = 3 := by simpa using h
      rw [hc]; unfold Ph; rw [if_neg (by omega), if_neg (by omega), if_pos ho]; rfl
    . have ho : x.op = 4 := by simpa using h
      rw [hc]; unfold Ph; rw [if_neg (by omega), if_neg (by omega), if_neg (by omega), if_pos ho]; rfl
    . have ho : x.op = 19 := by simpa using h
      obtain ⟨a, b, c, he⟩ : ∃ a b c, x.args = [a, b, c] := by
        have := hf.1
        rw [ho, show Eu 19 = 3 from rfl] at this
        match e : x.args, this with
        | [a, b, c], _ => exact ⟨a, b, c, rfl⟩
        | [], h => simp at h
        | [_], h => simp at h
        | [_, _], h => simp at h
        | _ :: _ :: _ :: _ :: _, h => simp at h; omega
      have ha := hsub a (by rw [he]; simp)
      have hb := hsub b (by rw [he]; simp)
      have hcc := hsub c (by rw [he]; simp)
      have hwl : wtL x.args = wtX a + (wtX b + (wtX c + 0)) := by rw [he]; rfl
      have e1 : (sIf ++ Ap a).size = 3 + (Ap a).size := by rw [ByteArray.size_append]; rfl
      have e2 : ((sIf ++ Ap a) ++ Mp).size = 9 + (Ap a).size := by rw [ByteArray.size_append, e1]; show 3 + _ + 6 = _; omega
      have e3 : (((sIf ++ Ap a) ++ Mp) ++ Ap b).size = 9 + (Ap a).size + (Ap b).size := by rw [ByteArray.size_append, e2]
      have e4 : ((((sIf ++ Ap a) ++ Mp) ++ Ap b) ++ Wj).size = 15 + (Ap a).size + (Ap b).size := by rw [ByteArray.size_append, e3]; show _ + 6 = _; omega
      refine Ib _ rfl rfl rfl rfl rfl (Cf (i := 0) (x := a) (by rw [he]; rfl)) (by omega) ?_
      repeat' (first | refine rl0 ?_ | refine rs0 (fun h => ?_) (fun h => ?_) | fail)
      refine wcn ha.1 rfl rfl rfl rfl rfl (by repeat (first | exact Ad | refine Aa (Ab _) ?_)) ?_
      refine wan rfl rfl (by show 3 + (Ap a).size <= _; omega) ?_
      refine wan rfl rfl (by show (sIf ++ Ap a).size + 6 <= _; omega) ?_
      repeat' (first | refine rl0 ?_ | refine rs0 (fun h => ?_) (fun h => ?_) | fail)
      refine Ib _ rfl rfl rfl rfl rfl (Cf (i := 1) (x := b) (by rw [he]; rfl)) (by omega) ?_
      repeat' (first | refine rl0 ?_ | refine rs0 (fun h => ?_) (fun h => ?_) | fail)
      refine wcn hb.1 rfl rfl rfl rfl rfl (by repeat (first | exact Ad | refine Aa (Ab _) ?_)) ?_
      refine wan rfl rfl (by show ((sIf ++ Ap a) ++ Mp).size + (Ap b).size <= _; omega) ?_
      refine wan rfl rfl (by show (((sIf ++ Ap a) ++ Mp) ++ Ap b).size + 6 <= _; omega) ?_
      repeat' (first | refine rl0 ?_ | refine rs0 (fun h => ?_) (fun h => ?_) | fail)
      refine Ib _ rfl rfl rfl rfl rfl (Cf (i := 2) (x := c) (by rw [he]; rfl)) (by omega) ?_
      repeat' (first | refine rl0 ?_ | refine rs0 (fun h => ?_) (fun h => ?_) | fail)
      refine wcn hcc.1 rfl rfl rfl rfl rfl (by repeat (first | exact Ad | refine Aa (Ab _) ?_)) ?_
      refine wan rfl rfl (by show ((((sIf ++ Ap a) ++ Mp) ++ Ap b) ++ Wj).size + (Ap c).size <= _; omega) ?_
      repeat' (first | refine rl0 ?_ | refine rs0 (fun h => ?_) (fun h => ?_) | fail)
      rw [hc, he, Cd]; unfold Ph; rw [if_neg (by omega), if_neg (by omega), if_neg (by omega), if_neg (by omega)]
      simp only [List.map_cons, List.map_nil]; rw [if_pos ho]; rfl
    . rename_i g1 g2 g3 g4
      have hops : 5 <= x.op /\ x.op <= 18 := by
        have := hf.1
        simp at g1 g2 g3 g4 h
        unfold Eu at this
        repeat' split at this
        all_goals omega
      refine D3 (U5 x) rfl rfl rfl rfl rfl (by repeat (first | exact Ad | refine Aa (Ab _) ?_)) ?_
      repeat' (first | refine rl0 ?_ | refine rs0 (fun h => ?_) (fun h => ?_) | fail)
      rotate_left 2
      . have h4 : Ak x.op = 4 := by simpa using h
        have hl := Qg hops
        obtain ⟨a, b, he⟩ := Th (by rw [hf.1]; omega : (x.args.length : Int) = 2)
        have ha := hsub a (by rw [he]; simp)
        have hb := hsub b (by rw [he]; simp)
        have hwl : wtL x.args = wtX a + (wtX b + 0) := by rw [he]; rfl
        have w1 := Cy (Ap a, Ak a.op) 5
        have w2 := Cy (Ap b, Ak b.op) 5
        dsimp only at w1 w2
        generalize hA : F5 (Ap a, Ak a.op) 5 = A at w1
        generalize hB : F5 (Ap b, Ak b.op) 5 = B at w2
        have dA := Hj 5 (by omega) ha.1
        have dB := Hj 5 (by omega) hb.1
        rw [hA] at dA
        rw [hB] at dB
        have e1 : (A ++ sSp).size = A.size + 1 := by rw [ByteArray.size_append]; rfl
        have e2 : ((A ++ sSp) ++ C3 x.op).size = A.size + 1 + (C3 x.op).size := by rw [ByteArray.size_append, e1]
        have e3 : (((A ++ sSp) ++ C3 x.op) ++ sSp).size = A.size + 1 + (C3 x.op).size + 1 := by rw [ByteArray.size_append, e2]; rfl
        refine Ib _ rfl rfl rfl rfl rfl (Cf (i := 0) (x := a) (by rw [he]; rfl)) (by omega) ?_
        repeat' (first | refine rl0 ?_ | refine rs0 (fun h => ?_) (fun h => ?_) | fail)
        refine wcn dA rfl rfl rfl rfl rfl (by repeat (first | exact Ad | refine Aa (Ab _) ?_)) ?_
        refine wan rfl rfl (by show A.size + 1 <= _; omega) ?_
        repeat' (first | refine rl0 ?_ | refine rs0 (fun h => ?_) (fun h => ?_) | fail)
        refine wcn (Qp x.op) rfl rfl rfl rfl rfl (by repeat (first | exact Ad | refine Aa (Ab _) ?_)) ?_
        refine wan rfl rfl (by show (A ++ sSp).size + (C3 x.op).size <= _; omega) ?_
        refine wan rfl rfl (by show ((A ++ sSp) ++ C3 x.op).size + 1 <= _; omega) ?_
        repeat' (first | refine rl0 ?_ | refine rs0 (fun h => ?_) (fun h => ?_) | fail)
        refine Ib _ rfl rfl rfl rfl rfl (Cf (i := 1) (x := b) (by rw [he]; rfl)) (by omega) ?_
        repeat' (first | refine rl0 ?_ | refine rs0 (fun h => ?_) (fun h => ?_) | fail)
        refine wcn dB rfl rfl rfl rfl rfl (by repeat (first | exact Ad | refine Aa (Ab _) ?_)) ?_
        refine wan rfl rfl (by show (((A ++ sSp) ++ C3 x.op) ++ sSp).size + B.size <= _; omega) ?_
        repeat' (first | refine rl0 ?_ | refine rs0 (fun h => ?_) (fun h => ?_) | fail)
        rw [hc, Ev hops, he, Cd]
        simp only [List.map_cons, List.map_nil]
        rw [<- hA, <- hB]
        rw [if_pos h4]; rfl
      . have h4 : Ak x.op ≠ 4 := by simpa using h
        rename_i k1 k2
        simp at k1 k2
        have hl := Qg hops
        obtain ⟨a, b, he⟩ := Th (by rw [hf.1]; omega : (x.args.length : Int) = 2)
        have hlv : 0 <= Ak x.op /\ Ak x.op <= 8 := by unfold Ak; (repeat' split) <;> omega
        have ha := hsub a (by rw [he]; simp)
        have hb := hsub b (by rw [he]; simp)
        have hwl : wtL x.args = wtX a + (wtX b + 0) := by rw [he]; rfl
        have w1 := Cy (Ap a, Ak a.op) (Ak x.op)
        have w2 := Cy (Ap b, Ak b.op) (Ak x.op + 1)
        dsimp only at w1 w2
        generalize hA : F5 (Ap a, Ak a.op) (Ak x.op) = A at w1
        generalize hB : F5 (Ap b, Ak b.op) (Ak x.op + 1) = B at w2
        have dA := Hj (Ak x.op) (by omega) ha.1
        have dB := Hj (Ak x.op + 1) (by omega) hb.1
        rw [hA] at dA
        rw [hB] at dB
        have e1 : (A ++ sSp).size = A.size + 1 := by rw [ByteArray.size_append]; rfl
        have e2 : ((A ++ sSp) ++ C3 x.op).size = A.size + 1 + (C3 x.op).size := by rw [ByteArray.size_append, e1]
        have e3 : (((A ++ sSp) ++ C3 x.op) ++ sSp).size = A.size + 1 + (C3 x.op).size + 1 := by rw [ByteArray.size_append, e2]; rfl
        refine Ib _ rfl rfl rfl rfl rfl (Cf (i := 0) (x := a) (by rw [he]; rfl)) (by omega) ?_
        repeat' (first | refine rl0 ?_ | refine rs0 (fun h => ?_) (fun h => ?_) | fail)
        refine wcn dA rfl rfl rfl rfl rfl (by repeat (first | exact Ad | refine Aa (Ab _) ?_)) ?_
        refine wan rfl rfl (by show A.size + 1 <= _; omega) ?_
        repeat' (first | refine rl0 ?_ | refine rs0 (fun h => ?_) (fun h => ?_) | fail)
        refine wcn (Qp x.op) rfl rfl rfl rfl rfl (by repeat (first | exact Ad | refine Aa (Ab _) ?_)) ?_
        refine wan rfl rfl (by show (A ++ sSp).size + (C3 x.op).size <= _; omega) ?_
        refine wan rfl rfl (by show ((A ++ sSp) ++ C3 x.op).size + 1 <= _; omega) ?_
        repeat' (first | refine rl0 ?_ | refine rs0 (fun h => ?_) (fun h => ?_) | fail)
        refine Ib _ rfl rfl rfl rfl rfl (Cf (i := 1) (x := b) (by rw [he]; rfl)) (by omega) ?_
        repeat' (first | refine rl0 ?_ | refine rs0 (fun h => ?_) (fun h => ?_) | fail)
        refine wcn dB rfl rfl rfl rfl rfl (by repeat (first | exact Ad | refine Aa (Ab _) ?_)) ?_
        refine wan rfl rfl (by show (((A ++ sSp) ++ C3 x.op) ++ sSp).size + B.size <= _; omega) ?_
        repeat' (first | refine rl0 ?_ | refine rs0 (fun h => ?_) (fun h => ?_) | fail)
        rw [hc, Ev hops, he, Cd]
        simp only [List.map_cons, List.map_nil]
        rw [<- hA, <- hB]
        rw [if_neg h4]; rfl
      all_goals (have hlv : Ak x.op = 3 \/ Ak x.op = 7 := by simp at h; omega)
      all_goals (have hl := Qg hops)
      all_goals (obtain ⟨a, he⟩ := Ag7 (by rw [hf.1]; omega : (x.args.length : Int) = 1))
      . have ha := hsub a (by rw [he]; simp)
        have hwl : wtL x.args = wtX a + 0 := by rw [he]; rfl
        have hwr := Cy (Ap a, Ak a.op) (Ak x.op)
        have e1 : (C3 x.op ++ sSp).size = (C3 x.op).size + 1 := by rw [ByteArray.size_append]; rfl
        refine wcn (Qp x.op) rfl rfl rfl rfl rfl (by repeat (first | exact Ad | refine Aa (Ab _) ?_)) ?_
        refine wan rfl rfl (by show (C3 x.op).size + 1 <= _; omega) ?_
        repeat' (first | refine rl0 ?_ | refine rs0 (fun h => ?_) (fun h => ?_) | fail)
        refine Ib _ rfl rfl rfl rfl rfl (Cf (i := 0) (x := a) (by rw [he]; rfl)) (by omega) ?_
        repeat' (first | refine rl0 ?_ | refine rs0 (fun h => ?_) (fun h => ?_) | fail)
        refine wcn (Hj (Ak x.op) (by omega) ha.1) rfl rfl rfl rfl rfl (by repeat (first | exact Ad | refine Aa (Ab _) ?_)) ?_
        refine wan rfl rfl (by show (C3 x.op ++ sSp).size + (F5 (Ap a, Ak a.op) (Ak x.op)).size <= _; dsimp only at hwr; omega) ?_
        repeat' (first | refine rl0 ?_ | refine rs0 (fun h => ?_) (fun h => ?_) | fail)
        rw [hc, Ev hops, he, Cd]; rfl
      . have ha := hsub a (by rw [he]; simp)
        have hwl : wtL x.args = wtX a + 0 := by rw [he]; rfl
        have hwr := Cy (Ap a, Ak a.op) (Ak x.op)
        have e1 : (C3 x.op ++ sSp).size = (C3 x.op).size + 1 := by rw [ByteArray.size_append]; rfl
        refine wcn (Qp x.op) rfl rfl rfl rfl rfl (by repeat (first | exact Ad | refine Aa (Ab _) ?_)) ?_
        refine wan rfl rfl (by show (C3 x.op).size + 1 <= _; omega) ?_
        repeat' (first | refine rl0 ?_ | refine rs0 (fun h => ?_) (fun h => ?_) | fail)
        refine Ib _ rfl rfl rfl rfl rfl (Cf (i := 0) (x := a) (by rw [he]; rfl)) (by omega) ?_
        repeat' (first | refine rl0 ?_ | refine rs0 (fun h => ?_) (fun h => ?_) | fail)
        refine wcn (Hj (Ak x.op) (by omega) ha.1) rfl rfl rfl rfl rfl (by repeat (first | exact Ad | refine Aa (Ab _) ?_)) ?_
        refine wan rfl rfl (by show (C3 x.op ++ sSp).size + (F5 (Ap a, Ak a.op) (Ak x.op)).size <= _; dsimp only at hwr; omega) ?_
        repeat' (first | refine rl0 ?_ | refine rs0 (fun h => ?_) (fun h => ?_) | fail)
        rw [hc, Ev hops, he, Cd]; rfl
end Go.Proofs.YtiledamgmppcmaaGreatDoor
namespace Go.Proofs.YtiledamgmppcmaaGreatDoor
open Go.RowKit
theorem rtext_do (x : Ex) (hs : x.small) : An 17 [exP x] ⟨[], []⟩ (.ret (.tup [By (Vv x).1, Ai (Vv x).2])) ⟨[], []⟩ := by
  refine Af Tryz.func17 rfl rfl (Nat.le_of_ble_eq_true rfl) rfl (Nat.le_refl _) ?_
  repeat' (first | refine rl0 ?_ | refine rs0 (fun h => ?_) (fun h => ?_) | fail)
  refine D3 (Lb x hs) rfl rfl rfl rfl rfl (by repeat (first | exact Ad | refine Aa (Ab _) ?_)) ?_
  repeat' (first | refine rl0 ?_ | refine rs0 (fun h => ?_) (fun h => ?_) | fail)
  . rw [show Vv x = (⟨#[]⟩, 350) from by have := Cr x; simp_all [Vv]]
  have hc : Bg x = 0 := (Cr x).2 (by simpa using h)
  have hf := V6 hc
  refine D3 (Abr x.hgt x (Nat.le_refl _) hf.1 hf.2) rfl rfl rfl rfl rfl (by repeat (first | exact Ad | refine Aa (Ab _) ?_)) ?_
  repeat' (first | refine rl0 ?_ | refine rs0 (fun h => ?_) (fun h => ?_) | fail)
  rw [show Vv x = (Ap x, 0) from if_pos hc]
end Go.Proofs.YtiledamgmppcmaaGreatDoor
namespace Go.Proofs.YtiledamgmppcmaaGreatDoor
open Go.RowKit
theorem An9 (x : Ex) (hs : x.small) : An 19 [exP x] ⟨[], []⟩ (.ret (Ai (Bg x))) ⟨[], []⟩ := by
  have hv := Cr x
  refine Af Tryz.func19 rfl rfl (Nat.le_of_ble_eq_true rfl) rfl (Nat.le_refl _) ?_
  repeat' (first | refine rl0 ?_ | refine rs0 (fun h => ?_) (fun h => ?_) | fail)
  refine D3 (Lb x hs) rfl rfl rfl rfl rfl (by repeat (first | exact Ad | refine Aa (Ab _) ?_)) ?_
  repeat' (first | refine rl0 ?_ | refine rs0 (fun h => ?_) (fun h => ?_) | fail)
  . rw [show Bg x = 350 from by (have h' : Ge x = false := by simpa using h); unfold Bg; rw [h']; rfl]
  . rw [show Bg x = 0 from hv.2 (by simpa using h)]
mutual
theorem Ah8 : ∀ (x : Ex) (l : List ByteArray), (Uh l x).length <= l.length + (Uk x).length
  | .mk o n s a, l => by
    rw [Uh, Uk]
    refine Nat.le_trans (Adv a _) ?_
    split <;> simp <;> omega
theorem Adv : ∀ (a : List Ex) (l : List ByteArray), (I0 l a).length <= l.length + (Gm a).length
  | [], l => by simp [I0]
  | x :: r, l => by
    rw [I0, Gm, List.length_append]
    have h1 := Ah8 x l
    have h2 := Adv r (Uh l x)
    omega
end
theorem Ana {x : Ex} (h : Bg x = 0) : (Uh [] x).length <= 1000000 := by
  obtain ⟨k, hk⟩ := Option.isSome_iff_exists.1 ((Cr x).1 h)
  have h1 := (Wy x _ _ _ hk).1
  have h2 := Ah8 x []
  simp at h2; omega
theorem vars_row (S : PS) : An 21 [] S (.ret (.hd S.toks.length 0)) (S.addTok ⟨0, 1, Adj.map Xj, 9⟩) := by
  refine ⟨enters_of Tryz.func21 rfl rfl, Xr Tryz.func21 rfl (Nat.le_of_ble_eq_true rfl) ?_⟩
  refine C5 ?_
  refine Bx ?_
  refine wst rfl rfl trivial ?_
  refine Ca ?_
  refine C5 ?_
  refine Bx ?_
  refine Kb (r := .hd S.toks.length 0) (S' := S.addTok ⟨0, 1, Adj.map Xj, 9⟩) rfl (Ac3 Gl rfl (C := True) rfl) ?_
  refine wst rfl rfl trivial ?_
  refine Ca ?_
  refine Jq ?_
  exact ⟨.inr rfl, rfl, _, B6 rfl, rfl⟩
theorem cut5 (vars : List ByteArray) : (((vars.map Xj).take ((if (5 : Int) < ((vars.map Xj).length : Int) then (5 : Int) else ((vars.map Xj).length : Int)).toNat)).drop (0 : Int).toNat) = (vars.take 5).map Xj := by
  simp only [Int.toNat_zero, List.drop_zero, List.length_map, <- List.map_take]
  congr 1
  split
  . rfl
  . rw [Int.toNat_natCast, List.take_length, List.take_of_length_le (by omega)]
theorem Ais : ∀ {ys : List Ex} {i : Nat} {y : Ex}, ys[i]? = some y -> ((ys.flatMap fun y => (exP y).parts).drop (((i : Nat) : Int).toNat * 4)).take 4 = (exP y).parts /\ ((i : Nat) : Int).toNat * 4 + 4 <= (ys.flatMap fun y => (exP y).parts).length
  | [], _, _, h => by simp at h
  | z :: ys, 0, y, h => by
    simp at h; subst h
    exact ⟨rfl, by simp only [List.flatMap_cons, List.length_append]; show 0 + 4 <= 4 + _; omega⟩
  | z :: ys, i + 1, y, h => by
    simp only [List.getElem?_cons_succ] at h
    obtain ⟨h1, h2⟩ := Ais h
    rw [Int.toNat_natCast] at h1 h2 |-
    rw [List.flatMap_cons, show (i + 1) * 4 = 4 + i * 4 by omega]
    refine ⟨?_, ?_⟩
    . rw [<- List.drop_drop]
      exact h1
    . rw [List.length_append]; show 4 + i * 4 + 4 <= 4 + _; omega
theorem Ab8 {n m : Nat} : ∀ ys : List Ex, PV.ltL n m (ys.flatMap fun y => (exP y).parts) = true
  | [] => rfl
  | y :: ys => by
    rw [List.flatMap_cons]
    show PV.ltL n m (_ :: _ :: _ :: _ :: (ys.flatMap fun y => (exP y).parts)) = true
    simp only [PV.ltL, PV.lt, Bool.true_and]
    exact Ab8 ys
set_option maxHeartbeats 4000000 in
theorem Agj (x : Ex) (l : List UInt8) (b : BendS) (deep : Nat) (vars : List ByteArray) (hx : x.small) (hbX : b.X.small) (hb : b.ok) (hd : deep < 256) (hw : An 24 [] ⟨[], []⟩ (.ret (A7 true)) ⟨[], []⟩) :
    An 3 [exP x, Co l, Alz b, .d (.v (.int .u8 deep)), D8 vars] ⟨[], []⟩ (.ret (A7 true)) ⟨[], []⟩ := by
  have hsm := Aky hx hbX l deep
  have hso := some_do x l b hb deep hd
  have hlen : (Akx x l b deep).length = 6 := rfl
  generalize Akx x l b deep = ys at *
  refine Af Tryz.func3 rfl rfl (Nat.le_of_ble_eq_true rfl) rfl (Nat.le_refl _) ?_
  repeat' (first | refine rl0 ?_ | refine rs0 (fun h => ?_) (fun h => ?_) | fail)
  refine D3 hso rfl rfl rfl rfl (by simp only [PV.lt]; exact Ab8 ys) (by repeat (first | exact Ad | refine Aa (Ab _) ?_)) ?_
  repeat' (first | refine rl0 ?_ | refine rs0 (fun h => ?_) (fun h => ?_) | fail)
  refine F9 (ι := Nat) (ok := fun i => i <= 6) (L := fun i => [(4, D8 (vars.take 5)), (5, .ptr 0 0), (7, .ptr 1 0), (36, .agg (ys.flatMap fun y => (exP y).parts)), (37, Ai i)]) (Sx := fun _ => ⟨[(exP x).parts, Abn b], []⟩) (μ := fun i => 6 - i) 0 (Nat.zero_le _)
    (Ac (congrArg (fun z => PV.d (DV.sl 1 z)) (cut5 vars)) (by repeat (first | exact Ag | refine Ac rfl ?_))) rfl ?_
  rintro i hi
  repeat' (first | refine rl0 ?_ | refine rs0 (fun h => ?_) (fun h => ?_) | fail)
  . have hlt : i < 6 := by simp at h; omega
    obtain ⟨y, hy⟩ : ∃ y, ys[i]? = some y := ⟨_, List.getElem?_eq_getElem (by omega)⟩
    have hys := hsm y (List.mem_of_getElem? hy)
    refine wiv (exP y).parts rfl rfl rfl rfl rfl ⟨by omega, by show (i : Int) < 6; omega⟩ (Ais hy) ?_
    repeat' (first | refine rl0 ?_ | refine rs0 (fun h => ?_) (fun h => ?_) | fail)
    refine D3 (Ai5 y hys) rfl rfl rfl rfl rfl (by repeat (first | exact Ad | refine Aa (Ab _) ?_)) ?_
    repeat' (first | refine rl0 ?_ | refine rs0 (fun h => ?_) (fun h => ?_) | fail)
    refine D3 (Aob y hys Ana) rfl rfl rfl rfl rfl (by repeat (first | exact Ad | refine Aa (Ab _) ?_)) ?_
    repeat' (first | refine rl0 ?_ | refine rs0 (fun h => ?_) (fun h => ?_) | fail)
    refine D3 (Vh y hys) rfl rfl rfl rfl rfl (by repeat (first | exact Ad | refine Aa (Ab _) ?_)) ?_
    repeat' (first | refine rl0 ?_ | refine rs0 (fun h => ?_) (fun h => ?_) | fail)
    refine D3 (rtext_do y hys) rfl rfl rfl rfl rfl (by repeat (first | exact Ad | refine Aa (Ab _) ?_)) ?_
    repeat' (first | refine rl0 ?_ | refine rs0 (fun h => ?_) (fun h => ?_) | fail)
    refine wcn (F7 y hys) rfl rfl rfl rfl rfl (by repeat (first | exact Ad | refine Aa (Ab _) ?_)) ?_
    repeat' (first | refine rl0 ?_ | refine rs0 (fun h => ?_) (fun h => ?_) | fail)
    refine wcn (An9 y hys) rfl rfl rfl rfl rfl (by repeat (first | exact Ad | refine Aa (Ab _) ?_)) ?_
    repeat' (first | refine rl0 ?_ | refine rs0 (fun h => ?_) (fun h => ?_) | fail)
    . exfalso; simp at h
    . exfalso; simp at h
    have ht := texts_do (Nn y).1 (Nn y).1
    rw [Amf.2 rfl] at ht
    refine wcn ht rfl rfl rfl rfl rfl (by repeat (first | exact Ad | refine Aa (Ab _) ?_)) ?_
    repeat' (first | refine rl0 ?_ | refine rs0 (fun h => ?_) (fun h => ?_) | fail)
    . exfalso; simp at h
    . exfalso; simp at h
    refine D3 vars_do rfl rfl rfl rfl rfl (by repeat (first | exact Ad | refine Aa (Ab _) ?_)) ?_
    repeat' (first | refine rl0 ?_ | refine rs0 (fun h => ?_) (fun h => ?_) | fail)
    refine wcw (vars_row _) rfl rfl rfl (by repeat (first | exact Ad | refine Aa (Ab _) ?_)) ?_
    repeat' (first | refine rl0 ?_ | refine rs0 (fun h => ?_) (fun h => ?_) | fail)
    refine Alh (news := (vars.take 5).map Xj) (S' := ⟨[(exP x).parts, Abn b, (exP y).parts], [⟨1, 1, (Adj ++ vars.take 5).map Xj, 9⟩]⟩) rfl rfl rfl rfl rfl rfl ?_ ?_ (by rw [List.map_append]; rfl) ?_
    . have : (vars.take 5).length <= 5 := by rw [List.length_take]; omega
      simp only [List.length_map]; show (3 + _) * 16 <= _; omega
    . have : (vars.take 5).length <= 5 := by rw [List.length_take]; omega
      simp only [List.length_map]; show 3 + _ <= _; omega
    repeat' (first | refine rl0 ?_ | refine rs0 (fun h => ?_) (fun h => ?_) | fail)
    refine Bt (ι := Nat) (ok := fun k => k <= 3) (L := fun k => [(4, D8 (vars.take 5)), (5, .ptr 0 0), (7, .ptr 1 0), (12, .ptr 2 0), (36, .agg (ys.flatMap fun y => (exP y).parts)), (37, Ai i), (91, .agg [D8 (vars.take 5), D8 Adj, .hd 0 1]), (92, Ai k)]) (Sx := fun _ => ⟨[(exP x).parts, Abn b, (exP y).parts], [⟨1, 1, (Adj ++ vars.take 5).map Xj, 9⟩]⟩) (μ := fun k => 3 - k) 0 (Nat.zero_le _) (by repeat (first | exact Ag | refine Ac rfl ?_)) rfl ?_
    rintro k hk
    repeat' (first | refine rl0 ?_ | refine rs0 (fun h => ?_) (fun h => ?_) | fail)
    . have hk3 : k = 0 \/ k = 1 \/ k = 2 := by simp at h; omega
      rcases hk3 with rfl | rfl | rfl
      . refine Ali (p := D8 (vars.take 5)) rfl rfl rfl rfl rfl (by omega) (by decide) rfl ?_
        repeat' (first | refine rl0 ?_ | refine rs0 (fun h => ?_) (fun h => ?_) | fail)
        refine D3 (Adh _ y hys) rfl rfl rfl rfl rfl (by repeat (first | exact Ad | refine Aa (Ab _) ?_)) ?_
        repeat' (first | refine rl0 ?_ | refine rs0 (fun h => ?_) (fun h => ?_) | fail)
        refine D3 (Acw _ y hys) rfl rfl rfl rfl rfl (by repeat (first | exact Ad | refine Aa (Ab _) ?_)) ?_
        repeat' (first | refine rl0 ?_ | refine rs0 (fun h => ?_) (fun h => ?_) | fail)
        . exfalso; simp at h
        . exfalso; simp at h
        exact ⟨1, by omega, by omega, (by repeat (first | exact Ag | refine Ac rfl ?_)), rfl⟩
      . refine Ali (p := D8 Adj) rfl rfl rfl rfl rfl (by omega) (by decide) rfl ?_
        repeat' (first | refine rl0 ?_ | refine rs0 (fun h => ?_) (fun h => ?_) | fail)
        refine D3 (Adh _ y hys) rfl rfl rfl rfl rfl (by repeat (first | exact Ad | refine Aa (Ab _) ?_)) ?_
        repeat' (first | refine rl0 ?_ | refine rs0 (fun h => ?_) (fun h => ?_) | fail)
        refine D3 (Acw _ y hys) rfl rfl rfl rfl rfl (by repeat (first | exact Ad | refine Aa (Ab _) ?_)) ?_
        repeat' (first | refine rl0 ?_ | refine rs0 (fun h => ?_) (fun h => ?_) | fail)
        . exfalso; simp at h
        . exfalso; simp at h
        exact ⟨2, by omega, by omega, (by repeat (first | exact Ag | refine Ac rfl ?_)), rfl⟩
      . refine Ali (p := .hd 0 1) rfl rfl rfl rfl rfl (by omega) (by decide) rfl ?_
        repeat' (first | refine rl0 ?_ | refine rs0 (fun h => ?_) (fun h => ?_) | fail)
        refine D3 (Adh (Adj ++ vars.take 5) y hys) rfl rfl rfl rfl rfl (Aa (Ab _) (Aa (Q5 (Jh rfl)) Ad)) ?_
        repeat' (first | refine rl0 ?_ | refine rs0 (fun h => ?_) (fun h => ?_) | fail)
        refine D3 (Acw (Adj ++ vars.take 5) y hys) rfl rfl rfl rfl rfl (Aa (Ab _) (Aa (Q5 (Jh rfl)) Ad)) ?_
        repeat' (first | refine rl0 ?_ | refine rs0 (fun h => ?_) (fun h => ?_) | fail)
        . exfalso; simp at h
        . exfalso; simp at h
        exact ⟨3, by omega, by omega, (by repeat (first | exact Ag | refine Ac rfl ?_)), rfl⟩
    . refine ⟨i + 1, by omega, by omega, (by repeat (first | exact Ag | refine Ac rfl ?_)), rfl, rfl, ?_, Nat.le_refl _, Nat.le_refl _⟩
      simp only [ltF, List.all_cons, List.all_nil, PV.lt, Ab8, Bool.and_true]
      rfl
  . refine D3 hw rfl rfl rfl rfl rfl (by repeat (first | exact Ad | refine Aa (Ab _) ?_)) ?_
    repeat' (first | refine rl0 ?_ | refine rs0 (fun h => ?_) (fun h => ?_) | fail)
    rfl
end Go.Proofs.YtiledamgmppcmaaGreatDoor
namespace Go.Proofs.YtiledamgmppcmaaGreatDoor.exprChecks
open Go.ChangeShapes Go.WideShapes Go.ChangeAt Go.RowKit Go.Joins
set_option linter.unusedVariables false
theorem own : ownKnob Tryz.prog.godebug = none := by kernel_rfl
theorem laidOut : laidOutB Tryz.prog = true := by kernel_rfl
set_option maxRecDepth 100000 in
theorem lifted (os : Os) (started : os.Started) (H : Type) (enc : TypeId × Value -> H) :
    ReturnsInHanded {} Tryz.checked os 3 .any (fun w args => (Rows.exprChecksSpec.pre enc Tryz.prog Tryz.f3 Rows.exprChecksRow.domain false w args /\ laidMetH Tryz.prog Rows.exprChecksRow.laid w) /\ sizedMet enc Tryz.prog Tryz.f3 (OpenSpec.ofChange Rows.exprChecksSpec) false w args)
      (Rows.exprChecksSpec.post enc Tryz.prog Tryz.f3 false true false false) := by
  refine returnsInHanded_of_change_and (C := Tryz.checked) (X := fun w _ => laidMetH Tryz.prog Rows.exprChecksRow.laid w) (fun _ _ _ hh h => h.of_heap hh) own started (by kernel_rfl) Tryz.func3
    (ChangeSpec.witness_shaped (enc := enc) (C := Tryz.checked) (os := os) (X := fun w _ => laidMetH Tryz.prog Rows.exprChecksRow.laid w) false (World.laidAll Tryz.prog os Rows.exprChecksRow.laid)
      #[.agg #[.int .i64 0, .int .i64 0, .string ByteArray.empty, .slice none 0 0], .slice none 0 0, .agg #[.int .u8 0, .int .u8 0, .int .i64 0, .string ByteArray.empty, .int .i64 0, .int .i64 0, .string ByteArray.empty, .slice none 0 0], .int .u8 0, .slice none 0 0] 8 (World.laidAll_os _ _ _)
      (World.shaped_of_ZipB (by kernel_rfl) (by kernel_rfl)) (by kernel_rfl) (by kernel_rfl) (by kernel_rfl)
      (by rw [MakeChecks.laidMetH_plain _ _ _ (by kernel_rfl)]; exact laidMet_laidAll _ (by kernel_rfl) (by kernel_rfl))) ?_
  intro W base args ds gs before hval0 hW hcnd _ hL _
  have hval : ∀ (j : Nat) t v, Tryz.f3.params[j]? = some t -> args[j]? = some v -> Value.okWide Tryz.prog W .any base t v := hval0
  have hW' := hW
  obtain ⟨p, q, hA0, hV, rfl, hfz, hnd⟩ := hW
  have hA : DataW.TrodAll enc Tryz.prog W 0 (fun _ => true) true Tryz.f3.params.toList args.toList ds p := hA0
  rw [Tryz.params3] at hA hval
  obtain ⟨v0, vs0, d0, ds0, p0, q0, hargs, rfl, rfl, h0, r0⟩ := trodAll_cons hA
  obtain ⟨v1, vs1, d1, ds1, p1, q1, rfl, rfl, rfl, h1, r1⟩ := trodAll_cons r0
  obtain ⟨v2, vs2, d2, ds2, p2, q2, rfl, rfl, rfl, h2, r2⟩ := trodAll_cons r1
  obtain ⟨v3, vs3, d3, ds3, p3, q3, rfl, rfl, rfl, h3, r3⟩ := trodAll_cons r2
  obtain ⟨v4, vs4, d4, ds4, p4, q4, rfl, rfl, rfl, h4, r4⟩ := trodAll_cons r3
  obtain ⟨rfl, rfl, rfl⟩ := trodAll_nil r4
  obtain rfl : args = #[v0, v1, v2, v3, v4] := by cases args; simp_all
  obtain ⟨rfl, rfl⟩ := trodVars_none hV
  have lt0 : ∀ x ∈ p0, x.block < W.heap.size := by obtain ⟨m, hm⟩ := h0; exact DataW.trod_lt m _ _ _ hm
  have lt1 : ∀ x ∈ p1, x.block < W.heap.size := by obtain ⟨m, hm⟩ := h1; exact DataW.trod_lt m _ _ _ hm
  have lt2 : ∀ x ∈ p2, x.block < W.heap.size := by obtain ⟨m, hm⟩ := h2; exact DataW.trod_lt m _ _ _ hm
  have lt3 : ∀ x ∈ p3, x.block < W.heap.size := by obtain ⟨m, hm⟩ := h3; exact DataW.trod_lt m _ _ _ hm
  have lt4 : ∀ x ∈ p4, x.block < W.heap.size := by obtain ⟨m, hm⟩ := h4; exact DataW.trod_lt m _ _ _ hm
  rw [MakeChecks.laidMetH_plain _ _ _ (by kernel_rfl)] at hL
  have hfr := Pc hL ⟨_, _, .tail _ (.tail _ (.head _)), by kernel_rfl, by kernel_rfl⟩
  obtain ⟨n0, e0, s0, g0⟩ := rd_row Jc (by kernel_rfl) Tryz.underlying24 (hval 0 24 v0 rfl rfl) h0
  obtain ⟨x, rfl, hx⟩ := Ajn _ _ s0
  obtain ⟨n1, e1, g1, s1⟩ := La Jc (by kernel_rfl) Tryz.underlying25 (hval 1 25 v1 rfl rfl) h1
  obtain ⟨l, rfl⟩ := Qo s1
  obtain ⟨n2, e2, s2, g2⟩ := rd_row Jc (by kernel_rfl) Tryz.underlying27 (hval 2 27 v2 rfl rfl) h2
  obtain ⟨b, hb, hbo, hbX⟩ := shp_bend s2
  obtain ⟨z, g3, w3⟩ := Rv Tryz.underlying5 (hval 3 5 v3 rfl rfl) h3
  obtain ⟨u, rfl⟩ := Lp w3
  obtain ⟨n4, e4, g4, s4⟩ := La Jc (by kernel_rfl) Tryz.underlying28 (hval 4 28 v4 rfl rfl) h4
  obtain ⟨vars, rfl, _⟩ := shp_strs s4
  clear hA0 hval0
  rw [hb] at g2
  rw [Of] at g1
  rw [Al3] at g4
  have g0' : Rep Kz W (exP x) v0 := by cases x; exact g0
  refine (Pk (vs := [v0, v1, v2, v3, v4]) (Agj x l b u.toNat vars hx hbX hbo u.toNat_lt Tj) hfr ⟨_, _, rfl, g0', _, _, rfl, g1, _, _, rfl, g2, _, _, rfl, g3, _, _, rfl, g4, rfl⟩).mono fun e W' ⟨he, bel⟩ => ?_
  subst he
  exact ⟨_, rfl, _, _, _, [], _, [], hW', trodAll_mk1 (shut_bool Tryz.underlying4 _), (trodAll_cons_mk (Below.trod laidOut (by kernel_rfl) (of_decide_eq_true (by kernel_rfl)) h0 bel lt0) (trodAll_cons_mk (Below.trod laidOut (by kernel_rfl) (of_decide_eq_true (by kernel_rfl)) h1 bel lt1) (trodAll_cons_mk (Below.trod laidOut (by kernel_rfl) (of_decide_eq_true (by kernel_rfl)) h2 bel lt2) (trodAll_cons_mk (Below.trod laidOut (by kernel_rfl) (of_decide_eq_true (by kernel_rfl)) h3 bel lt3) (trodAll_cons_mk (Below.trod laidOut (by kernel_rfl) (of_decide_eq_true (by kernel_rfl)) h4 bel lt4) trodAll_mk0))))), rfl, bel.frame _, fun h => by cases h⟩
end Go.Proofs.YtiledamgmppcmaaGreatDoor.exprChecks
