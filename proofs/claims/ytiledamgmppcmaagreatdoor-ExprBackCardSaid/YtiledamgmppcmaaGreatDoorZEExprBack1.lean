/- A part of the proofs of some statements of this chapter: texts of these claims, merged. -/
import Derived.Below
import Derived.WalkKit
import Derived.BigQuiet
import Derived.Lib.Hide
import Derived.ControlIn
import Derived.OwnWalkIn
import Derived.Lib.ItoaNum
import Derived.OrdersIn
import Derived.TacticsIn
import Derived.Deep.MidRow
import Derived.OpenShut
import Derived.Lib.SmallJoins
import Derived.Laws.Tables
import Derived.Laws.OwnMore
import Derived.Orders
import Derived.Test.YtiledamgmppcmaaGreatDoorProg
import Derived.Shelf.Abstract
import Derived.Test.YtiledamgmppcmaaGreatDoorRows
import Derived.Carry
import Derived.Lib.LaidU8
import Derived.Lib.LaidTab
import Derived.Lay
import Derived.MakeChecks
import Derived.Laws.Strings
import Derived.WalkSpells
import Derived.WalkLawsBesides
import Derived.Laws.EntriesVeiled
import Derived.Deep.RegionHeld3
import Derived.Deep.QuietTactic
import Derived.Lib.Bytealg
import Derived.Shelf.Strings.Builder1
import Derived.Shelf.Small.Strs
import Derived.Shelf.Small.Wraps
import Derived.Shelf.Strings.BuilderF
import Derived.Shelf.Strings.BuilderK
import Derived.Shelf.Strconv.Atoi
import Derived.Shelf.Strconv.Itoa0
import Derived.Shelf.Strconv.Itoa1
import Derived.Shelf.LaysM
import Derived.Shelf.Strconv.Itoa2
import Derived.Shelf.Strconv.Itoa3
import Derived.Shelf.Strconv.AtoiErrFast
import Derived.Shelf.Strconv.ParseIntEmpty
import Derived.Shelf.Strconv.AtoiFail
import Derived.Shelf.Strconv.Clone
import Derived.Shelf.Strconv.SyntaxError
import Derived.Shelf.LaysC
import Derived.Shelf.Strconv.ToError
import Derived.Shelf.Strconv.AtoiErr
import Derived.Shelf.Strconv.ErrVar
import Derived.Shelf.Strconv.Lower
import Derived.Shelf.Strconv.ParseUint10
import Derived.Shelf.Strconv.ParseUint10Empty
import Derived.Shelf.Strconv.ParseUint10Any
import Derived.Shelf.Strconv.ParseInt10
import Derived.Shelf.Strconv.AtoiLong
import Derived.Shelf.Strconv.AtoiInnerAll
import Derived.Shelf.Strconv.RangeError
import Derived.Shelf.Strconv.ToErrorRange
import Derived.Shelf.Strconv.AtoiAll
import Derived.Shelf.Strconv.ErrVarAll
import Derived.Shelf.Strconv.ParseUintEmpty
import Derived.Shelf.Strconv.ParseUint10b64
import Derived.Shelf.Strconv.ParseUint10b32
import Derived.Shelf.Strconv.ParseUint10b16
import Derived.Shelf.Strconv.ParseUint10b8
import Derived.Shelf.Strconv.ParseUint10At
import Derived.Ground.MpProg
import Derived.Shelf.Pu.ParseUintPublic10
import Derived.Shelf.Pu.ErrVarParseUint
import Derived.Shelf.Strings.Search1
import Derived.Shelf.Strings.Search2
import Derived.Shelf.Strings.Cut
import Derived.Shelf.Strings.Shaped
import Derived.Shelf.Strings.Prefix
import Derived.Deep.DeepCutAuto
import Derived.Lib.IndexBytes
import Derived.Deep.LoopGhost
import Derived.StillTail
import Derived.BigRegion
import Derived.Deep.CutBlock
import Derived.RangeFuncBox
import Derived.RangeFuncLeaves
import Derived.RangeFuncCalls
import Derived.TacticsInMore
import Derived.LoopNIn
import Derived.LoopIn
import Derived.RecoverIn
import Derived.RangeFuncNested
import Derived.Maps.AppendAt
import Derived.Shelf.RegionOpen
import Derived.Laws.StructEq
import Derived.Lib.Join
import Derived.Deep.AppendLies
import Derived.Deep.RegionLaw
import Derived.Laws.Rows
import Derived.RangeFuncOwn
import Derived.Laws.MakeOwn
import Derived.Lib.AppendStr
import Derived.Laws.BytesArg
import Derived.ProofKit
import Derived.Test.YtiledamgmppcmaaGreatDoorZE4
set_option linter.unusedVariables false
set_option linter.unusedSimpArgs false
set_option linter.unusedSectionVars false
set_option linter.all false
namespace Go.Proofs.YtiledamgmppcmaaGreatDoor
open Go.RowKit Go.ChangeShapes Go.ChangeAt
section
variable (P : Program)
def Fo : Nat -> List Field -> Nat -> Bool
  | off, [], n => Nat.beq off n
  | off, f :: r, n => Nat.beq f.offset off && Fo (off + P.cellsOf f.type) r n
def Ri (ts : List TypeId) (t : TypeId) : Bool := match P.underlying t with
  | some .bool => true
  | some (.int _) => true
  | some .string => true
  | some (.slice e) => ts.any (Nat.beq e) && Nat.blt 0 (P.cellsOf e)
  | some (.struct fs) => fs.toList.all (fun f => ts.any (Nat.beq f.type)) && Fo P 0 fs.toList (P.cellsOf t)
  | some (.array m e) => ts.any (Nat.beq e) && Nat.beq (m * P.cellsOf e) (P.cellsOf t)
  | _ => false
def Jj (ts : List TypeId) : Bool := ts.all (Ri P ts)
def Shp : Nat -> TypeId -> List DV -> Prop
  | 0, _, _ => False
  | n + 1, t, ds => match P.underlying t with
    | some .bool => ∃ b, ds = [.v (.bool b)]
    | some (.int k) => ∃ z, ds = [.v (.int k z)] /\ (Lit.int k z).wf = true
    | some .string => ∃ s : ByteArray, ds = [.v (.string s)] /\ s.size <= 9223372036854775807
    | some (.slice e) => ∃ l, ds = [.sl (P.cellsOf e) l] /\ l.length <= 9223372036854775807 /\ ∀ x ∈ l, Shp n e x
    | some (.struct fs) => ∃ parts : List (List DV), ds = parts.flatten /\ parts.length = fs.size /\ ∀ (i : Nat) (f : Field) (p : List DV), fs[i]? = some f -> parts[i]? = some p -> Shp n f.type p
    | some (.array m e) => ∃ parts : List (List DV), ds = parts.flatten /\ parts.length = m /\ ∀ p ∈ parts, Shp n e p
    | _ => False
end
section
variable {P : Program} {K : Kx} {w : World}
theorem Fw : ∀ {parts : List (List DV)} {cs : List (List Value)}, parts.length = cs.length -> (∀ (i : Nat) (p : List DV) (c : List Value), parts[i]? = some p -> cs[i]? = some c -> Bm K w (p.map .d) c) -> Bm K w (parts.flatten.map .d) cs.flatten
  | [], [], _, _ => rfl
  | p :: ps, c :: cs, hl, h => by
    rw [List.flatten_cons, List.flatten_cons, List.map_append]
    exact Bm.append (h 0 p c rfl rfl) (Fw (by simpa using hl) fun i p c hp hc => h (i + 1) p c hp hc)
  | [], _ :: _, hl, _ => by simp at hl
  | _ :: _, [], hl, _ => by simp at hl
theorem Fp : ∀ {fs : List Field} {off n : Nat} {cs : List Value}, Fo P off fs n = true -> cs.length = n -> (fs.map fun f => (cs.drop f.offset).take (P.cellsOf f.type)).flatten = cs.drop off
  | [], off, n, cs, h, hl => by
    simp only [Fo] at h
    obtain rfl := Nat.eq_of_beq_eq_true h
    rw [List.drop_of_length_le (by omega)]; rfl
  | f :: r, off, n, cs, h, hl => by
    simp only [Fo, Bool.and_eq_true] at h
    have e := Nat.eq_of_beq_eq_true h.1
    rw [List.map_cons, List.flatten_cons, Fp h.2 hl, e, <- List.drop_drop, List.take_append_drop]
theorem Ip (c : Nat) : ∀ (m : Nat) {cs : List Value}, cs.length = m * c -> ((List.range m).map fun i => (cs.drop (i * c)).take c).flatten = cs
  | 0, cs, h => by
    have : cs = [] := List.length_eq_zero_iff.1 (by simpa using h)
    subst this; rfl
  | m + 1, cs, h => by
    have h1 := Ip c m (cs := cs.take (m * c)) (by rw [List.length_take, h, Nat.succ_mul]; omega)
    rw [List.range_succ, List.map_append, List.flatten_append]
    have h2 : (List.range m).map (fun i => (cs.drop (i * c)).take c) = (List.range m).map (fun i => ((cs.take (m * c)).drop (i * c)).take c) := by
      refine List.map_congr_left fun i hi => ?_
      have hi : i < m := List.mem_range.1 hi
      rw [List.drop_take, List.take_take]
      congr 1
      have : (i + 1) * c <= m * c := Nat.mul_le_mul_right c hi
      rw [Nat.succ_mul] at this
      omega
    rw [h2, h1]
    simp only [List.map_cons, List.map_nil, List.flatten_cons, List.flatten_nil, List.append_nil]
    rw [List.take_of_length_le (l := cs.drop (m * c)) (by rw [List.length_drop, h, Nat.succ_mul]; omega), List.take_append_drop]
theorem Nk {a : Addr} {n : Nat} {v : Value} (h : w.cell? (a.add n) = some v) : a.block < w.heap.size /\ (n = 0 -> a.spot = none) := by
  unfold World.cell? Addr.add at h
  split at h
  . rename_i c t f hh
    have hb : (if n = 0 then a else { a with off := a.off + n, spot := none }).block = a.block := by split <;> rfl
    rw [hb] at hh
    refine ⟨(Array.getElem?_eq_some_iff.1 hh).1, fun h0 => ?_⟩
    subst h0
    simp only [if_true] at h
    split at h
    . cases h
    . rename_i hs; simpa using hs
  . cases h
theorem G2 {ts : List TypeId} {e : TypeId} (h : ts.any (Nat.beq e) = true) : e ∈ ts := by
  obtain ⟨x, hx, h2⟩ := List.any_eq_true.1 h
  rw [Nat.eq_of_beq_eq_true h2]; exact hx
theorem In {G : Nat -> Nat -> Prop} {b : Nat} : ∀ {ds : List DV} {cs : List Value} {o : Nat}, (∀ (i : Nat) (v : Value), cs[i]? = some v -> w.cell? ⟨b, o + i, none⟩ = some v) -> (∀ (i : Nat) (d : DV) (v : Value), ds[i]? = some d -> cs[i]? = some v -> Ef G w d v) -> ds.length = cs.length -> Bn G w ds b o
  | [], _, _, _, _, _ => by simp [Bn]
  | d :: ds, v :: cs, o, h1, h2, hl => by
    simp only [Bn]
    refine ⟨⟨v, by simpa using h1 0 v rfl, h2 0 d v rfl rfl⟩, In (cs := cs) (fun i v hv => ?_) (fun i d v hd hv => h2 (i + 1) d v hd hv) (by simpa using hl)⟩
    have := h1 (i + 1) v hv
    rwa [show o + (i + 1) = o + 1 + i by omega] at this
  | _ :: _, [], _, _, _, hl => by simp at hl
theorem Lc {G : Nat -> Nat -> Prop} {k b : Nat} : ∀ {l : List (List DV)} {o : Nat}, (∀ (i : Nat) (e : List DV), l[i]? = some e -> e.length = k /\ Bn G w e b (o + i * k)) -> Dd G w k l b o
  | [], _, _ => by simp [Dd]
  | e :: l, o, h => by
    simp only [Dd]
    obtain ⟨h1, h2⟩ := h 0 e rfl
    refine ⟨h1, by simpa using h2, Lc fun i e he => ?_⟩
    have := h (i + 1) e he
    rw [Nat.succ_mul] at this
    exact ⟨this.1, by rw [show o + k + i * k = o + (i * k + k) by omega]; exact this.2⟩
theorem Cz {α β : Type} {R : Nat -> α -> β -> Prop} : ∀ (l : List α) (n : Nat), (∀ (i : Nat) (a : α), l[i]? = some a -> ∃ b, R (n + i) a b) -> ∃ bs : List β, bs.length = l.length /\ ∀ (i : Nat) (a : α) (b : β), l[i]? = some a -> bs[i]? = some b -> R (n + i) a b
  | [], _, _ => ⟨[], rfl, fun i a b h => by simp at h⟩
  | a :: l, n, h => by
    obtain ⟨b, hb⟩ := h 0 a rfl
    obtain ⟨bs, h1, h2⟩ := Cz (R := R) l (n + 1) fun i a ha => by
      have := h (i + 1) a ha
      rwa [show n + (i + 1) = n + 1 + i by omega] at this
    refine ⟨b :: bs, by simp [h1], fun i a' b' ha hb' => ?_⟩
    cases i with
    | zero => simp at ha hb'; subst ha; subst hb'; exact hb
    | succ i =>
      have := h2 i a' b' (by simpa using ha) (by simpa using hb')
      rwa [show n + 1 + i = n + (i + 1) by omega] at this
set_option maxHeartbeats 1000000 in
theorem Rw {H : Type} {enc : TypeId × Value -> H} {base : Nat} {spare : Nat -> Bool} {held : Bool} {ts : List TypeId} (hcl : Jj P ts = true) (hK : ∀ b hi, b < w.heap.size -> K.good w b hi) :
    ∀ (fuel : Nat) (t : TypeId) (cs : List Value) (x : DataW H × List MemPlace), t ∈ ts -> DataW.trod enc P w base spare held fuel t cs = some x -> ∃ ds, Bm K w (ds.map .d) cs /\ Shp P fuel t ds := by
  intro fuel
  induction fuel with
  | zero => intro t cs x _ h; simp [DataW.trod] at h
  | succ n ih =>
    intro t cs x ht h
    have hg := List.all_eq_true.1 hcl t ht
    unfold Ri at hg
    split at hg
    . rename_i hu
      obtain ⟨b, rfl, _⟩ := DataW.trod_bool hu h
      exact ⟨[.v (.bool b)], ⟨_, _, rfl, ⟨rfl, rfl⟩, rfl⟩, by unfold Shp; rw [hu]; exact ⟨b, rfl⟩⟩
    . rename_i k hu
      obtain ⟨z, rfl, _, hw⟩ := DataW.trod_int hu h
      exact ⟨[.v (.int k z)], ⟨_, _, rfl, ⟨rfl, rfl⟩, rfl⟩, by unfold Shp; rw [hu]; exact ⟨z, rfl, hw⟩⟩
    . rename_i hu
      obtain ⟨s, rfl, _, hs⟩ := DataW.trod_string hu h
      exact ⟨[.v (.string s)], ⟨_, _, rfl, ⟨rfl, rfl⟩, rfl⟩, by unfold Shp; rw [hu]; exact ⟨s, rfl, by simpa [maxLen] using hs⟩⟩
    . rename_i e hu
      simp only [Bool.and_eq_true, Nat.blt_eq] at hg
      have he := G2 hg.1
      rcases DataW.trod_slice hu h with ⟨rfl, _⟩ | ⟨a, len, cap, elems, rest, m, hm, rfl, _, hb, h1, h2, h3, h4, _⟩
      . refine ⟨[.sl (P.cellsOf e) []], ⟨_, _, rfl, ?_, rfl⟩, by unfold Shp; rw [hu]; exact ⟨[], rfl, by simp, by simp⟩⟩
        simp only [Rep, Ef]
        exact ⟨none, 0, rfl, Nat.le_refl _, by omega, fun hne => absurd rfl hne⟩
      . obtain rfl : n = m := by omega
        have hel : ∀ (i : Nat) (y : DataW H × List MemPlace), elems[i]? = some y -> ∃ ds : List DV, (∃ cs, w.cells? base (a.add (i * P.cellsOf e)) (P.cellsOf e) = some cs /\ Bm K w (ds.map .d) cs) /\ Shp P n e ds := fun i y hy => by
          have hi : i < len := by rw [<- h3]; exact (List.getElem?_eq_some_iff.1 hy).1
          have h5 := h4 i hi
          rw [hy] at h5
          obtain ⟨cs, h6, h7⟩ := Option.bind_eq_some_iff.1 h5
          obtain ⟨ds, h8, h9⟩ := ih e cs y he h7
          exact ⟨ds, ⟨cs, h6, h8⟩, h9⟩
        obtain ⟨l, hl, hR⟩ := Cz (R := fun i _ ds => (∃ cs, w.cells? base (a.add (i * P.cellsOf e)) (P.cellsOf e) = some cs /\ Bm K w (List.map PV.d ds) cs) /\ Shp P n e ds) elems 0 (fun i y hy => by rw [Nat.zero_add]; exact hel i y hy)
        simp only [Nat.zero_add] at hR
        have hcells : ∀ (i : Nat) (cs : List Value), w.cells? base (a.add (i * P.cellsOf e)) (P.cellsOf e) = some cs -> cs.length = P.cellsOf e /\ ∀ (j : Nat) (v : Value), cs[j]? = some v -> w.cell? ((a.add (i * P.cellsOf e)).add j) = some v := fun i cs hc => by
          unfold World.cells? at hc
          split at hc
          . refine ⟨by have := mapM_some_length hc; simpa using this, fun j v hj => ?_⟩
            have hj' : j < P.cellsOf e := by have := mapM_some_length hc; simp at this; rw [<- this]; exact (List.getElem?_eq_some_iff.1 hj).1
            have := mapM_some_get hc j j (by simp [hj'])
            rw [this]; exact hj
          . cases hc
        have hshape : ∀ x ∈ l, Shp P n e x := fun x hx => by
          obtain ⟨i, hi⟩ := List.mem_iff_getElem?.1 hx
          have hlt := (List.getElem?_eq_some_iff.1 hi).1
          exact (hR i elems[i] x (List.getElem?_eq_getElem (by omega)) hi).2
        have hlen : l.length = len := by omega
        refine ⟨[.sl (P.cellsOf e) l], ⟨_, _, rfl, ?_, rfl⟩, by unfold Shp; rw [hu]; exact ⟨l, rfl, by rw [hlen]; have : maxLen = 9223372036854775807 := rfl; omega, hshape⟩⟩
        simp only [Rep, Ef]
        refine ⟨some a, cap, by rw [hlen], by omega, by have : maxLen = 9223372036854775807 := rfl; omega, fun hne => ?_⟩
        have h0 : 0 < l.length := List.length_pos_iff.2 hne
        obtain ⟨⟨cs0, hc0, _⟩, _⟩ := hR 0 elems[0] l[0] (List.getElem?_eq_getElem (by omega)) (List.getElem?_eq_getElem h0)
        obtain ⟨hl0, hg0⟩ := hcells 0 cs0 hc0
        rw [Nat.zero_mul] at hg0
        have ha0 := Nk (n := 0) (a := a) (v := cs0[0]'(by omega)) (by have := hg0 0 cs0[0] (List.getElem?_eq_getElem (by omega)); simpa [Addr.add] using this)
        have hsp := ha0.2 rfl
        obtain ⟨b, o, sp⟩ := a
        simp only at hsp
        subst hsp
        refine ⟨b, o, rfl, hK b _ ha0.1, Lc fun i d hd => ?_⟩
        have hlt := (List.getElem?_eq_some_iff.1 hd).1
        obtain ⟨⟨cs, hc, hr⟩, _⟩ := hR i elems[i] d (List.getElem?_eq_getElem (by omega)) hd
        obtain ⟨hcl', hcg⟩ := hcells i cs hc
        have hdl : d.length = cs.length := by have := hr.length; simpa using this.symm
        refine ⟨by omega, In (cs := cs) (fun j v hj => ?_) (fun j dd v hdj hvj => ?_) hdl⟩
        . have := hcg j v hj
          have e1 : ((⟨b, o, none⟩ : Addr).add (i * P.cellsOf e)).add j = ⟨b, o + i * P.cellsOf e + j, none⟩ := by
            unfold Addr.add
            split <;> split <;> simp_all
          rwa [e1] at this
        . obtain ⟨u, hu', hru⟩ := hr.get (i := j) (p := .d dd) (by rw [List.getElem?_map, hdj]; rfl)
          rw [hvj] at hu'; cases hu'
          exact hru
    . rename_i fs hu
      simp only [Bool.and_eq_true] at hg
      obtain ⟨xs, m, hm, _, hcl', hxl, hx⟩ := DataW.trod_struct hu h
      obtain rfl : n = m := by omega
      obtain ⟨parts, hpl, hR⟩ := Cz (R := fun i (f : Field) (ds : List DV) => Bm K w (List.map PV.d ds) ((cs.drop f.offset).take (P.cellsOf f.type)) /\ Shp P n f.type ds) fs.toList 0 (fun i f hf => by
        have hf' : fs[i]? = some f := by rw [<- Array.getElem?_toList]; exact hf
        have hlt : i < xs.length := by rw [hxl]; exact (Array.getElem?_eq_some_iff.1 hf').1
        have := hx i f hf'
        rw [List.getElem?_eq_getElem hlt] at this
        exact ih f.type _ _ (G2 (List.all_eq_true.1 hg.1 f (List.mem_of_getElem? hf))) this)
      refine ⟨parts.flatten, ?_, by unfold Shp; rw [hu]; exact ⟨parts, rfl, by rw [hpl]; simp, fun i f p hf hp => (hR i f p (by rw [Array.getElem?_toList]; exact hf) hp).2⟩⟩
      have e := Fp hg.2 hcl'
      rw [List.drop_zero] at e
      rw [<- e]
      refine Fw (by rw [List.length_map, hpl]) fun i p c hp hc => ?_
      rw [List.getElem?_map] at hc
      obtain ⟨f, hf, rfl⟩ := Option.map_eq_some_iff.1 hc
      exact (hR i f p hf hp).1
    . rename_i mm e hu
      simp only [Bool.and_eq_true] at hg
      have he := G2 hg.1
      obtain ⟨xs, m, hm, _, hcl', hxl, hx⟩ := DataW.trod_array hu h
      obtain rfl : n = m := by omega
      obtain ⟨parts, hpl, hR⟩ := Cz (R := fun i (_ : Nat) (ds : List DV) => Bm K w (List.map PV.d ds) ((cs.drop (i * P.cellsOf e)).take (P.cellsOf e)) /\ Shp P n e ds) (List.range mm) 0 (fun i j hj => by
        have hlt : i < mm := by have := (List.getElem?_eq_some_iff.1 hj).1; simpa using this
        have := hx i hlt
        rw [List.getElem?_eq_getElem (by omega)] at this
        rw [Nat.zero_add]
        exact ih e _ _ he this)
      simp only [Nat.zero_add] at hR
      refine ⟨parts.flatten, ?_, by
        unfold Shp; rw [hu]
        refine ⟨parts, rfl, by rw [hpl]; simp, fun p hp => ?_⟩
        obtain ⟨i, hi⟩ := List.mem_iff_getElem?.1 hp
        have hlt := (List.getElem?_eq_some_iff.1 hi).1
        exact (hR i _ p (List.getElem?_eq_getElem (by omega)) hi).2⟩
      have e2 := Ip (P.cellsOf e) mm (cs := cs) (by rw [hcl', Nat.eq_of_beq_eq_true hg.2])
      rw [<- e2]
      refine Fw (by rw [List.length_map, hpl]) fun i p c hp hc => ?_
      rw [List.getElem?_map] at hc
      obtain ⟨j, hj, rfl⟩ := Option.map_eq_some_iff.1 hc
      have : j = i := by
        have h1 := List.getElem?_eq_some_iff.1 hj
        obtain ⟨h2, h3⟩ := h1
        simpa using h3.symm
      subst this
      exact (hR j j p hj hp).1
    . cases hg
end
end Go.Proofs.YtiledamgmppcmaaGreatDoor
namespace Go.Proofs.YtiledamgmppcmaaGreatDoor
open Go.RowKit
section
variable {N : Nat} {ops : Array Oper} {rest : List Oper} {o : Oper} {F : Nat -> PV} {S S' : PS} {q : WRes -> Prop} {C : Prop} {r : PV} {Q : Exit -> (Nat -> PV) -> PS -> Prop}
variable {ch : Nat -> Bool} {U Ut : List Nat} {k : Nat} {bm : Bool} {D : List Nat}
variable {c : Operand} {al : Array Operand} {ats : Array TypeId} {f : Nat} {caps args : List PV}
theorem wcba {id : Nat} {c0 c1 : List PV} (hD : An f args ⟨[c0], []⟩ (.ret r) ⟨[c1], []⟩) (hg : Am ops F o = some true) (hcc : ch k = true) (ho : o.op = .call { callee := .value c, args := al, argTypes := ats }) (hc : evP F c = .fn f caps) (hbox : S.boxes[id]? = some c0) (hl0 : PV.ltL 0 0 c0 = true) (hl1 : PV.ltL 0 0 c1 = true) (hlr : r.lt 0 0 = true)
    (hlt : PV.ltL 1 0 args = true) (ha : F6 S (al.toList.map (evP F) ++ caps) (PV.renL (fbN [id]) (ftN [] S.toks.length) args)) (hS : S.setBox id c1 = S') (hA : Agree U Ut S S') (kk : WA Tryz.prog N ops ch U Ut (k + 1) rest (Ch N o.dst r F) S' false D q) : WA Tryz.prog N ops ch U Ut k (o :: rest) F S false D q := by
  subst hS; exact Qw hg hcc (K3 hD ho hc hbox hl0 hl1 hlr hlt ha) hA kk
end
section
variable {N : Nat} {ops : Array Oper} {rest : List Oper} {o : Oper} {F : Nat -> PV} {S S' S'' : PS} {q : WRes -> Prop} {C : Prop} {r r' : PV} {Q : Exit -> (Nat -> PV) -> PS -> Prop} {ch : Nat -> Bool} {U Ut : List Nat} {k : Nat} {bm : Bool} {D : List Nat}
theorem q10 (kk : WA Tryz.prog N ops ch U Ut (k + 1) rest (Ch N o.dst r F) S bm D q) (hg : Am ops F o = some true := by exact rfl) (hc : ch k = false := by exact rfl) (h : ∀ S', Agree U Ut S S' -> Le tyi Bq F S' o.op = some (C, r, S') := by exact fun _ _ => rfl) (hC : C := by first | exact True.intro | (simp only [IntKind.lo, IntKind.hi]; omega) | omega | decide) : WA Tryz.prog N ops ch U Ut k (o :: rest) F S bm D q := waf hg hc h hC kk
theorem q12 (kk : WA Tryz.prog N ops ch U Ut (k + 1) rest (Ch N o.dst r' F) S bm D q) (hg : Am ops F o = some true := by exact rfl) (hc : ch k = false := by exact rfl) (h : ∀ S', Agree U Ut S S' -> Hz tyi Bq F S' o.op = some (C, r, S') := by exact fun _ _ => rfl) (hr : r = r' := by first | (apply Ck rfl; repeat (first | exact Bp rfl | apply Gx rfl | apply Gy rfl | apply Gz rfl)) | exact Lk rfl | (dsimp only [List.length_cons, List.length_nil, List.length_append, Nat.reduceAdd]; rfl) | rfl) (hC : C := by first | exact True.intro | (simp only [IntKind.lo, IntKind.hi]; omega) | omega | decide) : WA Tryz.prog N ops ch U Ut k (o :: rest) F S bm D q := wafB hg hc h hr hC kk
end
theorem rs2 {G X Y : Prop} (h1 : X) (h2 : Y) (t : Hx X -> Hx Y -> G := by (intro h1 h2; first | exact q17 h1.out h2.out | exact q18 h1.out h2.out | exact q16 h1.out h2.out | fail)) : G := t ⟨h1⟩ ⟨h2⟩
end Go.Proofs.YtiledamgmppcmaaGreatDoor
namespace Go.Proofs.YtiledamgmppcmaaGreatDoor
open Go.RowKit Go.ChangeShapes Go.ChangeAt Go.WideShapes
theorem Rj {W : World} : ∀ b hi, b < W.heap.size -> Kz.good W b hi := fun b hi h => ⟨h, by simp [Kz], by simp [Kz], by simp [Kz], by simp [Kz]⟩
section
variable {P : Program} {W : World} {H : Type} {enc : TypeId × Value -> H} {base : Nat} {spare : Nat -> Bool} {held : Bool} {r : Reach} {b0 : Nat} {ts : List TypeId} {t : TypeId} {v : Value} {d : DataW H} {p : List MemPlace}
theorem Rv {k : IntKind} (hu : P.underlying t = some (.int k)) (hv : Value.okWide P W r b0 t v) (h : DataW.Trod enc P W base spare held t v d p) : ∃ z, Rep Kz W (.d (.v (.int k z))) v /\ (Lit.int k z).wf = true := by
  obtain ⟨z, rfl, _, _, hw⟩ := open_int hu hv h
  exact ⟨z, ⟨rfl, rfl⟩, hw⟩
theorem La {e : TypeId} (hcl : Jj P ts = true) (ht : ts.any (Nat.beq t) = true) (hu : P.underlying t = some (.slice e)) (hv : Value.okWide P W r b0 t v) (h : DataW.Trod enc P W base spare held t v d p) : ∃ n l, Rep Kz W (.d (.sl (P.cellsOf e) l)) v /\ ∀ x ∈ l, Shp P n e x := by
  obtain ⟨a, len, cap, rfl⟩ := okWide_slice hu hv
  obtain ⟨fuel, hf⟩ := h
  obtain ⟨ds, h1, h2⟩ := Rw (K := Kz) hcl Rj fuel t _ _ (G2 ht) hf
  cases fuel with
  | zero => exact h2.elim
  | succ n =>
    unfold Shp at h2
    rw [hu] at h2
    obtain ⟨l, rfl, _, h3⟩ := h2
    obtain ⟨u, us, h4, h5, h6⟩ := h1
    simp [Value.cells] at h4
    exact ⟨n, l, by rw [h4.1]; exact h5, h3⟩
variable {n : Nat} {ds : List DV}
theorem Ix {k : IntKind} (hu : P.underlying t = some (.int k)) (h : Shp P n t ds) : ∃ z, ds = [.v (.int k z)] /\ (Lit.int k z).wf = true := by
  cases n with
  | zero => exact h.elim
  | succ n => unfold Shp at h; rw [hu] at h; exact h
theorem J2 {α : Type} {R : α -> Prop} (f : α -> List DV) : ∀ {l : List (List DV)}, (∀ x ∈ l, ∃ a, x = f a /\ R a) -> ∃ zs : List α, l = zs.map f /\ ∀ a ∈ zs, R a
  | [], _ => ⟨[], rfl, fun _ h => by cases h⟩
  | x :: l, h => by
    obtain ⟨a, rfl, ha⟩ := h x List.mem_cons_self
    obtain ⟨zs, rfl, has⟩ := J2 f (l := l) fun y hy => h y (List.mem_cons_of_mem _ hy)
    refine ⟨a :: zs, rfl, fun b hb => ?_⟩
    rcases List.mem_cons.1 hb with rfl | hb
    . exact ha
    . exact has b hb
end
end Go.Proofs.YtiledamgmppcmaaGreatDoor
namespace Go.Proofs.YtiledamgmppcmaaGreatDoor
open Go.RowKit
structure ZTok where
  kind : Int
  text : List UInt8
  pos : Int
deriving DecidableEq
def Tok.z (t : Tok) : ZTok := ⟨t.kind, t.text, t.pos⟩
end Go.Proofs.YtiledamgmppcmaaGreatDoor
namespace Go.Proofs.YtiledamgmppcmaaGreatDoor
open Go.RowKit
def V3 (k : IntKind) (a b : Int) : Int := k.wrap (BitVec.ofInt k.bits a &&& BitVec.ofInt k.bits b).toNat
section
variable {P : Program} {o : Oper} {F : Nat -> PV} {S : PS} {ty yt : TypeId} {x y : Operand}
theorem T3 {k : IntKind} {a b : Int} (ho : o.op = .binOp .and ty x y yt) (hx : evP F x = .d (.v (.int k a))) (hy : evP F y = .d (.v (.int k b))) : OpS P o F S (.d (.v (.int k (V3 k a b)))) S :=
  E6 ho hx hy rfl fun w => by simp [G6, binOp, Op.intBits, V3]
theorem Nq {t : TypeId} {I : TyI} {n : Nat} {z : Value} {kx ky : IntKind} (ho : o.op = .makeSlice t x y) (hI : TyI.of P t = some I) (hk : I.kind = 2) (hek : I.ek = 1) (hez : I.ez = [z]) (hz1 : z.oneCell' = true) (hx : evP F x = .d (.v (.int kx n))) (hy : evP F y = .d (.v (.int ky n)))
    (hn : I.eb * n <= 281474976710656) (h63 : n <= 9223372036854775807) : OpS P o F S (.d (.sl 1 (List.replicate n [.v z]))) S :=
  OpS.val fun K w ρ hInv h => by
    have h1 := h x (by simp [ho, Op.operands])
    have h2 := h y (by simp [ho, Op.operands])
    rw [hx] at h1
    rw [hy] at h2
    have h1 := Ej h1
    have h2 := Ej h2
    obtain ⟨i, d, zz, hi, hu, hz, _, hzz, hd⟩ := TyI.inv hI
    rw [hk] at hd; simp at hd
    obtain ⟨rfl, ie, hie, ze, hze, hzs, hek2, heb, hez2⟩ := hd
    have hsz : ie.size = 1 := by rw [<- hek]; first | exact hek2 | exact hek2.symm
    have hcl : ze.cells.toList = [z] := by rw [<- hez]; first | exact hez2.1 | exact hez2.1.symm
    have hrun := run_make (P := P) w t I.elem ie ze hu hie hze kx ky n n (by omega) (Int.le_refl _) (by have hb : ie.bytes = I.eb := (by first | exact heb | exact heb.symm); rw [hb]; omega) (by omega)
    simp only [Int.toNat_natCast, hsz, Nat.mul_one] at hrun
    obtain ⟨g1, g2⟩ := hInv.below (w' := w.alloc (.cells (madeCells ze.cells n) I.elem)) ((Below.refl _ _).alloc (Nat.le_refl _) _)
    refine ⟨_, _, K, by simp only [execOp, ho, h1, h2, Sem.run_bind, hrun]; rfl, g2, g1, ?_⟩
    simp only [Rep, Ef, List.length_replicate]
    refine ⟨_, n, rfl, Nat.le_refl _, h63, fun _ => ⟨w.heap.size, 0, rfl, Rh hInv (by simp) _, Fx.2 ⟨fun e he => by rw [List.eq_of_mem_replicate he]; rfl, ?_⟩⟩⟩
    have e1 : (List.replicate n [DV.v z]).flatten = List.replicate n (.v z) := by simp
    rw [e1]
    refine Io On ?_
    rw [U8 hcl n, List.map_replicate]
    exact Tb hz1 n
end
section
variable {N : Nat} {ops : Array Oper} {rest : List Oper} {o : Oper} {F : Nat -> PV} {S : PS} {q : WRes -> Prop}
theorem Apb {k : IntKind} {a b : Int} {ty yt : TypeId} {x y : Operand} (hg : Am ops F o = some true) (ho : o.op = .binOp .and ty x y yt) (hx : evP F x = .d (.v (.int k a))) (hy : evP F y = .d (.v (.int k b)))
    (kk : WK Tryz.prog N ops rest (Ch N o.dst (.d (.v (.int k (V3 k a b)))) F) S q) : WK Tryz.prog N ops (o :: rest) F S q := Kb hg (T3 ho hx hy) kk
theorem Ali {t : TypeId} {x y : Operand} {l : List PV} {kd : IntKind} {j : Int} {p : PV} (hg : Am ops F o = some true) (ho : o.op = .index t x y) (hk : (Bq t && Nat.beq (tyi t).kind 3 && Bq (tyi t).elem && !(tyi (tyi t).elem).isRow) = true) (hx : evP F x = .agg l) (hy : evP F y = .d (.v (.int kd j))) (h0 : 0 <= j) (h1 : j < (tyi t).len)
    (hp : l[j.toNat * (tyi (tyi t).elem).size]? = some p) (kk : WK Tryz.prog N ops rest (Ch N o.dst p F) S q) : WK Tryz.prog N ops (o :: rest) F S q := by
  simp only [Bool.and_eq_true, Bool.not_eq_true'] at hk
  exact Kb hg (J7 ho (Gl t hk.1.1.1) (Nat.eq_of_beq_eq_true hk.1.1.2) (Gl _ hk.1.2) hx hy h0 h1 (.inr ⟨hk.2, hp⟩)) kk
theorem Ah4 {t : TypeId} {x y : Operand} {n : Nat} {kx ky : IntKind} (z : Value) (hg : Am ops F o = some true) (ho : o.op = .makeSlice t x y) (hk : (Bq t && Nat.beq (tyi t).kind 2 && Nat.beq (tyi t).ek 1) = true) (hez : (tyi t).ez = [z]) (hz1 : z.oneCell' = true) (hx : evP F x = .d (.v (.int kx n))) (hy : evP F y = .d (.v (.int ky n)))
    (hn : (tyi t).eb * n <= 281474976710656) (h63 : n <= 9223372036854775807) (kk : WK Tryz.prog N ops rest (Ch N o.dst (.d (.sl 1 (List.replicate n [.v z]))) F) S q) : WK Tryz.prog N ops (o :: rest) F S q := by
  simp only [Bool.and_eq_true] at hk
  exact Kb hg (Nq ho (Gl t hk.1.1) (Nat.eq_of_beq_eq_true hk.1.2) (Nat.eq_of_beq_eq_true hk.2) hez hz1 hx hy hn h63) kk
end
@[reducible] def Co (l : List UInt8) : PV := .d (.sl 1 (l.map fun b => [.v (.int .u8 b.toNat)]))
def Aw (l : List UInt8) (a : Nat) : Int := if a < l.length /\ a < 18 then ((l.getD a 0).toNat : Int) else 0
theorem Ey (l : List UInt8) (a : Nat) : 0 <= Aw l a /\ Aw l a < 256 := by
  unfold Aw
  split
  . have := (l.getD a 0).toNat_lt
    omega
  . omega
theorem Ni {l : List UInt8} {a : Nat} (h : a < l.length) : (l.map fun b => [DV.v (.int .u8 b.toNat)])[((a : Nat) : Int).toNat]? = some [.v (.int .u8 ((l.getD a 0).toNat : Int))] := by
  simp [h, List.getD_eq_getElem?_getD]
@[reducible] def mkS (l : List UInt8) (a : Nat) : PS := ⟨[[Co l, Ai a]], []⟩
theorem No (l : List UInt8) (a : Nat) (ha : a <= 1000000) : An 108 [.ptr 0 0] (mkS l a) (.ret (Ai (Aw l a))) (mkS l (a + 1)) := by
  refine Af Tryz.func108 rfl rfl (Nat.le_of_ble_eq_true rfl) rfl (Nat.le_refl _) ?_
  repeat' (first | refine rl0 ?_ | refine rs0 (fun h => ?_) (fun h => ?_) | fail)
  . rw [show Aw l a = 0 from if_neg (by simp at h; omega)]
  . rename_i g
    rw [show Aw l a = 0 from if_neg (by simp at g h; omega)]
  . rename_i g
    have hc : a < l.length /\ a < 18 := by simp at g h; omega
    refine Ib [.v (.int .u8 ((l.getD a 0).toNat : Int))] rfl rfl rfl rfl rfl (by rw [show ((a : Int) + 1 - 1).toNat = ((a : Nat) : Int).toNat from by omega]; exact Ni hc.1) (by omega) ?_
    have hlt := (l.getD a 0).toNat_lt
    repeat' (first | refine rl0 ?_ | refine rs0 (fun h => ?_) (fun h => ?_) | fail)
    refine wan rfl rfl ⟨by show (-9223372036854775808 : Int) <= _; omega, by show _ <= (9223372036854775807 : Int); omega⟩ ?_
    repeat' (first | refine rl0 ?_ | refine rs0 (fun h => ?_) (fun h => ?_) | fail)
    rw [show Aw l a = ((l.getD a 0).toNat : Int) from if_pos hc]
    rfl
end Go.Proofs.YtiledamgmppcmaaGreatDoor
namespace Go.Proofs.YtiledamgmppcmaaGreatDoor
open Go.RowKit
def Aof : ByteArray := ⟨#[120, 121, 122]⟩
def Dp (want n : Int) : Bool := decide (want = 1) || (decide (want = 0) && decide (V3 .i64 n 128 = 0))
def Ag6 : List Int := [0, 1, 2, 3, 5, 9999, 7, 1]
def C2 (num : Bool) (n : Int) : Ex :=
  if num = false then .mk (3 + n / 16 % 2) 0 ⟨#[]⟩ [] else if 1 < n % 16 then .mk 2 0 (Aof.extract (n / 16 % 3).toNat (n / 16 % 3 + 1).toNat) [] else .mk 1 (Ag6.getD (n / 16 % 8).toNat 0) ⟨#[]⟩ []
def A8 (num : Bool) (n : Int) : Int × List Int :=
  if num = false then (if n % 16 < 10 then (11 + n / 16 % 6, [1, 1]) else if n % 16 < 11 then (6, [2]) else if n % 16 < 15 then (17 + n / 16 % 2, [2, 2]) else (19, [2, 2, 2]))
  else (if n % 16 < 7 then (5, [1]) else if n % 16 < 14 then (7 + n / 16 % 4, [1, 1]) else (19, [2, 1, 1]))
def Be (g : Int -> Nat -> Ex × Nat) : List Int -> Nat -> List Ex × Nat
  | [], a => ([], a)
  | t :: ts, a => ((g t a).1 :: (Be g ts (g t a).2).1, (Be g ts (g t a).2).2)
def Fq (want : Int) (ts : List Int) : List Int := if want = 0 then List.replicate ts.length 0 else ts
def Gd (l : List UInt8) : Nat -> Int -> Nat -> Ex × Nat
  | 0, want, a => (C2 (Dp want (Aw l a)) (Aw l a), a + 1)
  | f + 1, want, a => if Aw l a % 16 < 5 then (C2 (Dp want (Aw l a)) (Aw l a), a + 1) else
      (.mk (A8 (Dp want (Aw l a)) (Aw l a)).1 0 ⟨#[]⟩ (Be (Gd l f) (Fq want (A8 (Dp want (Aw l a)) (Aw l a)).2) (a + 1)).1, (Be (Gd l f) (Fq want (A8 (Dp want (Aw l a)) (Aw l a)).2) (a + 1)).2)
theorem Is (num : Bool) (n : Int) : 1 <= (A8 num n).2.length /\ (A8 num n).2.length <= 3 := by
  unfold A8
  repeat' split
  all_goals simp
theorem F8 (want : Int) (ts : List Int) : (Fq want ts).length = ts.length := by unfold Fq; split <;> simp
theorem Hu {g : Int -> Nat -> Ex × Nat} {b : Nat} (hg : ∀ t a, (g t a).2 <= a + b) : ∀ (ts : List Int) (a : Nat), (Be g ts a).2 <= a + ts.length * b
  | [], a => by simp [Be]
  | t :: ts, a => by
    have h1 := hg t a
    have h2 := Hu hg ts (g t a).2
    simp only [Be, List.length_cons, Nat.succ_mul]
    omega
theorem Mo (l : List UInt8) : ∀ (f : Nat) (want : Int) (a : Nat), (Gd l f want a).2 <= a + 4 ^ f
  | 0, want, a => by simp [Gd]
  | f + 1, want, a => by
    have hp : 1 <= 4 ^ f := Nat.pos_of_ne_zero (by simp)
    rw [Gd]
    split
    . simp only [Nat.pow_succ]; omega
    . have h1 := Hu (Mo l f) (Fq want (A8 (Dp want (Aw l a)) (Aw l a)).2) (a + 1)
      have h2 := Is (Dp want (Aw l a)) (Aw l a)
      rw [F8] at h1
      have h3 : (A8 (Dp want (Aw l a)) (Aw l a)).2.length * 4 ^ f <= 3 * 4 ^ f := Nat.mul_le_mul_right _ h2.2
      simp only [Nat.pow_succ]; omega
theorem Ha {g : Int -> Nat -> Ex × Nat} : ∀ {ts : List Int} {a i : Nat} {t : Int}, ts[i]? = some t -> Be g (ts.take (i + 1)) a = ((Be g (ts.take i) a).1 ++ [(g t (Be g (ts.take i) a).2).1], (g t (Be g (ts.take i) a).2).2)
  | [], a, i, t, h => by simp at h
  | s :: ts, a, 0, t, h => by simp at h; subst h; simp [Be]
  | s :: ts, a, i + 1, t, h => by
    simp only [List.getElem?_cons_succ] at h
    have := Ha (g := g) (a := (g s a).2) h
    simp only [List.take_succ_cons, Be, this, List.cons_append]
theorem Fu {g : Int -> Nat -> Ex × Nat} : ∀ (ts : List Int) (a : Nat), (Be g ts a).1.length = ts.length
  | [], a => rfl
  | t :: ts, a => by simp [Be, Fu ts]
theorem Qf {l : List Int} {i : Nat} {x : Int} (h : l[i]? = some x) : (l.map fun n => [DV.v (.int .i64 n)])[((i : Nat) : Int).toNat]? = some [.v (.int .i64 x)] := by simp [h]
theorem Hr (l r : List Ex) : Eb (l ++ r) = Eb l ++ Eb r := by simp [L5]
set_option maxHeartbeats 1000000 in
theorem Ty (l : List UInt8) (g : Int -> Nat -> Ex × Nat) (b : Nat) (deep : Int) (hd : 0 <= deep /\ deep <= 100) (hg : ∀ t a, (g t a).2 <= a + b) (hone : ∀ (t : Int) (a : Nat), a + b <= 1000000 -> An 66 [.ptr 0 0, Ai t, Ai (deep + 1)] (mkS l a) (.ret (exP (g t a).1)) (mkS l (g t a).2)) (ts : List Int) (hts : ts.length <= 3) (a : Nat) (ha : a + 3 * b <= 1000000) :
    An 147 [.ptr 0 0, Ai deep, Fj ts] (mkS l a) (.ret (.d (.sl 4 (Eb (Be g ts a).1)))) (mkS l (Be g ts a).2) := by
  have raw : An 147 [.ptr 0 0, Ai deep, Fj ts] (mkS l a) (.ret (.hd 0 ts.length)) ⟨[[Co l, Ai (Be g ts a).2]], [⟨ts.length, 4, Eb (Be g ts a).1, 24⟩]⟩ := by
    refine Af Tryz.func147 rfl rfl (Nat.le_of_ble_eq_true rfl) rfl (by simp) ?_
    repeat' (first | refine rl0 ?_ | refine rs0 (fun h => ?_) (fun h => ?_) | fail)
    refine T4 7 4 24 rfl ?_
    refine Bt (ι := Nat) (ok := fun i => i <= ts.length) (L := fun i => [(0, .ptr 0 0), (1, Ai deep), (7, .hd 0 i), (10, Fj ts), (11, Ai (ts.map fun n => [DV.v (.int .i64 n)]).length), (12, Ai i)]) (Sx := fun i => ⟨[[Co l, Ai (Be g (ts.take i) a).2]], [⟨i, 4, Eb (Be g (ts.take i) a).1, 24⟩]⟩) (μ := fun i => ts.length - i) 0 (Nat.zero_le _) (by repeat (first | exact Ag | refine Ac rfl ?_)) rfl ?_
    rintro i hi
    repeat' (first | refine rl0 ?_ | refine rs0 (fun h => ?_) (fun h => ?_) | fail)
    . have hlt : i < ts.length := by simpa using h
      obtain ⟨t, ht⟩ : ∃ t, ts[i]? = some t := ⟨_, List.getElem?_eq_getElem hlt⟩
      have hstep := Ha (g := g) (a := a) ht
      have hle := Hu hg (ts.take i) a
      rw [List.length_take, Nat.min_eq_left hi] at hle
      have hib : i * b <= 2 * b := Nat.mul_le_mul_right _ (by omega)
      have hll := Fu (g := g) (ts.take i) a
      rw [List.length_take, Nat.min_eq_left hi] at hll
      refine wix _ rfl rfl rfl rfl rfl (Qf ht) (by omega) ?_
      repeat' (first | refine rl0 ?_ | refine rs0 (fun h => ?_) (fun h => ?_) | fail)
      refine wcb (id := 0) (hone t _ (by omega)) rfl rfl rfl rfl rfl rfl rfl rfl (by repeat (first | exact Ad | refine Aa (Ab _) ?_)) rfl ?_
      generalize hx : g t (Be g (ts.take i) a).2 = x at hstep |-
      obtain ⟨x, a2⟩ := x
      repeat' (first | refine rl0 ?_ | refine rs0 (fun h => ?_) (fun h => ?_) | fail)
      refine Alh (news := [[.v (.int .i64 x.op), .v (.int .i64 x.n), .v (.string x.name), .sl 4 (Eb x.args)]]) (S' := ⟨[[Co l, Ai a2]], [⟨i + 1, 4, Eb (Be g (ts.take i) a).1 ++ [[.v (.int .i64 x.op), .v (.int .i64 x.n), .v (.string x.name), .sl 4 (Eb x.args)]], 24⟩]⟩) rfl rfl rfl rfl rfl rfl ?_ ?_ rfl ?_
      . rw [A6, hll]; show (i + 1) * 56 <= _; omega
      . rw [A6, hll]; show i + 1 <= _; omega
      repeat' (first | refine rl0 ?_ | refine rs0 (fun h => ?_) (fun h => ?_) | fail)
      refine ⟨i + 1, by omega, by omega, (by repeat (first | exact Ag | refine Ac rfl ?_)), ?_⟩
      rw [hstep, Hr]
      simp [Eb]
      cases x; rfl
    . obtain rfl : i = ts.length := by have : ¬ (i < ts.length) := by simpa using h
                                       omega
      rw [List.take_length]
      exact fin rfl rfl (.inr rfl) rfl rfl rfl rfl
  exact Ki (S' := ⟨[[Co l, Ai (Be g ts a).2]], [⟨ts.length, 4, Eb (Be g ts a).1, 24⟩]⟩) 1 0 (A4 raw (Q5 (Jh rfl))) (Nat.le_refl _) (Nat.le_refl _) rfl rfl
set_option maxHeartbeats 1000000 in
theorem Zr (l : List UInt8) (g : Int -> Nat -> Ex × Nat) (b : Nat) (deep op : Int) (want : Int) (hd : 0 <= deep /\ deep <= 100) (hg : ∀ t a, (g t a).2 <= a + b) (hone : ∀ (t : Int) (a : Nat), a + b <= 1000000 -> An 66 [.ptr 0 0, Ai t, Ai (deep + 1)] (mkS l a) (.ret (exP (g t a).1)) (mkS l (g t a).2)) (ts : List Int) (hts : ts.length <= 3) (a : Nat) (ha : a + 3 * b <= 1000000) :
    An 109 [.ptr 0 0, A7 (decide (want = 0)), Ai deep, Ai op, Fj ts] (mkS l a) (.ret (exP (.mk op 0 ⟨#[]⟩ (Be g (Fq want ts) a).1))) (mkS l (Be g (Fq want ts) a).2) := by
  have hL := Ty l g b deep hd hg hone (Fq want ts) (by rw [F8]; exact hts) a ha
  unfold Fq at hL |-
  refine Af Tryz.func109 rfl rfl (Nat.le_of_ble_eq_true rfl) rfl (Nat.le_refl _) ?_
  repeat' (first | refine rl0 ?_ | refine rs0 (fun h => ?_) (fun h => ?_) | fail)
  . have hw : want = 0 := by simpa using h
    rw [if_pos hw] at hL |-
    rw [show Fj (List.replicate ts.length 0) = .d (.sl 1 (List.replicate ts.length [.v (.int .i64 0)])) from by simp] at hL
    refine Ah4 (n := (ts.map fun n => [DV.v (.int .i64 n)]).length) (kx := .i64) (ky := .i64) (.int .i64 0) rfl rfl rfl rfl rfl rfl rfl (by rw [List.length_map]; show 8 * _ <= _; omega) (by rw [List.length_map]; omega) ?_
    rw [List.length_map]
    repeat' (first | refine rl0 ?_ | refine rs0 (fun h => ?_) (fun h => ?_) | fail)
    refine wcb (id := 0) hL rfl rfl rfl rfl rfl rfl rfl rfl (by repeat (first | exact Ad | refine Aa (Ab _) ?_)) rfl ?_
    repeat' (first | refine rl0 ?_ | refine rs0 (fun h => ?_) (fun h => ?_) | fail)
    rfl
  . have hw : want ≠ 0 := by simpa using h
    rw [if_neg hw] at hL |-
    refine wcb (id := 0) hL rfl rfl rfl rfl rfl rfl rfl rfl (by repeat (first | exact Ad | refine Aa (Ab _) ?_)) rfl ?_
    repeat' (first | refine rl0 ?_ | refine rs0 (fun h => ?_) (fun h => ?_) | fail)
    rfl
end Go.Proofs.YtiledamgmppcmaaGreatDoor
namespace Go.Proofs.YtiledamgmppcmaaGreatDoor
open Go.RowKit
theorem tab8 {n : Int} (h0 : 0 <= n) (h1 : n < 256) : (([Ai 0, Ai 1, Ai 2, Ai 3, Ai 5, Ai 9999, Ai 7, Ai 1] : List PV)[(n / 16 % 8).toNat * 1]?) = some (Ai (Ag6.getD (n / 16 % 8).toNat 0)) := by
  have : n / 16 % 8 = 0 \/ n / 16 % 8 = 1 \/ n / 16 % 8 = 2 \/ n / 16 % 8 = 3 \/ n / 16 % 8 = 4 \/ n / 16 % 8 = 5 \/ n / 16 % 8 = 6 \/ n / 16 % 8 = 7 := by omega
  rcases this with h | h | h | h | h | h | h | h <;> rw [h] <;> rfl
set_option maxHeartbeats 2000000 in
theorem Kw (l : List UInt8) (want deep : Int) (a : Nat) (ha : a <= 1000000) (hd : 0 <= deep /\ deep <= 100) (hl : 10 <= deep \/ Aw l a % 16 < 5) : An 66 [.ptr 0 0, Ai want, Ai deep] (mkS l a) (.ret (exP (C2 (Dp want (Aw l a)) (Aw l a)))) (mkS l (a + 1)) := by
  have hn := Ey l a
  have raw : An 66 [.ptr 0 0, Ai want, Ai deep] (mkS l a) (.ret (.agg [Ai (C2 (Dp want (Aw l a)) (Aw l a)).op, Ai (C2 (Dp want (Aw l a)) (Aw l a)).n, By (C2 (Dp want (Aw l a)) (Aw l a)).name, .d (.v (.slice none 0 0))])) (mkS l (a + 1)) := by
    refine Af Tryz.func66 rfl rfl (Nat.le_of_ble_eq_true rfl) rfl (Nat.le_refl _) ?_
    repeat' (first | refine rl0 ?_ | refine rs0 (fun h => ?_) (fun h => ?_) | fail)
    refine wcb (id := 0) (No l a ha) rfl rfl rfl rfl rfl rfl rfl rfl (by repeat (first | exact Ad | refine Aa (Ab _) ?_)) rfl ?_
    generalize Aw l a = n at *
    refine wst rfl rfl trivial ?_
    refine Ca ?_
    refine C5 ?_
    refine Ln (ι := Unit) (fun _ => True) (fun _ => [(0, .ptr 0 0), (1, Ai want), (2, Ai deep), (6, .ptr 1 0), (7, Ai n), (8, A7 (Dp want n))]) (fun _ => ⟨[[Co l, Ai ((a + 1 : Nat) : Int)], [Ai 0, Ai 0, By ⟨#[]⟩, .d (.v (.slice none 0 0))]], []⟩) ?_ (fun _ _ => ?_)
    . refine Bx ?_
      refine wst rfl rfl trivial ?_
      refine wst rfl rfl trivial ?_
      refine wst rfl rfl trivial ?_
      refine H9 rfl rfl rfl ⟨rfl⟩ (fun h => ?_) (fun h => ?_)
      . repeat refine E7 rfl ?_
        refine wst rfl rfl trivial ?_
        refine wst rfl rfl trivial ?_
        refine Ca ?_
        refine ⟨(), trivial, ?_, rfl⟩
        have e : Dp want n = true := by unfold Dp; rw [h]; rfl
        rw [e]
        exact (by repeat (first | exact Ag | refine Ac rfl ?_))
      . refine wst rfl rfl trivial ?_
        refine wst rfl rfl trivial ?_
        refine wst rfl rfl trivial ?_
        refine H9 rfl rfl rfl ⟨rfl⟩ (fun h2 => ?_) (fun h2 => ?_)
        . refine wst rfl rfl trivial ?_
          refine Apb rfl rfl rfl rfl ?_
          refine wst rfl rfl trivial ?_
          refine wst rfl rfl trivial ?_
          refine wst rfl rfl trivial ?_
          refine wst rfl rfl trivial ?_
          refine Ca ?_
          refine ⟨(), trivial, ?_, rfl⟩
          have e : Dp want n = decide (V3 .i64 n 128 = 0) := by unfold Dp; rw [h, h2]; rfl
          rw [e]
          exact (by repeat (first | exact Ag | refine Ac rfl ?_))
        . repeat refine E7 rfl ?_
          refine wst rfl rfl trivial ?_
          refine wst rfl rfl trivial ?_
          refine wst rfl rfl trivial ?_
          refine Ca ?_
          refine ⟨(), trivial, ?_, rfl⟩
          have e : Dp want n = false := by unfold Dp; rw [h, h2]; rfl
          rw [e]
          exact (by repeat (first | exact Ag | refine Ac rfl ?_))
    generalize Dp want n = b
    refine C5 ?_
    refine C5 ?_
    refine Ln (ι := Unit) (fun _ => True) (fun _ => [(0, .ptr 0 0), (1, Ai want), (2, Ai deep), (6, .ptr 1 0), (7, Ai n), (8, A7 b), (29, A7 true)]) (fun _ => ⟨[[Co l, Ai ((a + 1 : Nat) : Int)], [Ai 0, Ai 0, By ⟨#[]⟩, .d (.v (.slice none 0 0))]], []⟩) ?_ (fun _ _ => ?_)
    . refine Bx ?_
      refine wst rfl rfl trivial ?_
      refine wst rfl rfl trivial ?_
      refine wst rfl rfl trivial ?_
      refine H9 rfl rfl rfl ⟨rfl⟩ (fun h => ?_) (fun h => ?_)
      . repeat refine E7 rfl ?_
        refine wst rfl rfl trivial ?_
        refine Ca ?_
        exact ⟨(), trivial, (by repeat (first | exact Ag | refine Ac rfl ?_)), rfl⟩
      . refine wst rfl rfl trivial ?_
        refine wst rfl rfl ⟨by omega, by omega⟩ ?_
        refine wst rfl rfl trivial ?_
        refine wst rfl rfl trivial ?_
        refine Ca ?_
        refine ⟨(), trivial, ?_, rfl⟩
        have e : decide (n % 16 < 5) = true := by simp at h |-; omega
        exact Ac rfl (Ac rfl (Ac rfl (Ac rfl (Ac rfl (Ac rfl (Ac (show PV.d (.v (.bool (decide (n % 16 < 5)))) = _ by rw [e]) Ag))))))
    cases b
    . repeat' (first | refine rl0 ?_ | refine rs0 (fun h => ?_) (fun h => ?_) | fail)
      rw [show C2 false n = .mk (3 + n / 16 % 2) 0 ⟨#[]⟩ [] from rfl]
      rfl
    . repeat' (first | refine rl0 ?_ | refine rs0 (fun h => ?_) (fun h => ?_) | fail)
      . have e : C2 true n = .mk 2 0 (Aof.extract (n / 16 % 3).toNat (n / 16 % 3 + 1).toNat) [] := by unfold C2; rw [if_neg (by simp), if_pos (by simpa using h)]
        refine wst rfl rfl ⟨by omega, by omega, by show _ <= (3 : Int); omega⟩ ?_
        repeat' (first | refine rl0 ?_ | refine rs0 (fun h => ?_) (fun h => ?_) | fail)
        rw [e]
        rfl
      . have e : C2 true n = .mk 1 (Ag6.getD (n / 16 % 8).toNat 0) ⟨#[]⟩ [] := by unfold C2; rw [if_neg (by simp), if_neg (by simpa using h)]
        refine Ali rfl rfl rfl rfl rfl (by omega) (by show _ < 8; omega) (tab8 hn.1 hn.2) ?_
        repeat' (first | refine rl0 ?_ | refine rs0 (fun h => ?_) (fun h => ?_) | fail)
        rw [e]
        rfl
  exact A4 raw (A9 (Aa (Ab _) (Aa (Ab _) (Aa (Ab _) (Aa (by
    have e : Eb (C2 (Dp want (Aw l a)) (Aw l a)).args = [] := by
      unfold C2
      split
      . rfl
      . split <;> rfl
    rw [e]; exact Bo) Ad)))))
set_option maxHeartbeats 4000000 in
theorem Rq (l : List UInt8) : ∀ (f : Nat), f <= 9 -> ∀ (want : Int) (a : Nat), a + 4 ^ f <= 1000000 -> An 66 [.ptr 0 0, Ai want, Ai (10 - f)] (mkS l a) (.ret (exP (Gd l f want a).1)) (mkS l (Gd l f want a).2)
  | 0, _, want, a, ha => by
    rw [Gd]
    exact Kw l want _ a (by simp at ha; omega) ⟨by simp, by simp⟩ (.inl (by simp))
  | f + 1, hf, want, a, ha => by
    have hp : 1 <= 4 ^ f := Nat.pos_of_ne_zero (by simp)
    have hpow : 4 ^ (f + 1) = 4 * 4 ^ f := by rw [Nat.pow_succ]; omega
    rw [Gd]
    by_cases hlf : Aw l a % 16 < 5
    . rw [if_pos hlf]
      exact Kw l want _ a (by omega) ⟨by omega, by omega⟩ (.inr hlf)
    rw [if_neg hlf]
    have hdeep : (10 : Int) - ((f + 1 : Nat) : Int) + 1 = 10 - (f : Nat) := by omega
    have hsub := fun (op : Int) (ts : List Int) (hts : ts.length <= 3) => Zr l (Gd l f) (4 ^ f) (10 - ((f + 1 : Nat) : Int)) op want ⟨by omega, by omega⟩ (Mo l f) (fun t a' h' => by rw [hdeep]; exact Rq l f (by omega) t a' h') ts hts (a + 1) (by omega)
    have hn := Ey l a
    have hnx := No l a (by omega)
    generalize hdp : (10 : Int) - ((f + 1 : Nat) : Int) = deep at *
    have hd : 0 <= deep /\ deep < 10 := by omega
    refine Af Tryz.func66 rfl rfl (Nat.le_of_ble_eq_true rfl) rfl (Nat.le_refl _) ?_
    repeat' (first | refine rl0 ?_ | refine rs0 (fun h => ?_) (fun h => ?_) | fail)
    refine wcb (id := 0) hnx rfl rfl rfl rfl rfl rfl rfl rfl (by repeat (first | exact Ad | refine Aa (Ab _) ?_)) rfl ?_
    generalize Aw l a = n at *
    refine wst rfl rfl trivial ?_
    refine Ca ?_
    refine C5 ?_
    refine Ln (ι := Unit) (fun _ => True) (fun _ => [(0, .ptr 0 0), (1, Ai want), (2, Ai deep), (6, .ptr 1 0), (7, Ai n), (8, A7 (Dp want n))]) (fun _ => ⟨[[Co l, Ai ((a + 1 : Nat) : Int)], [Ai 0, Ai 0, By ⟨#[]⟩, .d (.v (.slice none 0 0))]], []⟩) ?_ (fun _ _ => ?_)
    . refine Bx ?_
      refine wst rfl rfl trivial ?_
      refine wst rfl rfl trivial ?_
      refine wst rfl rfl trivial ?_
      refine H9 rfl rfl rfl ⟨rfl⟩ (fun h => ?_) (fun h => ?_)
      . repeat refine E7 rfl ?_
        refine wst rfl rfl trivial ?_
        refine wst rfl rfl trivial ?_
        refine Ca ?_
        refine ⟨(), trivial, ?_, rfl⟩
        have e : Dp want n = true := by unfold Dp; rw [h]; rfl
        rw [e]
        exact (by repeat (first | exact Ag | refine Ac rfl ?_))
      . refine wst rfl rfl trivial ?_
        refine wst rfl rfl trivial ?_
        refine wst rfl rfl trivial ?_
        refine H9 rfl rfl rfl ⟨rfl⟩ (fun h2 => ?_) (fun h2 => ?_)
        . refine wst rfl rfl trivial ?_
          refine Apb rfl rfl rfl rfl ?_
          refine wst rfl rfl trivial ?_
          refine wst rfl rfl trivial ?_
          refine wst rfl rfl trivial ?_
          refine wst rfl rfl trivial ?_
          refine Ca ?_
          refine ⟨(), trivial, ?_, rfl⟩
          have e : Dp want n = decide (V3 .i64 n 128 = 0) := by unfold Dp; rw [h, h2]; rfl
          rw [e]
          exact (by repeat (first | exact Ag | refine Ac rfl ?_))
        . repeat refine E7 rfl ?_
          refine wst rfl rfl trivial ?_
          refine wst rfl rfl trivial ?_
          refine wst rfl rfl trivial ?_
          refine Ca ?_
          refine ⟨(), trivial, ?_, rfl⟩
          have e : Dp want n = false := by unfold Dp; rw [h, h2]; rfl
          rw [e]
          exact (by repeat (first | exact Ag | refine Ac rfl ?_))
    generalize Dp want n = b
    refine C5 ?_
    refine C5 ?_
    refine Ln (ι := Unit) (fun _ => True) (fun _ => [(0, .ptr 0 0), (1, Ai want), (2, Ai deep), (6, .ptr 1 0), (7, Ai n), (8, A7 b), (29, A7 false)]) (fun _ => ⟨[[Co l, Ai ((a + 1 : Nat) : Int)], [Ai 0, Ai 0, By ⟨#[]⟩, .d (.v (.slice none 0 0))]], []⟩) ?_ (fun _ _ => ?_)
    . refine Bx ?_
      refine wst rfl rfl trivial ?_
      refine wst rfl rfl trivial ?_
      refine wst rfl rfl trivial ?_
      refine H9 rfl rfl rfl ⟨rfl⟩ (fun h => ?_) (fun h => ?_)
      . exfalso; simp at h; omega
      . refine wst rfl rfl trivial ?_
        refine wst rfl rfl ⟨by omega, by omega⟩ ?_
        refine wst rfl rfl trivial ?_
        refine wst rfl rfl trivial ?_
        refine Ca ?_
        refine ⟨(), trivial, ?_, rfl⟩
        have e : decide (n % 16 < 5) = false := by simp; omega
        exact Ac rfl (Ac rfl (Ac rfl (Ac rfl (Ac rfl (Ac rfl (Ac (show PV.d (.v (.bool (decide (n % 16 < 5)))) = _ by rw [e]) Ag))))))
    cases b
    . repeat' (first | refine rl0 ?_ | refine rs0 (fun h => ?_) (fun h => ?_) | fail)
      . have e : A8 false n = (11 + n / 16 % 6, [1, 1]) := by unfold A8; rw [if_pos rfl,  if_pos (by simpa using h)]
        rw [e]
        refine wcb (id := 0) (hsub (11 + n / 16 % 6) [1, 1] (by decide)) rfl rfl rfl rfl rfl rfl rfl rfl (by repeat (first | exact Ad | refine Aa (Ab _) ?_)) rfl ?_
        repeat' (first | refine rl0 ?_ | refine rs0 (fun h => ?_) (fun h => ?_) | fail)
        rfl
      . rename_i g1
        have e : A8 false n = (6, [2]) := by unfold A8; rw [if_pos rfl, if_neg (by simpa using g1), if_pos (by simpa using h)]
        rw [e]
        refine wcb (id := 0) (hsub (6) [2] (by decide)) rfl rfl rfl rfl rfl rfl rfl rfl (by repeat (first | exact Ad | refine Aa (Ab _) ?_)) rfl ?_
        repeat' (first | refine rl0 ?_ | refine rs0 (fun h => ?_) (fun h => ?_) | fail)
        rfl
      . rename_i g1 g2
        have e : A8 false n = (17 + n / 16 % 2, [2, 2]) := by unfold A8; rw [if_pos rfl, if_neg (by simpa using g1), if_neg (by simpa using g2), if_pos (by simpa using h)]
        rw [e]
        refine wcb (id := 0) (hsub (17 + n / 16 % 2) [2, 2] (by decide)) rfl rfl rfl rfl rfl rfl rfl rfl (by repeat (first | exact Ad | refine Aa (Ab _) ?_)) rfl ?_
        repeat' (first | refine rl0 ?_ | refine rs0 (fun h => ?_) (fun h => ?_) | fail)
        rfl
      . rename_i g1 g2
        have e : A8 false n = (19, [2, 2, 2]) := by unfold A8; rw [if_pos rfl, if_neg (by simpa using g1), if_neg (by simpa using g2), if_neg (by simpa using h)]
        rw [e]
        refine wcb (id := 0) (hsub (19) [2, 2, 2] (by decide)) rfl rfl rfl rfl rfl rfl rfl rfl (by repeat (first | exact Ad | refine Aa (Ab _) ?_)) rfl ?_
        repeat' (first | refine rl0 ?_ | refine rs0 (fun h => ?_) (fun h => ?_) | fail)
        rfl
    . repeat' (first | refine rl0 ?_ | refine rs0 (fun h => ?_) (fun h => ?_) | fail)
      . have e : A8 true n = (5, [1]) := by unfold A8; rw [if_neg (by simp),  if_pos (by simpa using h)]
        rw [e]
        refine wcb (id := 0) (hsub (5) [1] (by decide)) rfl rfl rfl rfl rfl rfl rfl rfl (by repeat (first | exact Ad | refine Aa (Ab _) ?_)) rfl ?_
        repeat' (first | refine rl0 ?_ | refine rs0 (fun h => ?_) (fun h => ?_) | fail)
        rfl
      . rename_i g1
        have e : A8 true n = (7 + n / 16 % 4, [1, 1]) := by unfold A8; rw [if_neg (by simp), if_neg (by simpa using g1), if_pos (by simpa using h)]
        rw [e]
        refine wcb (id := 0) (hsub (7 + n / 16 % 4) [1, 1] (by decide)) rfl rfl rfl rfl rfl rfl rfl rfl (by repeat (first | exact Ad | refine Aa (Ab _) ?_)) rfl ?_
        repeat' (first | refine rl0 ?_ | refine rs0 (fun h => ?_) (fun h => ?_) | fail)
        rfl
      . rename_i g1
        have e : A8 true n = (19, [2, 1, 1]) := by unfold A8; rw [if_neg (by simp), if_neg (by simpa using g1), if_neg (by simpa using h)]
        rw [e]
        refine wcb (id := 0) (hsub (19) [2, 1, 1] (by decide)) rfl rfl rfl rfl rfl rfl rfl rfl (by repeat (first | exact Ad | refine Aa (Ab _) ?_)) rfl ?_
        repeat' (first | refine rl0 ?_ | refine rs0 (fun h => ?_) (fun h => ?_) | fail)
        rfl
end Go.Proofs.YtiledamgmppcmaaGreatDoor
namespace Go.Proofs.YtiledamgmppcmaaGreatDoor
open Go.RowKit
def Ic (l : List UInt8) (want : Int) : Ex := (Gd l 9 want 0).1
theorem O1 (l : List UInt8) (want : Int) : An 28 [Co l, Ai want] ⟨[], []⟩ (.ret (exP (Ic l want))) ⟨[], []⟩ := by
  refine Af Tryz.func28 rfl rfl (Nat.le_of_ble_eq_true rfl) rfl (Nat.le_refl _) ?_
  repeat' (first | refine rl0 ?_ | refine rs0 (fun h => ?_) (fun h => ?_) | fail)
  refine wcb (id := 1) (Rq l 9 (by omega) want 0 (by decide)) rfl rfl rfl rfl rfl rfl rfl rfl (by repeat (first | exact Ad | refine Aa (Ab _) ?_)) rfl ?_
  repeat' (first | refine rl0 ?_ | refine rs0 (fun h => ?_) (fun h => ?_) | fail)
  rfl
end Go.Proofs.YtiledamgmppcmaaGreatDoor
namespace Go.Proofs.YtiledamgmppcmaaGreatDoor
open Go.RowKit
noncomputable section
end
end Go.Proofs.YtiledamgmppcmaaGreatDoor
namespace Go.Proofs.YtiledamgmppcmaaGreatDoor
open Go.RowKit
noncomputable section
section
variable (P : Program) (orc : Nat -> List PV -> PS -> Option (POut × PS)) (rows : Nat -> Bool)
end
end
end Go.Proofs.YtiledamgmppcmaaGreatDoor
namespace Go.Proofs.YtiledamgmppcmaaGreatDoor
open Go.RowKit Go.ChangeShapes Go.ChangeAt Go.WideShapes
def Zv : List TypeId := [24, 22, 3, 9, 5, 25, 28, 64, 27, 47, 44, 50, 45, 48]
theorem Jc : Jj Tryz.prog Zv = true := by kernel_rfl
theorem Of : Tryz.prog.cellsOf 5 = 1 := by kernel_rfl
theorem Lp {z : Int} (h : (Lit.int .u8 z).wf = true) : ∃ b : UInt8, z = b.toNat := by
  have hb := bounds_u8 h
  refine ⟨UInt8.ofNat z.toNat, ?_⟩
  rw [UInt8.toNat_ofNat']
  omega
theorem Qo {n : Nat} {l : List (List DV)} (h : ∀ x ∈ l, Shp Tryz.prog n 5 x) : ∃ bs : List UInt8, l = bs.map fun b => [DV.v (.int .u8 b.toNat)] := by
  obtain ⟨bs, h1, _⟩ := J2 (fun b : UInt8 => [DV.v (.int .u8 b.toNat)]) (R := fun _ => True) fun x hx => by
    obtain ⟨z, rfl, hw⟩ := Ix Tryz.underlying5 (h x hx)
    obtain ⟨b, rfl⟩ := Lp hw
    exact ⟨b, rfl, trivial⟩
  exact ⟨bs, h1⟩
end Go.Proofs.YtiledamgmppcmaaGreatDoor
namespace Go.Proofs.YtiledamgmppcmaaGreatDoor
open Go.RowKit
theorem M0 {op : Int} (h1 : 5 <= op) (h2 : op <= 18) : op = 5 \/ op = 6 \/ op = 7 \/ op = 8 \/ op = 9 \/ op = 10 \/ op = 11 \/ op = 12 \/ op = 13 \/ op = 14 \/ op = 15 \/ op = 16 \/ op = 17 \/ op = 18 := by omega
end Go.Proofs.YtiledamgmppcmaaGreatDoor
namespace Go.Proofs.YtiledamgmppcmaaGreatDoor
open Go.RowKit
structure PRes where
  x : Ex
  at' : Nat
  bad : Bool
def PRes.no (a : Nat) : PRes := ⟨.nil, a, true⟩
def PRes.yes (x : Ex) (a : Nat) : PRes := ⟨x, a, false⟩
def PRes.go (p : PRes) (f : Ex -> Nat -> PRes) : PRes := if p.bad = true then .no p.at' else f p.x p.at'
def Ba (l : List TkZ) (a : Nat) (s : ByteArray) : Bool := match l[a]? with
  | some t => decide (t.2.1 = s) && (decide (t.1 = 2) || decide (t.1 = 4))
  | none => false
def Ct (l : List TkZ) (a : Nat) (s : ByteArray) (f : Nat -> PRes) : PRes := if Ba l a s = true then f (a + 1) else .no a
def Jk : Nat -> List (Int × ByteArray)
  | 1 => [(18, ⟨#[111, 114]⟩)]
  | 2 => [(17, ⟨#[97, 110, 100]⟩)]
  | 4 => [(11, ⟨#[61]⟩), (12, ⟨#[33, 61]⟩), (13, ⟨#[60]⟩), (14, ⟨#[60, 61]⟩), (15, ⟨#[62]⟩), (16, ⟨#[62, 61]⟩)]
  | 5 => [(7, ⟨#[43]⟩), (8, ⟨#[45]⟩)]
  | 6 => [(9, ⟨#[42]⟩), (10, ⟨#[47]⟩)]
  | _ => []
def Bd (l : List TkZ) (a m : Nat) : Option Int := ((Jk m).find? fun p => Ba l a p.2).map (·.1)
def Ao (m : Nat) : Nat := if m = 2 then 3 else m + 1
def kIf : ByteArray := ⟨#[105, 102]⟩
def Kq : ByteArray := ⟨#[116, 104, 101, 110]⟩
def Kp : ByteArray := ⟨#[101, 108, 115, 101]⟩
def Ab6 : ByteArray := ⟨#[110, 111, 116]⟩
def Ms : ByteArray := ⟨#[45]⟩
def Ik : ByteArray := ⟨#[40]⟩
def Hl : ByteArray := ⟨#[41]⟩
def Lv (s : ByteArray) : Int := (Lib.atoi s.data.toList).getD 0
def Gf (t : TkZ) (a : Nat) : PRes := if t.1 = 1 then .yes (.mk 2 0 t.2.1 []) (a + 1) else if t.1 = 3 then .yes (.mk 1 (Lv t.2.1) ⟨#[]⟩ []) (a + 1) else .no a
def Jm (l : List TkZ) (a : Nat) : PRes := match l[a]? with
  | none => .no a
  | some t => Gf t a
mutual
def pE (l : List TkZ) : Nat -> Nat -> Nat -> PRes
  | 0, _, a => .no a
  | n + 1, 0, a => if Ba l a kIf = true then
      (pE l n 0 (a + 1)).go fun x b => Ct l b Kq fun b => (pE l n 0 b).go fun y c => Ct l c Kp fun c => (pE l n 0 c).go fun z d => .yes (nd 19 [x, y, z]) d
      else pE l n 1 a
  | n + 1, 3, a => if Ba l a Ab6 = true then (pE l n 3 (a + 1)).go fun x b => .yes (nd 6 [x]) b
      else (pE l n 5 a).go fun x b => match Bd l b 4 with
        | some op => (pE l n 5 (b + 1)).go fun y c => .yes (nd op [x, y]) c
        | none => .yes x b
  | n + 1, 7, a => if Ba l a Ms = true then (pE l n 7 (a + 1)).go fun x b => .yes (nd 5 [x]) b
      else if Ba l a Oc = true then .yes (nd 3 []) (a + 1)
      else if Ba l a Jg = true then .yes (nd 4 []) (a + 1)
      else if Ba l a Ik = true then (pE l n 0 (a + 1)).go fun x b => Ct l b Hl fun c => .yes x c
      else Jm l a
  | n + 1, m, a => (pE l n (Ao m) a).go fun x b => pR l n m x b
def pR (l : List TkZ) : Nat -> Nat -> Ex -> Nat -> PRes
  | 0, _, _, a => .no a
  | n + 1, m, x, a => match Bd l a m with
    | none => .yes x a
    | some op => (pE l n (Ao m) (a + 1)).go fun y b => pR l n m (nd op [x, y]) b
end
def A5 : Nat -> Nat
  | 0 => 8
  | 1 => 7
  | 2 => 6
  | 3 => 5
  | 5 => 4
  | 6 => 3
  | _ => 2
def D1 (l : List TkZ) (a : Nat) : PRes := pE l (8 * (l.length - a) + 9) 0 a
theorem Bs {l : List TkZ} {a : Nat} {s : ByteArray} (h : Ba l a s = true) : a < l.length := by
  unfold Ba at h
  split at h
  . rename_i t ht; exact (List.getElem?_eq_some_iff.1 ht).1
  . cases h
theorem B0 {l : List TkZ} {a m : Nat} {op : Int} (h : Bd l a m = some op) : a < l.length := by
  unfold Bd at h
  obtain ⟨p, hp, _⟩ := Option.map_eq_some_iff.1 h
  have h2 := List.find?_some (p := fun q : Int × ByteArray => Ba l a q.2) hp
  exact Bs h2
def PRes.fits (p : PRes) (l : List TkZ) (a : Nat) : Prop := a <= p.at' /\ (a <= l.length -> p.at' <= l.length)
theorem Dh {l : List TkZ} {a : Nat} : (PRes.no a).fits l a := ⟨Nat.le_refl _, id⟩
theorem Bc {l : List TkZ} {a : Nat} {x : Ex} : (PRes.yes x a).fits l a := ⟨Nat.le_refl _, id⟩
theorem PRes.fits.up {p : PRes} {l : List TkZ} {a b : Nat} (h : p.fits l b) (hab : a <= b) (hb : a <= l.length -> b <= l.length) : p.fits l a := ⟨Nat.le_trans hab h.1, fun ha => h.2 (hb ha)⟩
theorem PRes.fits.one {p : PRes} {l : List TkZ} {a : Nat} {s : ByteArray} (h : p.fits l (a + 1)) (hs : Ba l a s = true) : p.fits l a := h.up (Nat.le_succ _) fun _ => Bs hs
theorem B1 {p : PRes} {f : Ex -> Nat -> PRes} {l : List TkZ} {a : Nat} (h : p.fits l a) (hf : ∀ x b, (f x b).fits l b) : (p.go f).fits l a := by
  unfold PRes.go
  split
  . exact PRes.fits.up Dh h.1 h.2
  . exact (hf p.x p.at').up h.1 h.2
theorem D6 {f : Nat -> PRes} {l : List TkZ} {a : Nat} {s : ByteArray} (hf : ∀ b, (f b).fits l b) : (Ct l a s f).fits l a := by
  unfold Ct
  split
  . rename_i h; exact (hf _).one h
  . exact Dh
theorem Km {l : List TkZ} {a : Nat} {t : TkZ} (h : l[a]? = some t) : (Gf t a).fits l a := by
  have := (List.getElem?_eq_some_iff.1 h).1
  unfold Gf
  split
  . exact Bc.up (Nat.le_succ _) fun _ => this
  . split
    . exact Bc.up (Nat.le_succ _) fun _ => this
    . exact Dh
theorem Dz (l : List TkZ) (n m a : Nat) (h0 : m ≠ 0) (h3 : m ≠ 3) (h7 : m ≠ 7) : pE l (n + 1) m a = (pE l n (Ao m) a).go fun x b => pR l n m x b := by
  rw [pE] <;> simp_all
theorem Hw (l : List TkZ) : ∀ n, (∀ m a, (pE l n m a).fits l a) /\ ∀ m x a, (pR l n m x a).fits l a
  | 0 => ⟨fun m a => by rw [pE]; exact Dh, fun m x a => by rw [pR]; exact Dh⟩
  | n + 1 => by
    obtain ⟨h1, h2⟩ := Hw l n
    refine ⟨fun m a => ?_, fun m x a => ?_⟩
    . by_cases e0 : m = 0
      . subst e0
        rw [pE]
        split
        . rename_i h
          exact (B1 (h1 _ _) fun x b => D6 fun b => B1 (h1 _ _) fun y c => D6 fun c => B1 (h1 _ _) fun z d => Bc).one h
        . exact h1 _ _
      by_cases e3 : m = 3
      . subst e3
        rw [pE]
        split
        . rename_i h
          exact (B1 (h1 _ _) fun x b => Bc).one h
        . refine B1 (h1 _ _) fun x b => ?_
          split
          . rename_i op ho
            exact (B1 (h1 _ _) fun y c => Bc).up (Nat.le_succ _) fun _ => B0 ho
          . exact Bc
      by_cases e7 : m = 7
      . subst e7
        rw [pE]
        split
        . rename_i h
          exact (B1 (h1 _ _) fun x b => Bc).one h
        split
        . rename_i h; exact PRes.fits.one Bc h
        split
        . rename_i h; exact PRes.fits.one Bc h
        split
        . rename_i h
          exact (B1 (h1 _ _) fun x b => D6 fun c => Bc).one h
        unfold Jm
        split
        . exact Dh
        . rename_i t ht; exact Km ht
      rw [Dz l n m a e0 e3 e7]
      exact B1 (h1 _ _) fun x b => h2 _ _ _
    . rw [pR]
      split
      . exact Bc
      . rename_i op ho
        exact (B1 (h1 _ _) fun y c => h2 _ _ _).up (Nat.le_succ _) fun _ => B0 ho
theorem Gc (l : List TkZ) (n m a : Nat) : a <= (pE l n m a).at' := ((Hw l n).1 m a).1
theorem Dg (l : List TkZ) (n m a : Nat) (h : a <= l.length) : (pE l n m a).at' <= l.length := ((Hw l n).1 m a).2 h
end Go.Proofs.YtiledamgmppcmaaGreatDoor
namespace Go.Proofs.YtiledamgmppcmaaGreatDoor
open Go.RowKit
theorem D0 (op : Int) (l : List Ex) : An 114 [Ai op, .d (.sl 4 (Eb l))] ⟨[], []⟩ (.ret (exP (.mk op 0 ⟨#[]⟩ l))) ⟨[], []⟩ := by
  refine Af Tryz.func114 rfl rfl (Nat.le_of_ble_eq_true rfl) rfl (Nat.le_refl _) ?_
  repeat' (first | refine rl0 ?_ | refine rs0 (fun h => ?_) (fun h => ?_) | fail)
  rfl
end Go.Proofs.YtiledamgmppcmaaGreatDoor
namespace Go.Proofs.YtiledamgmppcmaaGreatDoor
open Go.RowKit
@[reducible] def pxS (l : List TkZ) (a : Nat) : PS := ⟨[[.d (.sl 3 (l.map tkR)), Ai a]], []⟩
theorem G9 {l : List TkZ} {a : Nat} {s : ByteArray} {t : TkZ} (h : l[a]? = some t) : Ba l a s = (decide (t.2.1 = s) && (decide (t.1 = 2) || decide (t.1 = 4))) := by
  unfold Ba; rw [h]
theorem B4 {l : List TkZ} {a : Nat} {t : TkZ} (h : l[a]? = some t) : (l.map tkR)[((a : Nat) : Int).toNat]? = some (tkR t) := by
  rw [Int.toNat_natCast, List.getElem?_map, h]; rfl
theorem Aj {l : List TkZ} {s : ByteArray} {a : Nat} (hl : l.length <= 9223372036854775806) (h : Ba l a s = false) : An 111 [.ptr 0 0, By s] (pxS l a) (.ret (A7 false)) (pxS l a) := by
  have hn := h
  refine Af Tryz.func111 rfl rfl (Nat.le_of_ble_eq_true rfl) rfl (Nat.le_refl _) ?_
  repeat' (first | refine rl0 ?_ | refine rs0 (fun h => ?_) (fun h => ?_) | fail)
  . rfl
  . have hlt : a < l.length := by simp at h; omega
    obtain ⟨t, ht⟩ : ∃ t, l[a]? = some t := ⟨_, List.getElem?_eq_getElem hlt⟩
    rw [G9 ht] at hn
    refine Ib _ rfl rfl rfl rfl rfl (B4 ht) (by omega) ?_
    repeat' (first | refine rl0 ?_ | refine rs0 (fun h => ?_) (fun h => ?_) | fail)
    . rfl
    refine Ib _ rfl rfl rfl rfl rfl (B4 ht) (by omega) ?_
    repeat' (first | refine rl0 ?_ | refine rs0 (fun h => ?_) (fun h => ?_) | fail)
    . refine Ib _ rfl rfl rfl rfl rfl (B4 ht) (by omega) ?_
      repeat' (first | refine rl0 ?_ | refine rs0 (fun h => ?_) (fun h => ?_) | fail)
      . rfl
      . exfalso; simp_all
    . exfalso; simp_all
theorem As {l : List TkZ} {s : ByteArray} {a : Nat} (hl : l.length <= 9223372036854775806) (h : Ba l a s = true) : An 111 [.ptr 0 0, By s] (pxS l a) (.ret (A7 true)) (pxS l (a + 1)) := by
  have hn := h
  have hlt := Bs h
  obtain ⟨t, ht⟩ : ∃ t, l[a]? = some t := ⟨_, List.getElem?_eq_getElem hlt⟩
  rw [G9 ht] at hn
  refine Af Tryz.func111 rfl rfl (Nat.le_of_ble_eq_true rfl) rfl (Nat.le_refl _) ?_
  repeat' (first | refine rl0 ?_ | refine rs0 (fun h => ?_) (fun h => ?_) | fail)
  . exfalso; simp at h; omega
  refine Ib _ rfl rfl rfl rfl rfl (B4 ht) (by omega) ?_
  repeat' (first | refine rl0 ?_ | refine rs0 (fun h => ?_) (fun h => ?_) | fail)
  . exfalso; simp_all
  refine Ib _ rfl rfl rfl rfl rfl (B4 ht) (by omega) ?_
  repeat' (first | refine rl0 ?_ | refine rs0 (fun h => ?_) (fun h => ?_) | fail)
  . refine Ib _ rfl rfl rfl rfl rfl (B4 ht) (by omega) ?_
    repeat' (first | refine rl0 ?_ | refine rs0 (fun h => ?_) (fun h => ?_) | fail)
    . exfalso; simp_all
    . rfl
  . rfl
theorem C1 {l : List TkZ} {s : ByteArray} {a : Nat} (hl : l.length <= 9223372036854775806) (h : Ba l a s = true) : An 113 [.ptr 0 0, By s] (pxS l a) (.ret (.tup [])) (pxS l (a + 1)) := by
  refine Af Tryz.func113 rfl rfl (Nat.le_of_ble_eq_true rfl) rfl (Nat.le_refl _) ?_
  repeat' (first | refine rl0 ?_ | refine rs0 (fun h => ?_) (fun h => ?_) | fail)
  refine wcb (id := 0) (As hl h) rfl rfl rfl rfl rfl rfl rfl rfl (by repeat (first | exact Ad | refine Aa (Ab _) ?_)) rfl ?_
  repeat' (first | refine rl0 ?_ | refine rs0 (fun h => ?_) (fun h => ?_) | fail)
  rfl
theorem Fg {l : List TkZ} {s : ByteArray} {a : Nat} (hl : l.length <= 9223372036854775806) (h : Ba l a s = false) : An 113 [.ptr 0 0, By s] (pxS l a) (.panic Fv) (pxS l a) := by
  refine ⟨enters_of Tryz.func113 rfl rfl, Sv Tryz.func113 rfl (Nat.le_of_ble_eq_true rfl) ?_⟩
  repeat' (first | refine rl0 ?_ | refine rs0 (fun h => ?_) (fun h => ?_) | fail)
  refine wcb (id := 0) (Aj hl h) rfl rfl rfl rfl rfl rfl rfl rfl (by repeat (first | exact Ad | refine Aa (Ab _) ?_)) rfl ?_
  repeat' (first | refine rl0 ?_ | refine rs0 (fun h => ?_) (fun h => ?_) | fail)
  refine Gu rfl (G0 rfl rfl) ?_
  exact ⟨rfl, rfl⟩
def opN (i : Nat) : Int × Int × Int × Int × ByteArray := Ok.getD i (0, 0, 0, 0, ⟨#[]⟩)
theorem Ig {i : Nat} (h : i < 20) : (Adr.drop (((i : Nat) : Int).toNat * 5)).take 5 = opP (opN i) /\ ((i : Nat) : Int).toNat * 5 + 5 <= Adr.length := by
  cases i with
  | zero => exact ⟨rfl, Nat.le_of_ble_eq_true rfl⟩
  | succ i => exact S8 (op := ((i + 1 : Nat) : Int)) (by omega) (by omega)
def Hb (l : List TkZ) (a m i : Nat) : Bool := decide ((opN i).2.2.2.1 = m) && (decide ((opN i).1 = 2) && Ba l a (opN i).2.2.2.2)
def lvM (m : Nat) : Prop := m = 1 \/ m = 2 \/ m = 4 \/ m = 5 \/ m = 6
theorem E8 (l : List TkZ) (a : Nat) {m : Nat} (hm : lvM m) : Bd l a m = ((List.range 20).find? (Hb l a m)).map Int.ofNat := by
  have e : List.range 20 = [0, 1, 2, 3, 4, 5, 6, 7, 8, 9, 10, 11, 12, 13, 14, 15, 16, 17, 18, 19] := by decide
  rw [e]
  rcases hm with rfl | rfl | rfl | rfl | rfl <;> simp [Bd, Jk, List.find?, Hb, opN, Ok]
  . cases Ba l a ⟨#[111, 114]⟩ <;> rfl
  . cases Ba l a ⟨#[97, 110, 100]⟩ <;> rfl
  . cases Ba l a ⟨#[61]⟩ <;> cases Ba l a ⟨#[33, 61]⟩ <;> cases Ba l a ⟨#[60]⟩ <;> cases Ba l a ⟨#[60, 61]⟩ <;> cases Ba l a ⟨#[62]⟩ <;> cases Ba l a ⟨#[62, 61]⟩ <;> rfl
  . cases Ba l a ⟨#[43]⟩ <;> cases Ba l a ⟨#[45]⟩ <;> rfl
  . cases Ba l a ⟨#[42]⟩ <;> cases Ba l a ⟨#[47]⟩ <;> rfl
end Go.Proofs.YtiledamgmppcmaaGreatDoor
namespace Go.Proofs.YtiledamgmppcmaaGreatDoor
open Go.RowKit
def Fd : List Nat -> Nat -> List Oper -> Bool
  | _, _, [] => true
  | D, k, o :: r => D.any (aft o) && Fd (k :: D) (k + 1) r
section
variable {P : Program} {N : Nat} {ops : Array Oper} {rest : List Oper} {o : Oper} {F : Nat -> PV} {S Sx : PS} {q : WRes -> Prop} {ch : Nat -> Bool} {U Ut : List Nat} {k : Nat} {D : List Nat} {c : Value}
theorem Gn : ∀ (rest : List Oper) (k : Nat) (F : Nat -> PV) (D : List Nat), Fd D k rest = true -> WalkA P N ops ch U Ut k rest F S true D (.panic c Sx)
  | [], _, _, _, _ => .nilX
  | o :: r, k, F, D, h => by
    simp only [Fd, Bool.and_eq_true] at h
    exact .dead h.1 (Gn r (k + 1) _ _ h.2)
theorem Qv (ho : OpX P o F S c Sx) (h : q (.panic c Sx)) (hg : Am ops F o = some true := by exact rfl) (hc : ch k = true := by exact rfl) (hd : Fd (k :: D) (k + 1) rest = true := by kernel_rfl) : WA P N ops ch U Ut k (o :: rest) F S false D q :=
  ⟨⟨_, .boom hg hc ho (Gn rest (k + 1) _ _ hd), h⟩⟩
theorem Hv {U : List Nat} {id : Nat} (h : U.any (Nat.beq id) = true) : id ∈ U := by
  obtain ⟨x, hx, h2⟩ := List.any_eq_true.1 h
  rw [Nat.eq_of_beq_eq_true h2]; exact hx
theorem Ah {S S' : PS} {a : Nat} {U Ut : List Nat} (h : S'.boxes[a]? = S.boxes[a]?) (t : Agree U Ut S S') : Agree (a :: U) Ut S S' :=
  ⟨fun id hid => (List.mem_cons.1 hid).elim (fun e => e ▸ h) (t.boxes id), t.toks⟩
theorem Kl {f : Nat} {fn : Func} {c : Code} {args : List PV} {S S' : PS} {x : Value} (hf : P.funcs[f]? = some fn) (hb : fn.body = some c) (hn : args.length <= fn.ntmps)
    (h : PW P fn.ntmps c (fun e _ S1 => e = .panic [{ v := x, recovered := false }] /\ S1.cut S.boxes.length S.toks.length = S' /\ (S1.boxes.take S.boxes.length).all (fun c => PV.ltL S.boxes.length S.toks.length c) = true) (Lr args) S) : EvC P f args S (.panic x) S' := by
  intro K w vs hI hA
  have hl := hA.length
  refine calls_of_wp hf hb (wp_mono (h.run0 K w { tmps := vs.toArray ++ Array.replicate (fn.ntmps - vs.toArray.size) undef, defers := [] } hI ⟨by simp; omega, fun t => ?_⟩) ?_)
  . have := G3 args vs (fn.ntmps - vs.toArray.size) t hA
    rw [Array.getD_eq_getD_getElem?]
    rw [List.getD_eq_getElem?_getD] at this
    rw [<- Array.getElem?_toList]
    simpa using this
  . intro e a' w' hq
    obtain ⟨K', F', S1, h1, h2, h3, h4, rfl, rfl, hall⟩ := hq
    exact ⟨h4, _, Gb hI h1 (Nat.le_refl _) (Nat.le_refl _), h2.cut hall, rfl⟩
end
theorem A1 {f : Nat} {fn : Func} {c : Code} {args : List PV} {S S' : PS} {x : Value} (hf : Tryz.prog.funcs[f]? = some fn) (hname : (fn.name == "runtime.NumGoroutine") = false) (hb : fn.body = some c) (hn : args.length <= fn.ntmps)
    (h : PW Tryz.prog fn.ntmps c (fun e _ S1 => e = .panic [{ v := x, recovered := false }] /\ S1.cut S.boxes.length S.toks.length = S' /\ (S1.boxes.take S.boxes.length).all (fun c => PV.ltL S.boxes.length S.toks.length c) = true) (Lr args) S) : An f args S (.panic x) S' :=
  ⟨enters_of hf hname hb, Kl hf hb hn h⟩
section
variable {N : Nat} {ops : Array Oper} {rest : List Oper} {o : Oper} {F : Nat -> PV} {S S' S'' : PS} {q : WRes -> Prop} {C : Prop} {r r' : PV} {ch : Nat -> Bool} {U Ut : List Nat} {k : Nat} {bm : Bool} {D : List Nat}
theorem ql2 {t : TypeId} {x : Operand} {id off : Nat} {c : List PV} (kk : WA Tryz.prog N ops ch U Ut (k + 1) rest (Ch N o.dst r' F) S bm D q) (hg : Am ops F o = some true := by exact rfl) (hc : ch k = false := by exact rfl) (ho : o.op = .load t x := by exact rfl) (hk : (Bq t && (tyi t).isRow) = true := by exact rfl) (hx : evP F x = .ptr id off := by exact rfl) (hU : U.any (Nat.beq id) = true := by exact rfl) (hb : S.boxes[id]? = some c := by exact rfl) (hle : Nat.ble (off + (tyi t).size) c.length = true := by exact rfl) (hr : PV.agg ((c.drop off).take (tyi t).size) = r' := by first | (apply Ck rfl; repeat (first | exact Bp rfl | apply Gx rfl | apply Gy rfl | apply Gz rfl)) | exact Lk rfl | (dsimp only [List.length_cons, List.length_nil, List.length_append, Nat.reduceAdd]; rfl) | rfl) : WA Tryz.prog N ops ch U Ut k (o :: rest) F S bm D q := by
  subst hr
  simp only [Bool.and_eq_true] at hk
  exact Sm hg hc (fun S' ha => Iu ho (Gl t hk.1) hk.2 hx (by rw [ha.boxes id (Hv hU)]; exact hb) hle) kk
theorem Ajg (kk : WA Tryz.prog N ops ch U Ut (k + 1) rest (Ch N o.dst r' F) S'' false D q) (hg : Am ops F o = some true := by exact rfl) (hc : ch k = true := by exact rfl) (h : Hz tyi Bq F S o.op = some (C, r, S') := by exact rfl) (hr : r = r' := by first | (apply Ck rfl; repeat (first | exact Bp rfl | apply Gx rfl | apply Gy rfl | apply Gz rfl)) | exact Lk rfl | (dsimp only [List.length_cons, List.length_nil, List.length_append, Nat.reduceAdd]; rfl) | rfl) (hS : S' = S'' := by (apply Ob rfl; repeat (first | exact Bp rfl | apply Gx rfl | apply Gy rfl | apply Gz rfl | exact Je rfl | apply Gg rfl | exact Jf rfl | apply Gh rfl | exact Np))) (hC : C := by first | exact True.intro | (simp only [IntKind.lo, IntKind.hi]; omega) | omega | decide) (ha : Agree U Ut S S'' := by repeat (first | exact Ar | refine Ah rfl ?_)) : WA Tryz.prog N ops ch U Ut k (o :: rest) F S false D q := wac hg hc h hr hS hC ha kk
end
section
variable {N : Nat} {ops : Array Oper} {rest : List Oper} {o : Oper} {F : Nat -> PV} {S S' : PS} {q : WRes -> Prop} {r : PV} {ch : Nat -> Bool} {U Ut : List Nat} {k : Nat} {D : List Nat} {c : Operand} {al : Array Operand} {ats : Array TypeId} {f : Nat} {caps args : List PV} {c0 c1 : List PV} {x : Value}
theorem wb1 (id : Nat) (hD : An f args ⟨[c0], []⟩ (.ret r) ⟨[c1], []⟩) (kk : WK Tryz.prog N ops rest (Ch N o.dst r F) S' q) (hg : Am ops F o = some true := by exact rfl) (ho : o.op = .call { callee := .value c, args := al, argTypes := ats } := by exact rfl) (hc : evP F c = .fn f caps := by exact rfl) (hbox : S.boxes[id]? = some c0 := by exact rfl) (hl0 : PV.ltL 0 0 c0 = true := by exact rfl) (hl1 : PV.ltL 0 0 c1 = true := by exact rfl) (hlr : r.lt 0 0 = true := by exact rfl)
    (hlt : PV.ltL 1 0 args = true := by exact rfl) (ha : F6 S (al.toList.map (evP F) ++ caps) (PV.renL (fbN [id]) (ftN [] S.toks.length) args) := by repeat (first | exact Ad | refine Aa (Ab _) ?_)) (hS : S.setBox id c1 = S' := by exact rfl) : WK Tryz.prog N ops (o :: rest) F S q := wcb hD hg ho hc hbox hl0 hl1 hlr hlt ha hS kk
theorem Jy (id : Nat) (hD : An f args ⟨[c0], []⟩ (.panic x) ⟨[c1], []⟩) (kk : q (.panic x S')) (hg : Am ops F o = some true := by exact rfl) (ho : o.op = .call { callee := .value c, args := al, argTypes := ats } := by exact rfl) (hc : evP F c = .fn f caps := by exact rfl) (hbox : S.boxes[id]? = some c0 := by exact rfl) (hl0 : PV.ltL 0 0 c0 = true := by exact rfl) (hl1 : PV.ltL 0 0 c1 = true := by exact rfl)
    (hlt : PV.ltL 1 0 args = true := by exact rfl) (ha : F6 S (al.toList.map (evP F) ++ caps) (PV.renL (fbN [id]) (ftN [] S.toks.length) args) := by repeat (first | exact Ad | refine Aa (Ab _) ?_)) (hS : S.setBox id c1 = S' := by exact rfl) : WK Tryz.prog N ops (o :: rest) F S q := wcbx hD hg ho hc hbox hl0 hl1 hlt ha hS kk
theorem wb1a (id : Nat) (hD : An f args ⟨[c0], []⟩ (.ret r) ⟨[c1], []⟩) (kk : WA Tryz.prog N ops ch U Ut (k + 1) rest (Ch N o.dst r F) S' false D q) (hg : Am ops F o = some true := by exact rfl) (hcc : ch k = true := by exact rfl) (ho : o.op = .call { callee := .value c, args := al, argTypes := ats } := by exact rfl) (hc : evP F c = .fn f caps := by exact rfl) (hbox : S.boxes[id]? = some c0 := by exact rfl) (hl0 : PV.ltL 0 0 c0 = true := by exact rfl) (hl1 : PV.ltL 0 0 c1 = true := by exact rfl) (hlr : r.lt 0 0 = true := by exact rfl)
    (hlt : PV.ltL 1 0 args = true := by exact rfl) (ha : F6 S (al.toList.map (evP F) ++ caps) (PV.renL (fbN [id]) (ftN [] S.toks.length) args) := by repeat (first | exact Ad | refine Aa (Ab _) ?_)) (hS : S.setBox id c1 = S' := by exact rfl) (hA : Agree U Ut S S' := by repeat (first | exact Ar | refine Ah rfl ?_)) : WA Tryz.prog N ops ch U Ut k (o :: rest) F S false D q := wcba hD hg hcc ho hc hbox hl0 hl1 hlr hlt ha hS hA kk
theorem Ado (id : Nat) (hD : An f args ⟨[c0], []⟩ (.panic x) ⟨[c1], []⟩) (kk : q (.panic x S')) (hg : Am ops F o = some true := by exact rfl) (hcc : ch k = true := by exact rfl) (ho : o.op = .call { callee := .value c, args := al, argTypes := ats } := by exact rfl) (hc : evP F c = .fn f caps := by exact rfl) (hbox : S.boxes[id]? = some c0 := by exact rfl) (hl0 : PV.ltL 0 0 c0 = true := by exact rfl) (hl1 : PV.ltL 0 0 c1 = true := by exact rfl)
    (hlt : PV.ltL 1 0 args = true := by exact rfl) (ha : F6 S (al.toList.map (evP F) ++ caps) (PV.renL (fbN [id]) (ftN [] S.toks.length) args) := by repeat (first | exact Ad | refine Aa (Ab _) ?_)) (hS : S.setBox id c1 = S' := by exact rfl) (hd : Fd (k :: D) (k + 1) rest = true := by kernel_rfl) : WA Tryz.prog N ops ch U Ut k (o :: rest) F S false D q := by
  subst hS; exact Qv (K5 hD ho hc hbox hl0 hl1 hlt ha) kk hg hcc hd
theorem wp1 (hD : An f args ⟨[], []⟩ (.ret r) ⟨[], []⟩) (kk : WK Tryz.prog N ops rest (Ch N o.dst r F) S q) (hg : Am ops F o = some true := by exact rfl) (ho : o.op = .call { callee := .value c, args := al, argTypes := ats } := by exact rfl) (hc : evP F c = .fn f caps := by exact rfl)
    (hlt : PV.ltL 0 0 args = true := by exact rfl) (hlr : r.lt 0 0 = true := by exact rfl) (ha : F6 S (al.toList.map (evP F) ++ caps) args := by repeat (first | exact Ad | refine Aa (Ab _) ?_)) : WK Tryz.prog N ops (o :: rest) F S q := D3 hD hg ho hc hlt hlr ha kk
theorem wp1a (hD : An f args ⟨[], []⟩ (.ret r) ⟨[], []⟩) {bm : Bool} (kk : WA Tryz.prog N ops ch U Ut (k + 1) rest (Ch N o.dst r F) S bm D q) (hg : Am ops F o = some true := by exact rfl) (hp : (!ch k && Ta ops ch k) = true := by first | exact rfl | kernel_rfl) (ho : o.op = .call { callee := .value c, args := al, argTypes := ats } := by exact rfl) (hc : evP F c = .fn f caps := by exact rfl)
    (hlt : PV.ltL 0 0 args = true := by exact rfl) (hlr : r.lt 0 0 = true := by exact rfl) (ha : F6 S (al.toList.map (evP F) ++ caps) args := by repeat (first | exact Ad | refine Aa (Ab _) ?_)) : WA Tryz.prog N ops ch U Ut k (o :: rest) F S bm D q := wcpp hD hg hp ho hc hlt hlr ha kk
end
theorem rl6 {G X : Prop} (h : X) (t : Hx X -> G := by (intro h; (first | refine Gw ?_ | refine q6 ?_ | refine q10 ?_ | refine q11k ?_ | refine ql1 ?_ | refine ql2 ?_ | refine q12 ?_ | refine q13k ?_ | refine Ajg ?_ | fail); (repeat' (first | refine Gw ?_ | refine q6 ?_ | refine q10 ?_ | refine q11k ?_ | refine ql1 ?_ | refine ql2 ?_ | refine q12 ?_ | refine q13k ?_ | refine Ajg ?_ | fail)); exact h.out)) : G := t ⟨h⟩
end Go.Proofs.YtiledamgmppcmaaGreatDoor
namespace Go.Proofs.YtiledamgmppcmaaGreatDoor
open Go.RowKit
def AgK (ops : Array Oper) (k : Nat) (us : List (Nat × List Nat)) (S S' : PS) : Prop := ∀ e ∈ us, Ji ops k e.1 = true -> Agree e.2 [] S S'
theorem Fk {ops : Array Oper} {k : Nat} {S S' : PS} : AgK ops k [] S S' := fun _ h => by cases h
theorem Fc {ops : Array Oper} {k j : Nat} {ids : List Nat} {us : List (Nat × List Nat)} {S S' : PS} (h : Ji ops k j = false) (t : AgK ops k us S S') : AgK ops k ((j, ids) :: us) S S' := fun e he hu => by
  rcases List.mem_cons.1 he with rfl | he
  . rw [h] at hu; cases hu
  . exact t e he hu
theorem A3 {ops : Array Oper} {k j : Nat} {ids : List Nat} {us : List (Nat × List Nat)} {S S' : PS} (h : Agree ids [] S S') (t : AgK ops k us S S') : AgK ops k ((j, ids) :: us) S S' := fun e he hu => by
  rcases List.mem_cons.1 he with rfl | he
  . exact h
  . exact t e he hu
theorem Uj {ops : Array Oper} {k : Nat} {us : List (Nat × List Nat)} {S S' : PS} (h : AgK ops k us S S') (j : Nat) (hj : Ji ops k j = true) : Agree (Az us j) [] S S' := by
  refine ⟨fun id hid => ?_, by simp⟩
  obtain ⟨e, he, h1, h2⟩ := Pw hid
  exact (h e he (by rw [h1]; exact hj)).boxes id h2
section
variable {N : Nat} {ops : Array Oper} {rest : List Oper} {o : Oper} {F : Nat -> PV} {S S' S'' : PS} {q : WRes -> Prop} {C : Prop} {r r' : PV} {Q : Exit -> (Nat -> PV) -> PS -> Prop} {ch : Nat -> Bool} {us : List (Nat × List Nat)} {k : Nat} {bm : Bool} {D : List Nat}
theorem b0 {id : Nat} {l : List Oper} (ch : Nat -> Bool) (us : List (Nat × List Nat)) (h : Bw.WB Tryz.prog N l.toArray ch (Az us) (fun _ => []) 0 l F S false [] (Alf Q)) (hm : Tryz.prog.follows .mixedOrders = true := by exact rfl) (hB : W8 l.toArray ch = true := by kernel_rfl) : PW Tryz.prog N (.region id l.toArray true) Q F S := Bw.pw_regionB ch (Az us) (fun _ => []) hm hB h
theorem b1 (h : q (.done F S)) : Bw.WB Tryz.prog N ops ch (Az us) (fun _ => []) k [] F S false D q := ⟨⟨_, .nil, h⟩⟩
theorem Ke (ho : ∀ S', Agree (Az us k) [] S S' -> OpS Tryz.prog o F S' r S') (kk : Bw.WB Tryz.prog N ops ch (Az us) (fun _ => []) (k + 1) rest (Ch N o.dst r F) S bm D q) (hg : Am ops F o = some true := by exact rfl) (hc : ch k = false := by first | exact rfl | kernel_rfl) : Bw.WB Tryz.prog N ops ch (Az us) (fun _ => []) k (o :: rest) F S bm D q := let ⟨x, h1, h2⟩ := kk.ex; ⟨⟨x, .free hg hc ho h1, h2⟩⟩
theorem bpin (ho : OpS Tryz.prog o F S r S) (kk : Bw.WB Tryz.prog N ops ch (Az us) (fun _ => []) (k + 1) rest (Ch N o.dst r F) S bm D q) (hg : Am ops F o = some true := by exact rfl) (hp : (!ch k && Ta ops ch k) = true := by first | exact rfl | kernel_rfl) : Bw.WB Tryz.prog N ops ch (Az us) (fun _ => []) k (o :: rest) F S bm D q := by
  simp only [Bool.and_eq_true, Bool.not_eq_true'] at hp
  exact let ⟨x, h1, h2⟩ := kk.ex; ⟨⟨x, .pin hg hp.1 hp.2 ho h1, h2⟩⟩
theorem Lm (ho : OpS Tryz.prog o F S r S') (kk : Bw.WB Tryz.prog N ops ch (Az us) (fun _ => []) (k + 1) rest (Ch N o.dst r F) S' false D q) (hg : Am ops F o = some true := by exact rfl) (hc : ch k = true := by first | exact rfl | kernel_rfl) (ha : AgK ops k us S S' := by repeat (first | exact Fk | refine A3 (Ah rfl Ar) ?_ | refine A3 (Ah rfl (Ah rfl Ar)) ?_ | refine A3 (Ah rfl (Ah rfl (Ah rfl Ar))) ?_ | refine A3 (Ah rfl (Ah rfl (Ah rfl (Ah rfl Ar)))) ?_ | refine Fc (by kernel_rfl) ?_)) : Bw.WB Tryz.prog N ops ch (Az us) (fun _ => []) k (o :: rest) F S false D q := let ⟨x, h1, h2⟩ := kk.ex; ⟨⟨x, .chain hg hc ho (fun j hj => Uj ha j hj) h1, h2⟩⟩
theorem Uo {c : Value} {Sx : PS} : ∀ (rest : List Oper) (k : Nat) (F : Nat -> PV) (D : List Nat), Fd D k rest = true -> Bw.WalkA Tryz.prog N ops ch (Az us) (fun _ => []) k rest F S true D (.panic c Sx)
  | [], _, _, _, _ => .nilX
  | o :: r, k, F, D, h => by
    simp only [Fd, Bool.and_eq_true] at h
    exact .dead h.1 (Uo r (k + 1) _ _ h.2)
theorem Abm {c : Value} {Sx : PS} (ho : OpX Tryz.prog o F S c Sx) (h : q (.panic c Sx)) (hg : Am ops F o = some true := by exact rfl) (hc : ch k = true := by first | exact rfl | kernel_rfl) (hd : Fd (k :: D) (k + 1) rest = true := by kernel_rfl) : Bw.WB Tryz.prog N ops ch (Az us) (fun _ => []) k (o :: rest) F S false D q := ⟨⟨_, .boom hg hc ho (Uo rest (k + 1) _ _ hd), h⟩⟩
theorem b3 (kk : Bw.WB Tryz.prog N ops ch (Az us) (fun _ => []) (k + 1) rest (Ch N o.dst r F) S bm D q) (hg : Am ops F o = some true := by exact rfl) (hc : ch k = false := by first | exact rfl | kernel_rfl) (h : ∀ S', Agree (Az us k) [] S S' -> Le tyi Bq F S' o.op = some (C, r, S') := by exact fun _ _ => rfl) (hC : C := by first | exact True.intro | (simp only [IntKind.lo, IntKind.hi]; omega) | omega | decide) : Bw.WB Tryz.prog N ops ch (Az us) (fun _ => []) k (o :: rest) F S bm D q := Ke (fun S' ha => Jw Gl (h S' ha) hC) kk hg hc
theorem b5 {t : TypeId} {x : Operand} {id off : Nat} {c : List PV} {p : PV} (kk : Bw.WB Tryz.prog N ops ch (Az us) (fun _ => []) (k + 1) rest (Ch N o.dst p F) S bm D q) (hg : Am ops F o = some true := by exact rfl) (hc : ch k = false := by first | exact rfl | kernel_rfl) (ho : o.op = .load t x := by exact rfl) (hk : (Bq t && !(tyi t).isRow) = true := by exact rfl) (hx : evP F x = .ptr id off := by exact rfl) (hU : (Az us k).any (Nat.beq id) = true := by first | exact rfl | kernel_rfl) (hb : S.boxes[id]? = some c := by exact rfl) (hpp : c[off]? = some p := by exact rfl) : Bw.WB Tryz.prog N ops ch (Az us) (fun _ => []) k (o :: rest) F S bm D q := by
  simp only [Bool.and_eq_true, Bool.not_eq_true'] at hk
  exact Ke (fun S' ha => Qj ho (Gl t hk.1) hk.2 hx (by rw [ha.boxes id (Hv hU)]; exact hb) hpp) kk hg hc
theorem b6 {t : TypeId} {x : Operand} {id off : Nat} {c : List PV} (kk : Bw.WB Tryz.prog N ops ch (Az us) (fun _ => []) (k + 1) rest (Ch N o.dst r' F) S bm D q) (hg : Am ops F o = some true := by exact rfl) (hc : ch k = false := by first | exact rfl | kernel_rfl) (ho : o.op = .load t x := by exact rfl) (hk : (Bq t && (tyi t).isRow) = true := by exact rfl) (hx : evP F x = .ptr id off := by exact rfl) (hU : (Az us k).any (Nat.beq id) = true := by first | exact rfl | kernel_rfl) (hb : S.boxes[id]? = some c := by exact rfl) (hle : Nat.ble (off + (tyi t).size) c.length = true := by exact rfl) (hr : PV.agg ((c.drop off).take (tyi t).size) = r' := by first | (apply Ck rfl; repeat (first | exact Bp rfl | apply Gx rfl | apply Gy rfl | apply Gz rfl)) | exact Lk rfl | (dsimp only [List.length_cons, List.length_nil, List.length_append, Nat.reduceAdd]; rfl) | rfl) : Bw.WB Tryz.prog N ops ch (Az us) (fun _ => []) k (o :: rest) F S bm D q := by
  subst hr
  simp only [Bool.and_eq_true] at hk
  exact Ke (fun S' ha => Iu ho (Gl t hk.1) hk.2 hx (by rw [ha.boxes id (Hv hU)]; exact hb) hle) kk hg hc
theorem b7 (kk : Bw.WB Tryz.prog N ops ch (Az us) (fun _ => []) (k + 1) rest (Ch N o.dst r' F) S bm D q) (hg : Am ops F o = some true := by exact rfl) (hc : ch k = false := by first | exact rfl | kernel_rfl) (h : ∀ S', Agree (Az us k) [] S S' -> Hz tyi Bq F S' o.op = some (C, r, S') := by exact fun _ _ => rfl) (hr : r = r' := by first | (apply Ck rfl; repeat (first | exact Bp rfl | apply Gx rfl | apply Gy rfl | apply Gz rfl)) | exact Lk rfl | (dsimp only [List.length_cons, List.length_nil, List.length_append, Nat.reduceAdd]; rfl) | rfl) (hC : C := by first | exact True.intro | (simp only [IntKind.lo, IntKind.hi]; omega) | omega | decide) : Bw.WB Tryz.prog N ops ch (Az us) (fun _ => []) k (o :: rest) F S bm D q := by
  subst hr; exact Ke (fun S' ha => Ga Gl (h S' ha) hC) kk hg hc
theorem b9 (kk : Bw.WB Tryz.prog N ops ch (Az us) (fun _ => []) (k + 1) rest (Ch N o.dst r' F) S'' false D q) (hg : Am ops F o = some true := by exact rfl) (hc : ch k = true := by first | exact rfl | kernel_rfl) (h : Hz tyi Bq F S o.op = some (C, r, S') := by exact rfl) (hr : r = r' := by first | (apply Ck rfl; repeat (first | exact Bp rfl | apply Gx rfl | apply Gy rfl | apply Gz rfl)) | exact Lk rfl | (dsimp only [List.length_cons, List.length_nil, List.length_append, Nat.reduceAdd]; rfl) | rfl) (hS : S' = S'' := by (apply Ob rfl; repeat (first | exact Bp rfl | apply Gx rfl | apply Gy rfl | apply Gz rfl | exact Je rfl | apply Gg rfl | exact Jf rfl | apply Gh rfl | exact Np))) (hC : C := by first | exact True.intro | (simp only [IntKind.lo, IntKind.hi]; omega) | omega | decide) (ha : AgK ops k us S S'' := by repeat (first | exact Fk | refine A3 (Ah rfl Ar) ?_ | refine A3 (Ah rfl (Ah rfl Ar)) ?_ | refine A3 (Ah rfl (Ah rfl (Ah rfl Ar))) ?_ | refine A3 (Ah rfl (Ah rfl (Ah rfl (Ah rfl Ar)))) ?_ | refine Fc (by kernel_rfl) ?_)) : Bw.WB Tryz.prog N ops ch (Az us) (fun _ => []) k (o :: rest) F S false D q := by
  subst hr; subst hS; exact Lm (Ga Gl h hC) kk hg hc ha
theorem Tk {t : TypeId} {x y : Operand} {l : List (List DV)} {kd : IntKind} {j : Int} (e : List DV) (he : l[j.toNat]? = some e) (h0 : 0 <= j) (kk : Bw.WB Tryz.prog N ops ch (Az us) (fun _ => []) (k + 1) rest (Ch N o.dst (.ep e) F) S bm D q) (hg : Am ops F o = some true := by exact rfl) (hc : ch k = false := by first | exact rfl | kernel_rfl) (ho : o.op = .indexAddr t x y := by exact rfl) (hk : (Bq t && Nat.beq (tyi t).kind 2) = true := by exact rfl) (hx : ∀ S' : PS, S'.toS (tyi t).ek (evP F x) = some l := by exact fun _ => rfl) (hy : evP F y = .d (.v (.int kd j)) := by exact rfl) : Bw.WB Tryz.prog N ops ch (Az us) (fun _ => []) k (o :: rest) F S bm D q := by
  simp only [Bool.and_eq_true] at hk
  exact Ke (fun S' _ => I4 ho (Gl t hk.1) (Nat.eq_of_beq_eq_true hk.2) (hx S') hy h0 he) kk hg hc
variable {c : Operand} {al : Array Operand} {ats : Array TypeId} {f : Nat} {caps args : List PV} {c0 c1 : List PV} {x : Value}
theorem P7 (hD : An f args ⟨[], []⟩ (.ret r) ⟨[], []⟩) (kk : Bw.WB Tryz.prog N ops ch (Az us) (fun _ => []) (k + 1) rest (Ch N o.dst r F) S bm D q) (hg : Am ops F o = some true := by exact rfl) (ho : o.op = .call { callee := .value c, args := al, argTypes := ats } := by exact rfl) (hv : evP F c = .fn f caps := by exact rfl) (hlt : PV.ltL 0 0 args = true := by exact rfl) (hlr : r.lt 0 0 = true := by exact rfl) (ha : F6 S (al.toList.map (evP F) ++ caps) args := by repeat (first | exact Ad | refine Aa (Ab _) ?_)) (hp : (!ch k && Ta ops ch k) = true := by first | exact rfl | kernel_rfl) : Bw.WB Tryz.prog N ops ch (Az us) (fun _ => []) k (o :: rest) F S bm D q := by
  have h := L6 ho hD.1 hv hlt ha hD.2
  rw [Q1 r hlr] at h
  exact bpin h kk hg hp
theorem Z3 (id : Nat) (hD : An f args ⟨[c0], []⟩ (.ret r) ⟨[c1], []⟩) (kk : Bw.WB Tryz.prog N ops ch (Az us) (fun _ => []) (k + 1) rest (Ch N o.dst r F) S' false D q) (hg : Am ops F o = some true := by exact rfl) (ho : o.op = .call { callee := .value c, args := al, argTypes := ats } := by exact rfl) (hv : evP F c = .fn f caps := by exact rfl) (hb : S.boxes[id]? = some c0 := by exact rfl) (hl0 : PV.ltL 0 0 c0 = true := by exact rfl) (hl1 : PV.ltL 0 0 c1 = true := by exact rfl) (hlr : r.lt 0 0 = true := by exact rfl) (hlt : PV.ltL 1 0 args = true := by exact rfl) (ha : F6 S (al.toList.map (evP F) ++ caps) (PV.renL (fbN [id]) (ftN [] S.toks.length) args) := by repeat (first | exact Ad | refine Aa (Ab _) ?_)) (hS : S.setBox id c1 = S' := by exact rfl) (hc : ch k = true := by first | exact rfl | kernel_rfl) (hA : AgK ops k us S S' := by repeat (first | exact Fk | refine A3 (Ah rfl Ar) ?_ | refine A3 (Ah rfl (Ah rfl Ar)) ?_ | refine A3 (Ah rfl (Ah rfl (Ah rfl Ar))) ?_ | refine A3 (Ah rfl (Ah rfl (Ah rfl (Ah rfl Ar)))) ?_ | refine Fc (by kernel_rfl) ?_)) : Bw.WB Tryz.prog N ops ch (Az us) (fun _ => []) k (o :: rest) F S false D q := by
  subst hS; exact Lm (K3 hD ho hv hb hl0 hl1 hlr hlt ha) kk hg hc hA
theorem Un (id : Nat) (hD : An f args ⟨[c0], []⟩ (.panic x) ⟨[c1], []⟩) (kk : q (.panic x S')) (hg : Am ops F o = some true := by exact rfl) (ho : o.op = .call { callee := .value c, args := al, argTypes := ats } := by exact rfl) (hv : evP F c = .fn f caps := by exact rfl) (hb : S.boxes[id]? = some c0 := by exact rfl) (hl0 : PV.ltL 0 0 c0 = true := by exact rfl) (hl1 : PV.ltL 0 0 c1 = true := by exact rfl) (hlt : PV.ltL 1 0 args = true := by exact rfl) (ha : F6 S (al.toList.map (evP F) ++ caps) (PV.renL (fbN [id]) (ftN [] S.toks.length) args) := by repeat (first | exact Ad | refine Aa (Ab _) ?_)) (hS : S.setBox id c1 = S' := by exact rfl) (hc : ch k = true := by first | exact rfl | kernel_rfl) (hd : Fd (k :: D) (k + 1) rest = true := by kernel_rfl) : Bw.WB Tryz.prog N ops ch (Az us) (fun _ => []) k (o :: rest) F S false D q := by
  subst hS; exact Abm (K5 hD ho hv hb hl0 hl1 hlt ha) kk hg hc hd
end
theorem rl7 {G X : Prop} (h : X) (t : Hx X -> G := by (intro h; (first | refine b1 ?_ | refine b2 ?_ | refine b3 ?_ | refine b5 ?_ | refine b6 ?_ | refine b7 ?_ | refine b9 ?_ | refine b4 ?_ | refine b8 ?_ | fail); (repeat' (first | refine b1 ?_ | refine b2 ?_ | refine b3 ?_ | refine b5 ?_ | refine b6 ?_ | refine b7 ?_ | refine b9 ?_ | refine b4 ?_ | refine b8 ?_ | fail)); exact h.out)) : G := t ⟨h⟩
end Go.Proofs.YtiledamgmppcmaaGreatDoor
namespace Go.Proofs.YtiledamgmppcmaaGreatDoor
open Go.RowKit
@[reducible] def opL (m : Nat) (i : Nat) : List (Nat × PV) := [(0, .ptr 0 0), (1, Ai m), (8, .agg Adr), (9, Ai i)]
theorem Ky {l : List TkZ} {a m : Nat} (hm : lvM m) (hl : l.length <= 9223372036854775806) (h : Bd l a m = none) : An 153 [.ptr 0 0, Ai m] (pxS l a) (.ret (.tup [Ai 0, A7 false])) (pxS l a) := by
  rw [E8 l a hm, Option.map_eq_none_iff] at h
  have hno : ∀ i, i < 20 -> Hb l a m i = false := fun i hi => by
    have := List.find?_eq_none.1 h i (List.mem_range.2 hi); simpa using this
  refine Af Tryz.func153 rfl rfl (Nat.le_of_ble_eq_true rfl) rfl (Nat.le_refl _) ?_
  repeat' (first | refine rl0 ?_ | refine rs0 (fun h => ?_) (fun h => ?_) | fail)
  refine D3 Et rfl rfl rfl rfl rfl (by repeat (first | exact Ad | refine Aa (Ab _) ?_)) ?_
  repeat' (first | refine rl0 ?_ | refine rs0 (fun h => ?_) (fun h => ?_) | fail)
  refine F9 (ι := Nat) (ok := fun i => i <= 20) (L := opL m) (Sx := fun _ => pxS l a) (μ := fun i => 20 - i) 0 (Nat.zero_le _) (by repeat (first | exact Ag | refine Ac rfl ?_)) rfl ?_
  intro i hi
  repeat' (first | refine rl0 ?_ | refine rs0 (fun h => ?_) (fun h => ?_) | fail)
  . have hlt : i < 20 := by simp at h; omega
    have hn := hno i hlt
    unfold Hb at hn
    refine wiv (opP (opN i)) rfl rfl rfl rfl rfl ⟨by omega, by show (i : Int) < 20; omega⟩ (Ig hlt) ?_
    repeat' (first | refine rl0 ?_ | refine rs0 (fun h => ?_) (fun h => ?_) | fail)
    . have hb : Ba l a (opN i).2.2.2.2 = false := by simp_all
      refine wcb (id := 0) (Aj hl hb) rfl rfl rfl rfl rfl rfl rfl rfl (by repeat (first | exact Ad | refine Aa (Ab _) ?_)) rfl ?_
      repeat' (first | refine rl0 ?_ | refine rs0 (fun h => ?_) (fun h => ?_) | fail)
      exact ⟨i + 1, by omega, by omega, (by repeat (first | exact Ag | refine Ac rfl ?_)), rfl, rfl, rfl, Nat.le_refl _, Nat.le_refl _⟩
    . exact ⟨i + 1, by omega, by omega, (by repeat (first | exact Ag | refine Ac rfl ?_)), rfl, rfl, rfl, Nat.le_refl _, Nat.le_refl _⟩
    . exact ⟨i + 1, by omega, by omega, (by repeat (first | exact Ag | refine Ac rfl ?_)), rfl, rfl, rfl, Nat.le_refl _, Nat.le_refl _⟩
  . rfl
theorem Db {l : List TkZ} {a m : Nat} {op : Int} (hm : lvM m) (hl : l.length <= 9223372036854775806) (h : Bd l a m = some op) : An 153 [.ptr 0 0, Ai m] (pxS l a) (.ret (.tup [Ai op, A7 true])) (pxS l (a + 1)) := by
  rw [E8 l a hm] at h
  obtain ⟨k, hk, rfl⟩ := Option.map_eq_some_iff.1 h
  rw [List.find?_range_eq_some] at hk
  obtain ⟨hk1, hk2, hk3⟩ := hk
  have hk2 : k < 20 := by simpa using hk2
  have hno : ∀ i, i < k -> Hb l a m i = false := fun i hi => by simpa using hk3 i hi
  refine Af Tryz.func153 rfl rfl (Nat.le_of_ble_eq_true rfl) rfl (Nat.le_refl _) ?_
  repeat' (first | refine rl0 ?_ | refine rs0 (fun h => ?_) (fun h => ?_) | fail)
  refine D3 Et rfl rfl rfl rfl rfl (by repeat (first | exact Ad | refine Aa (Ab _) ?_)) ?_
  repeat' (first | refine rl0 ?_ | refine rs0 (fun h => ?_) (fun h => ?_) | fail)
  refine F9 (ι := Nat) (ok := fun i => i <= k) (L := opL m) (Sx := fun _ => pxS l a) (μ := fun i => k - i) 0 (Nat.zero_le _) (by repeat (first | exact Ag | refine Ac rfl ?_)) rfl ?_
  intro i hi
  repeat' (first | refine rl0 ?_ | refine rs0 (fun h => ?_) (fun h => ?_) | fail)
  . have hlt : i < 20 := by simp at h; omega
    refine wiv (opP (opN i)) rfl rfl rfl rfl rfl ⟨by omega, by show (i : Int) < 20; omega⟩ (Ig hlt) ?_
    by_cases hik : i < k
    . have hn := hno i hik
      unfold Hb at hn
      repeat' (first | refine rl0 ?_ | refine rs0 (fun h => ?_) (fun h => ?_) | fail)
      . have hb : Ba l a (opN i).2.2.2.2 = false := by simp_all
        refine wcb (id := 0) (Aj hl hb) rfl rfl rfl rfl rfl rfl rfl rfl (by repeat (first | exact Ad | refine Aa (Ab _) ?_)) rfl ?_
        repeat' (first | refine rl0 ?_ | refine rs0 (fun h => ?_) (fun h => ?_) | fail)
        exact ⟨i + 1, by omega, by omega, (by repeat (first | exact Ag | refine Ac rfl ?_)), rfl, rfl, rfl, Nat.le_refl _, Nat.le_refl _⟩
      . exact ⟨i + 1, by omega, by omega, (by repeat (first | exact Ag | refine Ac rfl ?_)), rfl, rfl, rfl, Nat.le_refl _, Nat.le_refl _⟩
      . exact ⟨i + 1, by omega, by omega, (by repeat (first | exact Ag | refine Ac rfl ?_)), rfl, rfl, rfl, Nat.le_refl _, Nat.le_refl _⟩
    . obtain rfl : i = k := by omega
      unfold Hb at hk1
      simp only [Bool.and_eq_true] at hk1
      obtain ⟨e1, e2, hb⟩ := hk1
      repeat' (first | refine rl0 ?_ | refine rs0 (fun h => ?_) (fun h => ?_) | fail)
      . refine wcb (id := 0) (As hl hb) rfl rfl rfl rfl rfl rfl rfl rfl (by repeat (first | exact Ad | refine Aa (Ab _) ?_)) rfl ?_
        repeat' (first | refine rl0 ?_ | refine rs0 (fun h => ?_) (fun h => ?_) | fail)
        rfl
      . exfalso; simp_all
      . exfalso; simp_all
  . exfalso; simp at h; omega
end Go.Proofs.YtiledamgmppcmaaGreatDoor
namespace Go.Proofs.YtiledamgmppcmaaGreatDoor
open Go.RowKit
theorem Bu {p : PRes} {f : Ex -> Nat -> PRes} (h : p.bad = true) : p.go f = .no p.at' := if_pos h
theorem Cu {p : PRes} {f : Ex -> Nat -> PRes} (h : p.bad = false) : p.go f = f p.x p.at' := if_neg (by rw [h]; simp)
theorem E3 {l : List TkZ} {a : Nat} {s : ByteArray} {f : Nat -> PRes} (h : Ba l a s = false) : Ct l a s f = .no a := if_neg (by rw [h]; simp)
theorem E4 {l : List TkZ} {a : Nat} {s : ByteArray} {f : Nat -> PRes} (h : Ba l a s = true) : Ct l a s f = f (a + 1) := if_pos h
def Gs (f : Nat) (args : List PV) (l : List TkZ) (a : Nat) (r : PRes) : Prop := An f args (pxS l a) (bif r.bad then .panic Fv else .ret (exP r.x)) (pxS l r.at')
theorem Gs.ok {f : Nat} {args : List PV} {l : List TkZ} {a : Nat} {r : PRes} (h : Gs f args l a r) (hb : r.bad = false) : An f args (pxS l a) (.ret (exP r.x)) (pxS l r.at') := by
  unfold Gs at h; rw [hb] at h; exact h
theorem Gs.no {f : Nat} {args : List PV} {l : List TkZ} {a : Nat} {r : PRes} (h : Gs f args l a r) (hb : r.bad = true) : An f args (pxS l a) (.panic Fv) (pxS l r.at') := by
  unfold Gs at h; rw [hb] at h; exact h
theorem Qe {f : Nat} {args : List PV} {l : List TkZ} {a : Nat} {r : PRes} (h0 : r.bad = false -> An f args (pxS l a) (.ret (exP r.x)) (pxS l r.at')) (h1 : r.bad = true -> An f args (pxS l a) (.panic Fv) (pxS l r.at')) : Gs f args l a r := by
  unfold Gs
  cases hb : r.bad with
  | false => exact h0 hb
  | true => exact h1 hb
@[reducible] def exR (x : Ex) : List DV := [.v (.int .i64 x.op), .v (.int .i64 x.n), .v (.string x.name), .sl 4 (Eb x.args)]
theorem J0 (x : Ex) : exD x = exR x := by cases x; rfl
theorem Ox (op : Int) (x : Ex) : An 114 [Ai op, .d (.sl 4 [exR x])] ⟨[], []⟩ (.ret (exP (nd op [x]))) ⟨[], []⟩ := by
  have h := D0 op [x]
  simp only [Eb, J0] at h; exact h
theorem Lj (op : Int) (x y : Ex) : An 114 [Ai op, .d (.sl 4 [exR x, exR y])] ⟨[], []⟩ (.ret (exP (nd op [x, y]))) ⟨[], []⟩ := by
  have h := D0 op [x, y]
  simp only [Eb, J0] at h; exact h
theorem V0 (op : Int) (x y z : Ex) : An 114 [Ai op, .d (.sl 4 [exR x, exR y, exR z])] ⟨[], []⟩ (.ret (exP (nd op [x, y, z]))) ⟨[], []⟩ := by
  have h := D0 op [x, y, z]
  simp only [Eb, J0] at h; exact h
def fnM (m : Nat) : Nat := if m = 0 then 71 else if m = 3 then 188 else if m = 7 then 189 else 112
def Aia (m : Nat) : List PV := if m = 0 \/ m = 3 \/ m = 7 then [.ptr 0 0] else [.ptr 0 0, Ai m]
def Q6 (l : List TkZ) (n : Nat) : Prop := ∀ m a, m <= 7 -> m ≠ 4 -> a <= l.length -> 8 * (l.length - a) + A5 m <= n -> Gs (fnM m) (Aia m) l a (pE l n m a)
section
variable {l : List TkZ} {n : Nat} (hl : l.length <= 9223372036854775806) (ih : Q6 l n)
include hl ih
theorem Ql {a : Nat} (ha : a <= l.length) (hn : 8 * (l.length - a) + 8 <= n + 1) : Gs 71 [.ptr 0 0] l a (pE l (n + 1) 0 a) := by
  rw [pE]
  cases h : Ba l a kIf with
  | false =>
    rw [if_neg (by simp)]
    have hc : Gs 112 [.ptr 0 0, Ai 1] l a (pE l n 1 a) := ih 1 a (by omega) (by omega) ha (by simp [A5]; omega)
    refine Qe (fun hb => ?_) fun hb => ?_
    . refine Af Tryz.func71 rfl rfl (Nat.le_of_ble_eq_true rfl) rfl (Nat.le_refl _) ?_
      repeat' (first | refine rl0 ?_ | refine rs0 (fun h => ?_) (fun h => ?_) | fail)
      refine wb1 0 (Aj hl h) ?_
      repeat' (first | refine rl0 ?_ | refine rs0 (fun h => ?_) (fun h => ?_) | fail)
      refine wb1 0 (hc.ok hb) ?_
      repeat' (first | refine rl0 ?_ | refine rs0 (fun h => ?_) (fun h => ?_) | fail)
      rfl
    . refine A1 Tryz.func71 rfl rfl (Nat.le_of_ble_eq_true rfl) ?_
      repeat' (first | refine rl0 ?_ | refine rs0 (fun h => ?_) (fun h => ?_) | fail)
      refine wb1 0 (Aj hl h) ?_
      repeat' (first | refine rl0 ?_ | refine rs0 (fun h => ?_) (fun h => ?_) | fail)
      refine Jy 0 (hc.no hb) ?_
      exact ⟨rfl, rfl, rfl⟩
  | true =>
    rw [if_pos rfl]
    have h0 := Bs h
    have g1 : Gs 71 [.ptr 0 0] l (a + 1) (pE l n 0 (a + 1)) := ih 0 (a + 1) (by omega) (by omega) h0 (by simp [A5]; omega)
    have p1 := Gc l n 0 (a + 1)
    have p2 := Dg l n 0 (a + 1) h0
    generalize pE l n 0 (a + 1) = p at g1 p1 p2 |-
    cases hb : p.bad with
    | true =>
      rw [Bu hb]
      show An _ _ _ (.panic Fv) (pxS l p.at')
      refine A1 Tryz.func71 rfl rfl (Nat.le_of_ble_eq_true rfl) ?_
      repeat' (first | refine rl0 ?_ | refine rs0 (fun h => ?_) (fun h => ?_) | fail)
      refine wb1 0 (As hl h) ?_
      repeat' (first | refine rl0 ?_ | refine rs0 (fun h => ?_) (fun h => ?_) | fail)
      refine Jy 0 (g1.no hb) ?_
      exact ⟨rfl, rfl, rfl⟩
    | false =>
    rw [Cu hb]
    have g1 := g1.ok hb
    cases ht : Ba l p.at' Kq with
    | false =>
      rw [E3 ht]
      show An _ _ _ (.panic Fv) (pxS l p.at')
      refine A1 Tryz.func71 rfl rfl (Nat.le_of_ble_eq_true rfl) ?_
      repeat' (first | refine rl0 ?_ | refine rs0 (fun h => ?_) (fun h => ?_) | fail)
      refine wb1 0 (As hl h) ?_
      repeat' (first | refine rl0 ?_ | refine rs0 (fun h => ?_) (fun h => ?_) | fail)
      refine wb1 0 g1 ?_
      repeat' (first | refine rl0 ?_ | refine rs0 (fun h => ?_) (fun h => ?_) | fail)
      refine Jy 0 (Fg hl ht) ?_
      exact ⟨rfl, rfl, rfl⟩
    | true =>
    rw [E4 ht]
    have h1 := Bs ht
    have g2 : Gs 71 [.ptr 0 0] l (p.at' + 1) (pE l n 0 (p.at' + 1)) := ih 0 (p.at' + 1) (by omega) (by omega) h1 (by simp [A5]; omega)
    have p3 := Gc l n 0 (p.at' + 1)
    have p4 := Dg l n 0 (p.at' + 1) h1
    generalize pE l n 0 (p.at' + 1) = q at g2 p3 p4 |-
    cases hc : q.bad with
    | true =>
      rw [Bu hc]
      show An _ _ _ (.panic Fv) (pxS l q.at')
      refine A1 Tryz.func71 rfl rfl (Nat.le_of_ble_eq_true rfl) ?_
      repeat' (first | refine rl0 ?_ | refine rs0 (fun h => ?_) (fun h => ?_) | fail)
      refine wb1 0 (As hl h) ?_
      repeat' (first | refine rl0 ?_ | refine rs0 (fun h => ?_) (fun h => ?_) | fail)
      refine wb1 0 g1 ?_
      repeat' (first | refine rl0 ?_ | refine rs0 (fun h => ?_) (fun h => ?_) | fail)
      refine wb1 0 (C1 hl ht) ?_
      repeat' (first | refine rl0 ?_ | refine rs0 (fun h => ?_) (fun h => ?_) | fail)
      refine Jy 0 (g2.no hc) ?_
      exact ⟨rfl, rfl, rfl⟩
    | false =>
    rw [Cu hc]
    have g2 := g2.ok hc
    cases he : Ba l q.at' Kp with
    | false =>
      rw [E3 he]
      show An _ _ _ (.panic Fv) (pxS l q.at')
      refine A1 Tryz.func71 rfl rfl (Nat.le_of_ble_eq_true rfl) ?_
      repeat' (first | refine rl0 ?_ | refine rs0 (fun h => ?_) (fun h => ?_) | fail)
      refine wb1 0 (As hl h) ?_
      repeat' (first | refine rl0 ?_ | refine rs0 (fun h => ?_) (fun h => ?_) | fail)
      refine wb1 0 g1 ?_
      repeat' (first | refine rl0 ?_ | refine rs0 (fun h => ?_) (fun h => ?_) | fail)
      refine wb1 0 (C1 hl ht) ?_
      repeat' (first | refine rl0 ?_ | refine rs0 (fun h => ?_) (fun h => ?_) | fail)
      refine wb1 0 g2 ?_
      repeat' (first | refine rl0 ?_ | refine rs0 (fun h => ?_) (fun h => ?_) | fail)
      refine Jy 0 (Fg hl he) ?_
      exact ⟨rfl, rfl, rfl⟩
    | true =>
    rw [E4 he]
    have h2 := Bs he
    have g3 : Gs 71 [.ptr 0 0] l (q.at' + 1) (pE l n 0 (q.at' + 1)) := ih 0 (q.at' + 1) (by omega) (by omega) h2 (by simp [A5]; omega)
    generalize pE l n 0 (q.at' + 1) = r at g3 |-
    cases hd : r.bad with
    | true =>
      rw [Bu hd]
      show An _ _ _ (.panic Fv) (pxS l r.at')
      refine A1 Tryz.func71 rfl rfl (Nat.le_of_ble_eq_true rfl) ?_
      repeat' (first | refine rl0 ?_ | refine rs0 (fun h => ?_) (fun h => ?_) | fail)
      refine wb1 0 (As hl h) ?_
      repeat' (first | refine rl0 ?_ | refine rs0 (fun h => ?_) (fun h => ?_) | fail)
      refine wb1 0 g1 ?_
      repeat' (first | refine rl0 ?_ | refine rs0 (fun h => ?_) (fun h => ?_) | fail)
      refine wb1 0 (C1 hl ht) ?_
      repeat' (first | refine rl0 ?_ | refine rs0 (fun h => ?_) (fun h => ?_) | fail)
      refine wb1 0 g2 ?_
      repeat' (first | refine rl0 ?_ | refine rs0 (fun h => ?_) (fun h => ?_) | fail)
      refine wb1 0 (C1 hl he) ?_
      repeat' (first | refine rl2 ?_ | refine rs2 (fun h => ?_) (fun h => ?_) | fail)
      refine Dx (fun k => Nat.beq k 3 || Nat.beq k 6) [2, 3] [] rfl (by kernel_rfl) ?_
      repeat' (first | refine rl6 ?_ | refine rs6 (fun h => ?_) (fun h => ?_) | fail)
      refine Ado 0 (g3.no hd) ?_
      exact ⟨rfl, rfl, rfl⟩
    | false =>
    rw [Cu hd]
    show An _ _ _ (.ret (exP (nd 19 [p.x, q.x, r.x]))) (pxS l r.at')
    refine Af Tryz.func71 rfl rfl (Nat.le_of_ble_eq_true rfl) rfl (Nat.le_refl _) ?_
    repeat' (first | refine rl0 ?_ | refine rs0 (fun h => ?_) (fun h => ?_) | fail)
    refine wb1 0 (As hl h) ?_
    repeat' (first | refine rl0 ?_ | refine rs0 (fun h => ?_) (fun h => ?_) | fail)
    refine wb1 0 g1 ?_
    repeat' (first | refine rl0 ?_ | refine rs0 (fun h => ?_) (fun h => ?_) | fail)
    refine wb1 0 (C1 hl ht) ?_
    repeat' (first | refine rl0 ?_ | refine rs0 (fun h => ?_) (fun h => ?_) | fail)
    refine wb1 0 g2 ?_
    repeat' (first | refine rl0 ?_ | refine rs0 (fun h => ?_) (fun h => ?_) | fail)
    refine wb1 0 (C1 hl he) ?_
    repeat' (first | refine rl2 ?_ | refine rs2 (fun h => ?_) (fun h => ?_) | fail)
    refine Dx (fun k => Nat.beq k 3 || Nat.beq k 6) [2, 3] [] rfl (by kernel_rfl) ?_
    repeat' (first | refine rl6 ?_ | refine rs6 (fun h => ?_) (fun h => ?_) | fail)
    refine wb1a 0 (g3.ok hd) ?_
    repeat' (first | refine rl6 ?_ | refine rs6 (fun h => ?_) (fun h => ?_) | fail)
    refine wp1a (V0 19 p.x q.x r.x) ?_
    repeat' (first | refine rl6 ?_ | refine rs6 (fun h => ?_) (fun h => ?_) | fail)
    repeat' (first | refine rl0 ?_ | refine rs0 (fun h => ?_) (fun h => ?_) | fail)
    rfl
end
end Go.Proofs.YtiledamgmppcmaaGreatDoor
namespace Go.Proofs.YtiledamgmppcmaaGreatDoor
open Go.RowKit
theorem Fh {l : List TkZ} {n : Nat} (ih : Q6 l n) {m a : Nat} (hm : m = 1 \/ m = 2 \/ m = 5 \/ m = 6) (ha : a <= l.length) (hn : 8 * (l.length - a) + A5 (Ao m) <= n) : Gs 152 [.ptr 0 0, Ai m] l a (pE l n (Ao m) a) := by
  have h := ih (Ao m) a (by rcases hm with rfl | rfl | rfl | rfl <;> decide) (by rcases hm with rfl | rfl | rfl | rfl <;> decide) ha hn
  rcases hm with rfl | rfl | rfl | rfl
  all_goals
    refine Qe (fun hb => ?_) fun hb => ?_
    . refine Af Tryz.func152 rfl rfl (Nat.le_of_ble_eq_true rfl) rfl (Nat.le_refl _) ?_
      repeat' (first | refine rl0 ?_ | refine rs0 (fun h => ?_) (fun h => ?_) | fail)
      refine wb1 0 (h.ok hb) ?_
      repeat' (first | refine rl0 ?_ | refine rs0 (fun h => ?_) (fun h => ?_) | fail)
      rfl
    . refine A1 Tryz.func152 rfl rfl (Nat.le_of_ble_eq_true rfl) ?_
      repeat' (first | refine rl0 ?_ | refine rs0 (fun h => ?_) (fun h => ?_) | fail)
      refine Jy 0 (h.no hb) ?_
      exact ⟨rfl, rfl, rfl⟩
theorem Mf {m : Nat} (hm : m = 1 \/ m = 2 \/ m = 5 \/ m = 6) : lvM m := by unfold lvM; omega
theorem Hd {m : Nat} (hm : m = 1 \/ m = 2 \/ m = 5 \/ m = 6) : A5 (Ao m) + 1 <= A5 m /\ A5 (Ao m) <= 6 /\ 2 <= A5 (Ao m) := by rcases hm with rfl | rfl | rfl | rfl <;> decide
@[reducible] def chS (l : List TkZ) (i : Ex × Nat × Nat) : PS := ⟨[[.d (.sl 3 (l.map tkR)), Ai i.2.1], D4, (exP i.1).parts], []⟩
@[reducible] def chL (m : Nat) (_ : Ex × Nat × Nat) : List (Nat × PV) := [(0, .ptr 0 0), (1, Ai m), (4, .ptr 1 0), (5, .ptr 2 0)]
theorem M2 {l : List TkZ} {n : Nat} (hl : l.length <= 9223372036854775806) (ih : ∀ k, k <= n -> Q6 l k) {m a : Nat} (hm : m = 1 \/ m = 2 \/ m = 5 \/ m = 6) (ha : a <= l.length) (hn : 8 * (l.length - a) + A5 m <= n + 1) : Gs 112 [.ptr 0 0, Ai m] l a (pE l (n + 1) m a) := by
  rw [Dz l n m a (by omega) (by omega) (by omega)]
  obtain ⟨r1, r2, r3⟩ := Hd hm
  have g1 := Fh (ih n (Nat.le_refl _)) hm ha (by omega)
  have p1 := Gc l n (Ao m) a
  have p2 := Dg l n (Ao m) a ha
  generalize pE l n (Ao m) a = p at g1 p1 p2 |-
  cases hb : p.bad with
  | true =>
    rw [Bu hb]
    show An _ _ _ (.panic Fv) (pxS l p.at')
    refine A1 Tryz.func112 rfl rfl (Nat.le_of_ble_eq_true rfl) ?_
    repeat' (first | refine rl0 ?_ | refine rs0 (fun h => ?_) (fun h => ?_) | fail)
    refine Jy 0 (g1.no hb) ?_
    exact ⟨rfl, rfl, rfl⟩
  | false =>
  rw [Cu hb]
  have g1 := g1.ok hb
  obtain ⟨R, hR⟩ : ∃ R, pR l n m p.x p.at' = R := ⟨_, rfl⟩
  rw [hR]
  refine Qe (fun hr => ?_) fun hr => ?_
  . refine Af Tryz.func112 rfl rfl (Nat.le_of_ble_eq_true rfl) rfl (Nat.le_refl _) ?_
    repeat' (first | refine rl0 ?_ | refine rs0 (fun h => ?_) (fun h => ?_) | fail)
    refine wb1 0 g1 ?_
    repeat' (first | refine rl0 ?_ | refine rs0 (fun h => ?_) (fun h => ?_) | fail)
    refine Bt (ι := Ex × Nat × Nat) (ok := fun i => i.2.1 <= l.length /\ 8 * (l.length - i.2.1) + 1 <= i.2.2 /\ i.2.2 <= n /\ pR l i.2.2 m i.1 i.2.1 = R) (L := chL m) (Sx := chS l) (μ := fun i => i.2.2) (p.x, p.at', n) ⟨p2, by show 8 * (l.length - p.at') + 1 <= n; omega, Nat.le_refl _, hR⟩ (by repeat (first | exact Ag | refine Ac rfl ?_)) rfl ?_
    rintro ⟨x, b, k⟩ ⟨hbl, hk, hkn, hx⟩
    simp only at hbl hk hkn hx
    obtain ⟨k, rfl⟩ : ∃ j, k = j + 1 := ⟨k - 1, by omega⟩
    rw [pR] at hx
    cases ho : Bd l b m with
    | none =>
      rw [ho] at hx
      subst hx
      repeat' (first | refine rl0 ?_ | refine rs0 (fun h => ?_) (fun h => ?_) | fail)
      refine wb1 0 (Ky (Mf hm) hl ho) ?_
      repeat' (first | refine rl0 ?_ | refine rs0 (fun h => ?_) (fun h => ?_) | fail)
      rfl
    | some op =>
      rw [ho] at hx
      simp only at hx
      have h1 := B0 ho
      have g2 := Fh (ih k (by omega)) hm (a := b + 1) h1 (by omega)
      have p3 := Gc l k (Ao m) (b + 1)
      have p4 := Dg l k (Ao m) (b + 1) h1
      generalize pE l k (Ao m) (b + 1) = y at g2 p3 p4 hx
      cases hy : y.bad with
      | true => rw [Bu hy] at hx; subst hx; cases hr
      | false =>
      rw [Cu hy] at hx
      repeat' (first | refine rl0 ?_ | refine rs0 (fun h => ?_) (fun h => ?_) | fail)
      refine wb1 0 (Db (Mf hm) hl ho) ?_
      repeat' (first | refine rl2 ?_ | refine rs2 (fun h => ?_) (fun h => ?_) | fail)
      refine b0 (fun k => Nat.beq k 4 || Nat.beq k 7) [(1, [2])] ?_
      repeat' (first | refine rl7 ?_ | refine rs7 (fun h => ?_) (fun h => ?_) | fail)
      refine Z3 0 (g2.ok hy) ?_
      repeat' (first | refine rl7 ?_ | refine rs7 (fun h => ?_) (fun h => ?_) | fail)
      refine P7 (Lj op x y.x) ?_
      repeat' (first | refine rl7 ?_ | refine rs7 (fun h => ?_) (fun h => ?_) | fail)
      repeat' (first | refine rl0 ?_ | refine rs0 (fun h => ?_) (fun h => ?_) | fail)
      exact ⟨(nd op [x, y.x], y.at', k), ⟨p4, by show 8 * (l.length - y.at') + 1 <= k; omega, by show k <= n; omega, hx⟩, Nat.lt_succ_self k, (by repeat (first | exact Ag | refine Ac rfl ?_)), rfl⟩
  . refine A1 Tryz.func112 rfl rfl (Nat.le_of_ble_eq_true rfl) ?_
    repeat' (first | refine rl0 ?_ | refine rs0 (fun h => ?_) (fun h => ?_) | fail)
    refine wb1 0 g1 ?_
    repeat' (first | refine rl0 ?_ | refine rs0 (fun h => ?_) (fun h => ?_) | fail)
    refine Bt (ι := Ex × Nat × Nat) (ok := fun i => i.2.1 <= l.length /\ 8 * (l.length - i.2.1) + 1 <= i.2.2 /\ i.2.2 <= n /\ pR l i.2.2 m i.1 i.2.1 = R) (L := chL m) (Sx := chS l) (μ := fun i => i.2.2) (p.x, p.at', n) ⟨p2, by show 8 * (l.length - p.at') + 1 <= n; omega, Nat.le_refl _, hR⟩ (by repeat (first | exact Ag | refine Ac rfl ?_)) rfl ?_
    rintro ⟨x, b, k⟩ ⟨hbl, hk, hkn, hx⟩
    simp only at hbl hk hkn hx
    obtain ⟨k, rfl⟩ : ∃ j, k = j + 1 := ⟨k - 1, by omega⟩
    rw [pR] at hx
    cases ho : Bd l b m with
    | none =>
      rw [ho] at hx
      subst hx
      cases hr
    | some op =>
      rw [ho] at hx
      simp only at hx
      have h1 := B0 ho
      have g2 := Fh (ih k (by omega)) hm (a := b + 1) h1 (by omega)
      have p3 := Gc l k (Ao m) (b + 1)
      have p4 := Dg l k (Ao m) (b + 1) h1
      generalize pE l k (Ao m) (b + 1) = y at g2 p3 p4 hx
      cases hy : y.bad with
      | true =>
        rw [Bu hy] at hx; subst hx
        repeat' (first | refine rl0 ?_ | refine rs0 (fun h => ?_) (fun h => ?_) | fail)
        refine wb1 0 (Db (Mf hm) hl ho) ?_
        repeat' (first | refine rl2 ?_ | refine rs2 (fun h => ?_) (fun h => ?_) | fail)
        refine b0 (fun k => Nat.beq k 4 || Nat.beq k 7) [(1, [2])] ?_
        repeat' (first | refine rl7 ?_ | refine rs7 (fun h => ?_) (fun h => ?_) | fail)
        refine Un 0 (g2.no hy) ?_
        exact ⟨rfl, rfl, rfl⟩
      | false =>
      rw [Cu hy] at hx
      repeat' (first | refine rl0 ?_ | refine rs0 (fun h => ?_) (fun h => ?_) | fail)
      refine wb1 0 (Db (Mf hm) hl ho) ?_
      repeat' (first | refine rl2 ?_ | refine rs2 (fun h => ?_) (fun h => ?_) | fail)
      refine b0 (fun k => Nat.beq k 4 || Nat.beq k 7) [(1, [2])] ?_
      repeat' (first | refine rl7 ?_ | refine rs7 (fun h => ?_) (fun h => ?_) | fail)
      refine Z3 0 (g2.ok hy) ?_
      repeat' (first | refine rl7 ?_ | refine rs7 (fun h => ?_) (fun h => ?_) | fail)
      refine P7 (Lj op x y.x) ?_
      repeat' (first | refine rl7 ?_ | refine rs7 (fun h => ?_) (fun h => ?_) | fail)
      repeat' (first | refine rl0 ?_ | refine rs0 (fun h => ?_) (fun h => ?_) | fail)
      exact ⟨(nd op [x, y.x], y.at', k), ⟨p4, by show 8 * (l.length - y.at') + 1 <= k; omega, by show k <= n; omega, hx⟩, Nat.lt_succ_self k, (by repeat (first | exact Ag | refine Ac rfl ?_)), rfl⟩
theorem Vj {l : List TkZ} {n : Nat} (hl : l.length <= 9223372036854775806) (ih : Q6 l n) {a : Nat} (ha : a <= l.length) (hn : 8 * (l.length - a) + 5 <= n + 1) : Gs 188 [.ptr 0 0] l a (pE l (n + 1) 3 a) := by
  rw [pE]
  cases h : Ba l a Ab6 with
  | true =>
    rw [if_pos rfl]
    have h0 := Bs h
    have g1 : Gs 188 [.ptr 0 0] l (a + 1) (pE l n 3 (a + 1)) := ih 3 (a + 1) (by omega) (by omega) h0 (by simp [A5]; omega)
    generalize pE l n 3 (a + 1) = p at g1 |-
    cases hb : p.bad with
    | true =>
      rw [Bu hb]
      show An _ _ _ (.panic Fv) (pxS l p.at')
      refine A1 Tryz.func188 rfl rfl (Nat.le_of_ble_eq_true rfl) ?_
      repeat' (first | refine rl0 ?_ | refine rs0 (fun h => ?_) (fun h => ?_) | fail)
      refine wb1 0 (As hl h) ?_
      repeat' (first | refine rl0 ?_ | refine rs0 (fun h => ?_) (fun h => ?_) | fail)
      refine Jy 0 (g1.no hb) ?_
      exact ⟨rfl, rfl, rfl⟩
    | false =>
    rw [Cu hb]
    show An _ _ _ (.ret (exP (nd 6 [p.x]))) (pxS l p.at')
    refine Af Tryz.func188 rfl rfl (Nat.le_of_ble_eq_true rfl) rfl (Nat.le_refl _) ?_
    repeat' (first | refine rl0 ?_ | refine rs0 (fun h => ?_) (fun h => ?_) | fail)
    refine wb1 0 (As hl h) ?_
    repeat' (first | refine rl0 ?_ | refine rs0 (fun h => ?_) (fun h => ?_) | fail)
    refine wb1 0 (g1.ok hb) ?_
    repeat' (first | refine rl0 ?_ | refine rs0 (fun h => ?_) (fun h => ?_) | fail)
    refine wp1 (Ox 6 p.x) ?_
    repeat' (first | refine rl0 ?_ | refine rs0 (fun h => ?_) (fun h => ?_) | fail)
    rfl
  | false =>
    rw [if_neg (by simp)]
    have g1 : Gs 112 [.ptr 0 0, Ai 5] l a (pE l n 5 a) := ih 5 a (by omega) (by omega) ha (by simp [A5]; omega)
    have p1 := Gc l n 5 a
    have p2 := Dg l n 5 a ha
    generalize pE l n 5 a = p at g1 p1 p2 |-
    cases hb : p.bad with
    | true =>
      rw [Bu hb]
      show An _ _ _ (.panic Fv) (pxS l p.at')
      refine A1 Tryz.func188 rfl rfl (Nat.le_of_ble_eq_true rfl) ?_
      repeat' (first | refine rl0 ?_ | refine rs0 (fun h => ?_) (fun h => ?_) | fail)
      refine wb1 0 (Aj hl h) ?_
      repeat' (first | refine rl0 ?_ | refine rs0 (fun h => ?_) (fun h => ?_) | fail)
      refine Jy 0 (g1.no hb) ?_
      exact ⟨rfl, rfl, rfl⟩
    | false =>
    rw [Cu hb]
    have g1 := g1.ok hb
    have h4 : lvM 4 := by unfold lvM; omega
    cases ho : Bd l p.at' 4 with
    | none =>
      show An _ _ _ (.ret (exP p.x)) (pxS l p.at')
      refine Af Tryz.func188 rfl rfl (Nat.le_of_ble_eq_true rfl) rfl (Nat.le_refl _) ?_
      repeat' (first | refine rl0 ?_ | refine rs0 (fun h => ?_) (fun h => ?_) | fail)
      refine wb1 0 (Aj hl h) ?_
      repeat' (first | refine rl0 ?_ | refine rs0 (fun h => ?_) (fun h => ?_) | fail)
      refine wb1 0 g1 ?_
      repeat' (first | refine rl0 ?_ | refine rs0 (fun h => ?_) (fun h => ?_) | fail)
      refine wb1 0 (Ky h4 hl ho) ?_
      repeat' (first | refine rl0 ?_ | refine rs0 (fun h => ?_) (fun h => ?_) | fail)
      rfl
    | some op =>
      have h1 := B0 ho
      have g2 : Gs 112 [.ptr 0 0, Ai 5] l (p.at' + 1) (pE l n 5 (p.at' + 1)) := ih 5 (p.at' + 1) (by omega) (by omega) h1 (by simp [A5]; omega)
      show Gs _ _ l a ((pE l n 5 (p.at' + 1)).go fun y c => .yes (nd op [p.x, y]) c)
      generalize pE l n 5 (p.at' + 1) = y at g2 |-
      cases hy : y.bad with
      | true =>
        rw [Bu hy]
        show An _ _ _ (.panic Fv) (pxS l y.at')
        refine A1 Tryz.func188 rfl rfl (Nat.le_of_ble_eq_true rfl) ?_
        repeat' (first | refine rl0 ?_ | refine rs0 (fun h => ?_) (fun h => ?_) | fail)
        refine wb1 0 (Aj hl h) ?_
        repeat' (first | refine rl0 ?_ | refine rs0 (fun h => ?_) (fun h => ?_) | fail)
        refine wb1 0 g1 ?_
        repeat' (first | refine rl0 ?_ | refine rs0 (fun h => ?_) (fun h => ?_) | fail)
        refine wb1 0 (Db h4 hl ho) ?_
        repeat' (first | refine rl2 ?_ | refine rs2 (fun h => ?_) (fun h => ?_) | fail)
        refine b0 (fun k => Nat.beq k 3 || Nat.beq k 6) [(1, [2])] ?_
        repeat' (first | refine rl7 ?_ | refine rs7 (fun h => ?_) (fun h => ?_) | fail)
        refine Un 0 (g2.no hy) ?_
        exact ⟨rfl, rfl, rfl⟩
      | false =>
      rw [Cu hy]
      show An _ _ _ (.ret (exP (nd op [p.x, y.x]))) (pxS l y.at')
      refine Af Tryz.func188 rfl rfl (Nat.le_of_ble_eq_true rfl) rfl (Nat.le_refl _) ?_
      repeat' (first | refine rl0 ?_ | refine rs0 (fun h => ?_) (fun h => ?_) | fail)
      refine wb1 0 (Aj hl h) ?_
      repeat' (first | refine rl0 ?_ | refine rs0 (fun h => ?_) (fun h => ?_) | fail)
      refine wb1 0 g1 ?_
      repeat' (first | refine rl0 ?_ | refine rs0 (fun h => ?_) (fun h => ?_) | fail)
      refine wb1 0 (Db h4 hl ho) ?_
      repeat' (first | refine rl2 ?_ | refine rs2 (fun h => ?_) (fun h => ?_) | fail)
      refine b0 (fun k => Nat.beq k 3 || Nat.beq k 6) [(1, [2])] ?_
      repeat' (first | refine rl7 ?_ | refine rs7 (fun h => ?_) (fun h => ?_) | fail)
      refine Z3 0 (g2.ok hy) ?_
      repeat' (first | refine rl7 ?_ | refine rs7 (fun h => ?_) (fun h => ?_) | fail)
      refine P7 (Lj op p.x y.x) ?_
      repeat' (first | refine rl7 ?_ | refine rs7 (fun h => ?_) (fun h => ?_) | fail)
      repeat' (first | refine rl0 ?_ | refine rs0 (fun h => ?_) (fun h => ?_) | fail)
      rfl
end Go.Proofs.YtiledamgmppcmaaGreatDoor
namespace Go.Proofs.YtiledamgmppcmaaGreatDoor
open Go.RowKit
def P5 (l : List TkZ) : Prop := ∀ t ∈ l, t.1 = 3 -> t.2.1.size <= 18 /\ ∃ n, Lib.atoi t.2.1.data.toList = some n
theorem Vb (op : Int) : An 114 [Ai op, .d (.v (.slice none 0 0))] ⟨[], []⟩ (.ret (exP (nd op []))) ⟨[], []⟩ := Lu (D0 op []) (Aa (Ab _) (Aa Bo Ad))
theorem K9 {l : List TkZ} {n : Nat} (hl : l.length <= 9223372036854775806) (hnum : P5 l) (ih : Q6 l n) {a : Nat} (ha : a <= l.length) (hn : 8 * (l.length - a) + 2 <= n + 1) : Gs 189 [.ptr 0 0] l a (pE l (n + 1) 7 a) := by
  rw [pE]
  cases h : Ba l a Ms with
  | true =>
    rw [if_pos rfl]
    have h0 := Bs h
    have g1 : Gs 189 [.ptr 0 0] l (a + 1) (pE l n 7 (a + 1)) := ih 7 (a + 1) (by omega) (by omega) h0 (by simp [A5]; omega)
    generalize pE l n 7 (a + 1) = p at g1 |-
    cases hb : p.bad with
    | true =>
      rw [Bu hb]
      show An _ _ _ (.panic Fv) (pxS l p.at')
      refine A1 Tryz.func189 rfl rfl (Nat.le_of_ble_eq_true rfl) ?_
      repeat' (first | refine rl0 ?_ | refine rs0 (fun h => ?_) (fun h => ?_) | fail)
      refine wb1 0 (As hl h) ?_
      repeat' (first | refine rl0 ?_ | refine rs0 (fun h => ?_) (fun h => ?_) | fail)
      refine Jy 0 (g1.no hb) ?_
      exact ⟨rfl, rfl, rfl⟩
    | false =>
    rw [Cu hb]
    show An _ _ _ (.ret (exP (nd 5 [p.x]))) (pxS l p.at')
    refine Af Tryz.func189 rfl rfl (Nat.le_of_ble_eq_true rfl) rfl (Nat.le_refl _) ?_
    repeat' (first | refine rl0 ?_ | refine rs0 (fun h => ?_) (fun h => ?_) | fail)
    refine wb1 0 (As hl h) ?_
    repeat' (first | refine rl0 ?_ | refine rs0 (fun h => ?_) (fun h => ?_) | fail)
    refine wb1 0 (g1.ok hb) ?_
    repeat' (first | refine rl0 ?_ | refine rs0 (fun h => ?_) (fun h => ?_) | fail)
    refine wp1 (Ox 5 p.x) ?_
    repeat' (first | refine rl0 ?_ | refine rs0 (fun h => ?_) (fun h => ?_) | fail)
    rfl
  | false =>
  rw [if_neg (by simp)]
  cases h2 : Ba l a Oc with
  | true =>
    rw [if_pos rfl]
    show An _ _ _ (.ret (exP (nd 3 []))) (pxS l (a + 1))
    refine Af Tryz.func189 rfl rfl (Nat.le_of_ble_eq_true rfl) rfl (Nat.le_refl _) ?_
    repeat' (first | refine rl0 ?_ | refine rs0 (fun h => ?_) (fun h => ?_) | fail)
    refine wb1 0 (Aj hl h) ?_
    repeat' (first | refine rl0 ?_ | refine rs0 (fun h => ?_) (fun h => ?_) | fail)
    refine wb1 0 (As hl h2) ?_
    repeat' (first | refine rl0 ?_ | refine rs0 (fun h => ?_) (fun h => ?_) | fail)
    refine D3 (Vb 3) rfl rfl rfl rfl rfl (by repeat (first | exact Ad | refine Aa (Ab _) ?_)) ?_
    repeat' (first | refine rl0 ?_ | refine rs0 (fun h => ?_) (fun h => ?_) | fail)
    rfl
  | false =>
  rw [if_neg (by simp)]
  cases h3 : Ba l a Jg with
  | true =>
    rw [if_pos rfl]
    show An _ _ _ (.ret (exP (nd 4 []))) (pxS l (a + 1))
    refine Af Tryz.func189 rfl rfl (Nat.le_of_ble_eq_true rfl) rfl (Nat.le_refl _) ?_
    repeat' (first | refine rl0 ?_ | refine rs0 (fun h => ?_) (fun h => ?_) | fail)
    refine wb1 0 (Aj hl h) ?_
    repeat' (first | refine rl0 ?_ | refine rs0 (fun h => ?_) (fun h => ?_) | fail)
    refine wb1 0 (Aj hl h2) ?_
    repeat' (first | refine rl0 ?_ | refine rs0 (fun h => ?_) (fun h => ?_) | fail)
    refine wb1 0 (As hl h3) ?_
    repeat' (first | refine rl0 ?_ | refine rs0 (fun h => ?_) (fun h => ?_) | fail)
    refine D3 (Vb 4) rfl rfl rfl rfl rfl (by repeat (first | exact Ad | refine Aa (Ab _) ?_)) ?_
    repeat' (first | refine rl0 ?_ | refine rs0 (fun h => ?_) (fun h => ?_) | fail)
    rfl
  | false =>
  rw [if_neg (by simp)]
  cases h4 : Ba l a Ik with
  | true =>
    rw [if_pos rfl]
    have h0 := Bs h4
    have g1 : Gs 71 [.ptr 0 0] l (a + 1) (pE l n 0 (a + 1)) := ih 0 (a + 1) (by omega) (by omega) h0 (by simp [A5]; omega)
    generalize pE l n 0 (a + 1) = p at g1 |-
    cases hb : p.bad with
    | true =>
      rw [Bu hb]
      show An _ _ _ (.panic Fv) (pxS l p.at')
      refine A1 Tryz.func189 rfl rfl (Nat.le_of_ble_eq_true rfl) ?_
      repeat' (first | refine rl0 ?_ | refine rs0 (fun h => ?_) (fun h => ?_) | fail)
      refine wb1 0 (Aj hl h) ?_
      repeat' (first | refine rl0 ?_ | refine rs0 (fun h => ?_) (fun h => ?_) | fail)
      refine wb1 0 (Aj hl h2) ?_
      repeat' (first | refine rl0 ?_ | refine rs0 (fun h => ?_) (fun h => ?_) | fail)
      refine wb1 0 (Aj hl h3) ?_
      repeat' (first | refine rl0 ?_ | refine rs0 (fun h => ?_) (fun h => ?_) | fail)
      refine wb1 0 (As hl h4) ?_
      repeat' (first | refine rl0 ?_ | refine rs0 (fun h => ?_) (fun h => ?_) | fail)
      refine Jy 0 (g1.no hb) ?_
      exact ⟨rfl, rfl, rfl⟩
    | false =>
    rw [Cu hb]
    have g1 := g1.ok hb
    cases h5 : Ba l p.at' Hl with
    | false =>
      rw [E3 h5]
      show An _ _ _ (.panic Fv) (pxS l p.at')
      refine A1 Tryz.func189 rfl rfl (Nat.le_of_ble_eq_true rfl) ?_
      repeat' (first | refine rl0 ?_ | refine rs0 (fun h => ?_) (fun h => ?_) | fail)
      refine wb1 0 (Aj hl h) ?_
      repeat' (first | refine rl0 ?_ | refine rs0 (fun h => ?_) (fun h => ?_) | fail)
      refine wb1 0 (Aj hl h2) ?_
      repeat' (first | refine rl0 ?_ | refine rs0 (fun h => ?_) (fun h => ?_) | fail)
      refine wb1 0 (Aj hl h3) ?_
      repeat' (first | refine rl0 ?_ | refine rs0 (fun h => ?_) (fun h => ?_) | fail)
      refine wb1 0 (As hl h4) ?_
      repeat' (first | refine rl0 ?_ | refine rs0 (fun h => ?_) (fun h => ?_) | fail)
      refine wb1 0 g1 ?_
      repeat' (first | refine rl0 ?_ | refine rs0 (fun h => ?_) (fun h => ?_) | fail)
      refine Jy 0 (Fg hl h5) ?_
      exact ⟨rfl, rfl, rfl⟩
    | true =>
    rw [E4 h5]
    show An _ _ _ (.ret (exP p.x)) (pxS l (p.at' + 1))
    refine Af Tryz.func189 rfl rfl (Nat.le_of_ble_eq_true rfl) rfl (Nat.le_refl _) ?_
    repeat' (first | refine rl0 ?_ | refine rs0 (fun h => ?_) (fun h => ?_) | fail)
    refine wb1 0 (Aj hl h) ?_
    repeat' (first | refine rl0 ?_ | refine rs0 (fun h => ?_) (fun h => ?_) | fail)
    refine wb1 0 (Aj hl h2) ?_
    repeat' (first | refine rl0 ?_ | refine rs0 (fun h => ?_) (fun h => ?_) | fail)
    refine wb1 0 (Aj hl h3) ?_
    repeat' (first | refine rl0 ?_ | refine rs0 (fun h => ?_) (fun h => ?_) | fail)
    refine wb1 0 (As hl h4) ?_
    repeat' (first | refine rl0 ?_ | refine rs0 (fun h => ?_) (fun h => ?_) | fail)
    refine wb1 0 g1 ?_
    repeat' (first | refine rl0 ?_ | refine rs0 (fun h => ?_) (fun h => ?_) | fail)
    refine wb1 0 (C1 hl h5) ?_
    repeat' (first | refine rl0 ?_ | refine rs0 (fun h => ?_) (fun h => ?_) | fail)
    rfl
  | false =>
  rw [if_neg (by simp)]
  unfold Jm
  cases ht : l[a]? with
  | none =>
    have h5 : l.length <= a := List.getElem?_eq_none_iff.1 ht
    show An _ _ _ (.panic Fv) (pxS l a)
    refine A1 Tryz.func189 rfl rfl (Nat.le_of_ble_eq_true rfl) ?_
    repeat' (first | refine rl0 ?_ | refine rs0 (fun h => ?_) (fun h => ?_) | fail)
    refine wb1 0 (Aj hl h) ?_
    repeat' (first | refine rl0 ?_ | refine rs0 (fun h => ?_) (fun h => ?_) | fail)
    refine wb1 0 (Aj hl h2) ?_
    repeat' (first | refine rl0 ?_ | refine rs0 (fun h => ?_) (fun h => ?_) | fail)
    refine wb1 0 (Aj hl h3) ?_
    repeat' (first | refine rl0 ?_ | refine rs0 (fun h => ?_) (fun h => ?_) | fail)
    refine wb1 0 (Aj hl h4) ?_
    repeat' (first | refine rl0 ?_ | refine rs0 (fun h => ?_) (fun h => ?_) | fail)
    . refine Gu rfl (G0 rfl rfl) ?_
      exact ⟨rfl, rfl, rfl⟩
    . exfalso; simp at h; omega
  | some t =>
    have h5 : a < l.length := (List.getElem?_eq_some_iff.1 ht).1
    show Gs _ _ l a (Gf t a)
    unfold Gf
    by_cases e1 : t.1 = 1
    . rw [if_pos e1]
      show An _ _ _ (.ret (exP (.mk 2 0 t.2.1 []))) (pxS l (a + 1))
      refine A4 (r' := .agg [Ai 2, Ai 0, By t.2.1, .d (.v (.slice none 0 0))]) ?_ (by repeat' (first | exact Ad | refine Aa ?_ ?_ | exact Bo | exact Ab _ | refine A9 ?_ | refine Bh ?_))
      refine Af Tryz.func189 rfl rfl (Nat.le_of_ble_eq_true rfl) rfl (Nat.le_refl _) ?_
      repeat' (first | refine rl0 ?_ | refine rs0 (fun h => ?_) (fun h => ?_) | fail)
      refine wb1 0 (Aj hl h) ?_
      repeat' (first | refine rl0 ?_ | refine rs0 (fun h => ?_) (fun h => ?_) | fail)
      refine wb1 0 (Aj hl h2) ?_
      repeat' (first | refine rl0 ?_ | refine rs0 (fun h => ?_) (fun h => ?_) | fail)
      refine wb1 0 (Aj hl h3) ?_
      repeat' (first | refine rl0 ?_ | refine rs0 (fun h => ?_) (fun h => ?_) | fail)
      refine wb1 0 (Aj hl h4) ?_
      repeat' (first | refine rl2 ?_ | refine rs2 (fun h => ?_) (fun h => ?_) | fail)
      refine q9 ?_
      repeat' (first | refine rl2 ?_ | refine rs2 (fun h => ?_) (fun h => ?_) | fail)
      . exfalso; simp at h; omega
      refine b0 (fun k => Nat.beq k 12 || Nat.beq k 13) [(4, [0]), (9, [0])] ?_
      repeat' (first | refine rl7 ?_ | refine rs7 (fun h => ?_) (fun h => ?_) | fail)
      refine Tk _ (B4 ht) (by omega) ?_
      repeat' (first | refine rl7 ?_ | refine rs7 (fun h => ?_) (fun h => ?_) | fail)
      . repeat' (first | refine rl0 ?_ | refine rs0 (fun h => ?_) (fun h => ?_) | fail)
        . rfl
        all_goals (exfalso; simp_all)
    . rw [if_neg e1]
      by_cases e3 : t.1 = 3
      . rw [if_pos e3]
        obtain ⟨hs, k, hk⟩ := hnum t (List.mem_of_getElem? ht) e3
        have hno : Lv t.2.1 = k := by unfold Lv; rw [hk]; rfl
        rw [hno]
        show An _ _ _ (.ret (exP (.mk 1 k ⟨#[]⟩ []))) (pxS l (a + 1))
        refine A4 (r' := .agg [Ai 1, Ai k, By ⟨#[]⟩, .d (.v (.slice none 0 0))]) ?_ (by repeat' (first | exact Ad | refine Aa ?_ ?_ | exact Bo | exact Ab _ | refine A9 ?_ | refine Bh ?_))
        refine Af Tryz.func189 rfl rfl (Nat.le_of_ble_eq_true rfl) rfl (Nat.le_refl _) ?_
        repeat' (first | refine rl0 ?_ | refine rs0 (fun h => ?_) (fun h => ?_) | fail)
        refine wb1 0 (Aj hl h) ?_
        repeat' (first | refine rl0 ?_ | refine rs0 (fun h => ?_) (fun h => ?_) | fail)
        refine wb1 0 (Aj hl h2) ?_
        repeat' (first | refine rl0 ?_ | refine rs0 (fun h => ?_) (fun h => ?_) | fail)
        refine wb1 0 (Aj hl h3) ?_
        repeat' (first | refine rl0 ?_ | refine rs0 (fun h => ?_) (fun h => ?_) | fail)
        refine wb1 0 (Aj hl h4) ?_
        repeat' (first | refine rl2 ?_ | refine rs2 (fun h => ?_) (fun h => ?_) | fail)
        refine q9 ?_
        repeat' (first | refine rl2 ?_ | refine rs2 (fun h => ?_) (fun h => ?_) | fail)
        . exfalso; simp at h; omega
        refine b0 (fun k => Nat.beq k 12 || Nat.beq k 13) [(4, [0]), (9, [0])] ?_
        repeat' (first | refine rl7 ?_ | refine rs7 (fun h => ?_) (fun h => ?_) | fail)
        refine Tk _ (B4 ht) (by omega) ?_
        repeat' (first | refine rl7 ?_ | refine rs7 (fun h => ?_) (fun h => ?_) | fail)
        . repeat' (first | refine rl0 ?_ | refine rs0 (fun h => ?_) (fun h => ?_) | fail)
          . exfalso; simp_all
          . refine wp1 (V4 t.2.1 k hs hk) ?_
            repeat' (first | refine rl0 ?_ | refine rs0 (fun h => ?_) (fun h => ?_) | fail)
            rfl
          . exfalso; simp_all
      . rw [if_neg e3]
        show An _ _ _ (.panic Fv) (pxS l a)
        refine A1 Tryz.func189 rfl rfl (Nat.le_of_ble_eq_true rfl) ?_
        repeat' (first | refine rl0 ?_ | refine rs0 (fun h => ?_) (fun h => ?_) | fail)
        refine wb1 0 (Aj hl h) ?_
        repeat' (first | refine rl0 ?_ | refine rs0 (fun h => ?_) (fun h => ?_) | fail)
        refine wb1 0 (Aj hl h2) ?_
        repeat' (first | refine rl0 ?_ | refine rs0 (fun h => ?_) (fun h => ?_) | fail)
        refine wb1 0 (Aj hl h3) ?_
        repeat' (first | refine rl0 ?_ | refine rs0 (fun h => ?_) (fun h => ?_) | fail)
        refine wb1 0 (Aj hl h4) ?_
        repeat' (first | refine rl2 ?_ | refine rs2 (fun h => ?_) (fun h => ?_) | fail)
        refine q9 ?_
        repeat' (first | refine rl2 ?_ | refine rs2 (fun h => ?_) (fun h => ?_) | fail)
        . exfalso; simp at h; omega
        refine b0 (fun k => Nat.beq k 12 || Nat.beq k 13) [(4, [0]), (9, [0])] ?_
        repeat' (first | refine rl7 ?_ | refine rs7 (fun h => ?_) (fun h => ?_) | fail)
        refine Tk _ (B4 ht) (by omega) ?_
        repeat' (first | refine rl7 ?_ | refine rs7 (fun h => ?_) (fun h => ?_) | fail)
        . repeat' (first | refine rl0 ?_ | refine rs0 (fun h => ?_) (fun h => ?_) | fail)
          . exfalso; simp_all
          . exfalso; simp_all
          . refine Gu rfl (G0 rfl rfl) ?_
            exact ⟨rfl, rfl, rfl⟩
end Go.Proofs.YtiledamgmppcmaaGreatDoor
namespace Go.Proofs.YtiledamgmppcmaaGreatDoor
open Go.RowKit
theorem Vi {l : List TkZ} (hl : l.length <= 9223372036854775806) (hnum : P5 l) : ∀ n, Q6 l n := by
  intro n
  induction n using Nat.strongRecOn with
  | ind n ih =>
    intro m a hm h4 ha hn
    cases n with
    | zero =>
      exfalso
      have : 2 <= A5 m := by unfold A5; split <;> omega
      omega
    | succ n =>
      have ihn := ih n (Nat.lt_succ_self n)
      have hc : m = 0 \/ m = 3 \/ m = 7 \/ m = 1 \/ m = 2 \/ m = 5 \/ m = 6 := by omega
      rcases hc with rfl | rfl | rfl | hm
      . exact Ql hl ihn ha hn
      . exact Vj hl ihn ha hn
      . exact K9 hl hnum ihn ha hn
      . have h := M2 hl (fun k hk => ih k (by omega)) hm ha hn
        have e1 : fnM m = 112 := by rcases hm with rfl | rfl | rfl | rfl <;> rfl
        have e2 : Aia m = [.ptr 0 0, Ai m] := by rcases hm with rfl | rfl | rfl | rfl <;> rfl
        rw [e1, e2]; exact h
theorem K7 {rows : List (List DV)} {a : Int} (h0 : a < 0 \/ (rows.length : Int) < a) : An 29 [.d (.sl 3 rows), Ai a] ⟨[], []⟩ (.ret (.tup [exP .nil, Ai 0, Ai 2])) ⟨[], []⟩ := by
  refine A4 (r' := .tup [.agg D4, Ai 0, Ai 2]) ?_ (by repeat' (first | exact Ad | refine Aa ?_ ?_ | exact Bo | exact Ab _ | refine A9 ?_ | refine Bh ?_))
  refine ⟨enters_of Tryz.func29 rfl rfl, Dm H5 Tryz.func29 rfl (Nat.le_of_ble_eq_true rfl) rfl (Nat.le_refl _) ?_⟩
  refine Av (Bv ?_)
  repeat' (first | refine rl0 ?_ | refine rs0 (fun h => ?_) (fun h => ?_) | fail)
  refine Av (Bv ?_)
  repeat' (first | refine rl0 ?_ | refine rs0 (fun h => ?_) (fun h => ?_) | fail)
  . exact ⟨none, .inl ⟨rfl, .inr rfl⟩, _, rfl, rfl, rfl, .inr rfl, _, B6 rfl, rfl, rfl⟩
  . exact ⟨none, .inl ⟨rfl, .inr rfl⟩, _, rfl, rfl, rfl, .inr rfl, _, B6 rfl, rfl, rfl⟩
  . exfalso; simp_all; omega
theorem K8 {rows : List (List DV)} {a i : Int} (h0 : 0 <= a /\ a <= rows.length) (hi : 0 <= i) (hidx : An 67 [.d (.sl 3 rows), .fn 68 []] ⟨[], []⟩ (.ret (Ai i)) ⟨[], []⟩) : An 29 [.d (.sl 3 rows), Ai a] ⟨[], []⟩ (.ret (.tup [exP .nil, Ai i, Ai 350])) ⟨[], []⟩ := by
  refine A4 (r' := .tup [.agg D4, Ai i, Ai 350]) ?_ (by repeat' (first | exact Ad | refine Aa ?_ ?_ | exact Bo | exact Ab _ | refine A9 ?_ | refine Bh ?_))
  refine ⟨enters_of Tryz.func29 rfl rfl, Dm H5 Tryz.func29 rfl (Nat.le_of_ble_eq_true rfl) rfl (Nat.le_refl _) ?_⟩
  refine Av (Bv ?_)
  repeat' (first | refine rl0 ?_ | refine rs0 (fun h => ?_) (fun h => ?_) | fail)
  refine Av (Bv ?_)
  repeat' (first | refine rl0 ?_ | refine rs0 (fun h => ?_) (fun h => ?_) | fail)
  . exfalso; simp at h; omega
  . exfalso; simp at h; omega
  refine Av (Bv ?_)
  repeat' (first | refine rl0 ?_ | refine rs0 (fun h => ?_) (fun h => ?_) | fail)
  refine D3 hidx rfl rfl rfl rfl rfl (by repeat (first | exact Ad | refine Aa (Ab _) ?_)) ?_
  repeat' (first | refine rl0 ?_ | refine rs0 (fun h => ?_) (fun h => ?_) | fail)
  . exact ⟨none, .inl ⟨rfl, .inr rfl⟩, _, rfl, rfl, rfl, .inr rfl, _, B6 rfl, rfl, rfl⟩
  . exfalso; simp at h; omega
theorem I5 {rows : List (List DV)} {a n : Int} {x : Ex} (h0 : 0 <= a /\ a <= rows.length) (hidx : An 67 [.d (.sl 3 rows), .fn 68 []] ⟨[], []⟩ (.ret (Ai (-1))) ⟨[], []⟩)
    (hx : An 71 [.ptr 0 0] (paK rows a) (.ret (exP x)) (paK rows n)) (hs : x.small) (hc : Bg x ≠ 0) : An 29 [.d (.sl 3 rows), Ai a] ⟨[], []⟩ (.ret (.tup [exP .nil, Ai a, Ai 3])) ⟨[], []⟩ := by
  have hchk := F7 x hs
  refine A4 (r' := .tup [.agg D4, Ai a, Ai 3]) ?_ (by repeat' (first | exact Ad | refine Aa ?_ ?_ | exact Bo | exact Ab _ | refine A9 ?_ | refine Bh ?_))
  refine ⟨enters_of Tryz.func29 rfl rfl, Dm H5 Tryz.func29 rfl (Nat.le_of_ble_eq_true rfl) rfl (Nat.le_refl _) ?_⟩
  refine Av (Bv ?_)
  repeat' (first | refine rl0 ?_ | refine rs0 (fun h => ?_) (fun h => ?_) | fail)
  refine Av (Bv ?_)
  repeat' (first | refine rl0 ?_ | refine rs0 (fun h => ?_) (fun h => ?_) | fail)
  . exfalso; simp at h; omega
  . exfalso; simp at h; omega
  refine Av (Bv ?_)
  repeat' (first | refine rl0 ?_ | refine rs0 (fun h => ?_) (fun h => ?_) | fail)
  refine D3 hidx rfl rfl rfl rfl rfl (by repeat (first | exact Ad | refine Aa (Ab _) ?_)) ?_
  repeat' (first | refine rl0 ?_ | refine rs0 (fun h => ?_) (fun h => ?_) | fail)
  refine Av (Bv ?_)
  repeat' (first | refine rl0 ?_ | refine rs0 (fun h => ?_) (fun h => ?_) | fail)
  refine Av (L7 rfl rfl rfl rfl rfl rfl (by decide) ?_)
  refine Av (Bv ?_)
  repeat' (first | refine rl0 ?_ | refine rs0 (fun h => ?_) (fun h => ?_) | fail)
  refine wcb (id := 3) hx rfl rfl rfl rfl rfl rfl rfl rfl (by repeat (first | exact Ad | refine Aa (Ab _) ?_)) rfl ?_
  repeat' (first | refine rl0 ?_ | refine rs0 (fun h => ?_) (fun h => ?_) | fail)
  refine Av (Bv ?_)
  repeat' (first | refine rl0 ?_ | refine rs0 (fun h => ?_) (fun h => ?_) | fail)
  refine D3 hchk rfl rfl rfl rfl rfl (by repeat (first | exact Ad | refine Aa (Ab _) ?_)) ?_
  repeat' (first | refine rl0 ?_ | refine rs0 (fun h => ?_) (fun h => ?_) | fail)
  . exact ⟨none, .inl ⟨rfl, .inr rfl⟩, ⟨_, Tryz.func70, rfl, rfl⟩, _, Pq _ _ _ _ (.v (.bool true)) _ _ _ _, _, rfl, rfl, rfl, .inr rfl, _, B6 rfl, rfl, rfl⟩
  . exfalso; simp at h; omega
def De (l : List TkZ) (a : Int) : Ex × Int × Int :=
  if a < 0 \/ (l.length : Int) < a then (.nil, 0, 2)
  else if Fr l ≠ -1 then (.nil, Fr l, 350)
  else let p := D1 l a.toNat
    if p.bad = true then (.nil, p.at', 350) else if Bg p.x = 0 then (p.x, p.at', 0) else (.nil, a, 3)
end Go.Proofs.YtiledamgmppcmaaGreatDoor
namespace Go.Proofs.YtiledamgmppcmaaGreatDoor
open Go.RowKit
theorem Cb {op : Int} {l : List Ex} (h : Ih l) : (nd op l).small := ⟨Nat.zero_le _, h⟩
theorem Bk {p : PRes} {f : Ex -> Nat -> PRes} (h : p.x.small) (hf : ∀ x b, x.small -> (f x b).x.small) : (p.go f).x.small := by
  unfold PRes.go
  split
  . exact ⟨Nat.zero_le _, trivial⟩
  . exact hf _ _ h
theorem Di {l : List TkZ} {a : Nat} {s : ByteArray} {f : Nat -> PRes} (hf : ∀ b, (f b).x.small) : (Ct l a s f).x.small := by
  unfold Ct
  split
  . exact hf _
  . exact ⟨Nat.zero_le _, trivial⟩
theorem Da : Ex.nil.small := ⟨Nat.zero_le _, trivial⟩
theorem G1 {l : List TkZ} (hs : ∀ t ∈ l, t.2.1.size <= 9223372036854775807) : ∀ n, (∀ m a, (pE l n m a).x.small) /\ ∀ m x a, x.small -> (pR l n m x a).x.small
  | 0 => ⟨fun m a => by rw [pE]; exact Da, fun m x a _ => by rw [pR]; exact Da⟩
  | n + 1 => by
    obtain ⟨h1, h2⟩ := G1 hs n
    refine ⟨fun m a => ?_, fun m x a hx => ?_⟩
    . by_cases e0 : m = 0
      . subst e0
        rw [pE]
        split
        . exact Bk (h1 _ _) fun x b hx => Di fun b => Bk (h1 _ _) fun y c hy => Di fun c => Bk (h1 _ _) fun z d hz => Cb ⟨hx, hy, hz, trivial⟩
        . exact h1 _ _
      by_cases e3 : m = 3
      . subst e3
        rw [pE]
        split
        . exact Bk (h1 _ _) fun x b hx => Cb ⟨hx, trivial⟩
        . refine Bk (h1 _ _) fun x b hx => ?_
          split
          . exact Bk (h1 _ _) fun y c hy => Cb ⟨hx, hy, trivial⟩
          . exact hx
      by_cases e7 : m = 7
      . subst e7
        rw [pE]
        split
        . exact Bk (h1 _ _) fun x b hx => Cb ⟨hx, trivial⟩
        split
        . exact Cb trivial
        split
        . exact Cb trivial
        split
        . exact Bk (h1 _ _) fun x b hx => Di fun c => hx
        unfold Jm
        split
        . exact Da
        . rename_i t ht
          have := hs t (List.mem_of_getElem? ht)
          unfold Gf
          split
          . exact ⟨this, trivial⟩
          . split
            . exact ⟨Nat.zero_le _, trivial⟩
            . exact Da
      rw [Dz l n m a e0 e3 e7]
      exact Bk (h1 _ _) fun x b hx => h2 _ _ _ hx
    . rw [pR]
      split
      . exact hx
      . exact Bk (h1 _ _) fun y c hy => h2 _ _ _ (Cb ⟨hx, hy, trivial⟩)
theorem Eg {b : UInt8} (h : Bi b = true) : 48 <= b.toNat /\ b.toNat <= 57 := by
  simp only [Bi, Bool.and_eq_true, decide_eq_true_eq] at h
  omega
def O3 (acc : Nat) (l : List UInt8) : Nat := l.foldl (fun n b => n * 10 + (b.toNat - 48)) acc
theorem Kh : ∀ (l : List UInt8) (acc : Nat), l.all Bi = true -> Lib.decFrom acc l = some (O3 acc l)
  | [], acc, _ => rfl
  | b :: r, acc, h => by
    simp only [List.all_cons, Bool.and_eq_true] at h
    obtain ⟨h1, h2⟩ := Eg h.1
    rw [Lib.decFrom, Lib.digitVal, if_pos ⟨h1, h2⟩]
    simp only []
    rw [Kh r _ h.2]; rfl
theorem D7 {l : List UInt8} (h : Bl l = true) : l.length <= 4 /\ l.all Bi = true /\ Lib.atoi l = some ((O3 0 l : Nat) : Int) := by
  simp only [Bl, Bool.and_eq_true, Bool.or_eq_true] at h
  obtain ⟨h1, h2⟩ := h
  have hl : l.length <= 4 /\ l ≠ [] := by
    rcases h2 with h2 | h2
    . have : l = [48] := by simpa using h2
      subst this; simp
    . simp only [decide_eq_true_eq, Bool.not_eq_true'] at h2
      refine ⟨h2.2, fun e => ?_⟩
      subst e; simp at h2
  refine ⟨hl.1, h1, ?_⟩
  cases l with
  | nil => exact absurd rfl hl.2
  | cons b r =>
    have h3 := h1
    simp only [List.all_cons, Bool.and_eq_true] at h3
    obtain ⟨h4, h5⟩ := Eg h3.1
    have e1 : (b == 45) = false := by rw [beq_eq_false_iff_ne]; rintro rfl; simp at h4
    have e2 : (b == 43) = false := by rw [beq_eq_false_iff_ne]; rintro rfl; simp at h4
    simp only [Lib.atoi, e1, e2, Bool.false_eq_true, if_false]
    unfold Lib.decNat
    rw [Kh _ _ h1]; rfl
theorem Ff {l : List TkZ} (h : Fr l = -1) : ∀ t ∈ l, B5 t.1 t.2.1.data.toList t.2.2 = 0 := by
  unfold Fr at h
  cases e : l.findIdx? Xg with
  | some i => rw [e] at h; simp at h
  | none =>
    rw [List.findIdx?_eq_none_iff] at e
    intro t ht
    have := e t ht
    unfold Xg at this
    simpa using this
theorem Iq (l : List TkZ) : Fr l = -1 \/ 0 <= Fr l := by
  unfold Fr
  cases l.findIdx? Xg with
  | none => exact .inl rfl
  | some i => exact .inr (by simp)
theorem Vd {l : List TkZ} (h : Fr l = -1) : P5 l := fun t ht h3 => by
  have h1 := Ff h t ht
  have h2 : Bl t.2.1.data.toList = true := by
    unfold B5 at h1
    split at h1
    . cases h1
    . rename_i hn
      have : Ay t.1 t.2.1.data.toList = true := by
        cases hb : Ay t.1 t.2.1.data.toList with
        | true => rfl
        | false => exact absurd (.inr (.inr hb)) hn
      rw [Ep, if_neg (by omega), if_neg (by omega), if_pos h3] at this
      exact this
  obtain ⟨a1, a2, a3⟩ := D7 h2
  have e : t.2.1.data.toList.length = t.2.1.size := by simp
  exact ⟨by omega, _, a3⟩
theorem M1 (l : List TkZ) (a : Int) (hl : l.length <= 9223372036854775806) (hs : ∀ t ∈ l, t.2.1.size <= 9223372036854775807) : An 29 [Ll l, Ai a] ⟨[], []⟩ (.ret (.tup [exP (De l a).1, Ai (De l a).2.1, Ai (De l a).2.2])) ⟨[], []⟩ := by
  have hlen : (l.map tkR).length = l.length := by simp
  unfold De
  by_cases h0 : a < 0 \/ (l.length : Int) < a
  . rw [if_pos h0]
    exact K7 (by rw [hlen]; exact h0)
  rw [if_neg h0]
  have h0' : 0 <= a /\ a <= (l.map tkR).length := by rw [hlen]; omega
  have hi := Yr l hs
  by_cases h1 : Fr l ≠ -1
  . rw [if_pos h1]
    exact K8 h0' ((Iq l).resolve_left h1) hi
  rw [if_neg h1]
  have h1' : Fr l = -1 := by omega
  rw [h1'] at hi
  obtain ⟨k, rfl⟩ := Int.eq_ofNat_of_zero_le h0'.1
  have hk : k <= l.length := by omega
  have g : Gs 71 [.ptr 0 0] l k (D1 l k) := Vi hl (Vd h1') _ 0 k (by omega) (by omega) hk (by simp [A5])
  have hsm : (D1 l k).x.small := (G1 hs _).1 _ _
  simp only [Int.toNat_natCast]
  cases hb : (D1 l k).bad with
  | true =>
    rw [if_pos rfl]
    exact Pp h0' hi (g.no hb)
  | false =>
    rw [if_neg (by simp)]
    have g := g.ok hb
    by_cases hc : Bg (D1 l k).x = 0
    . rw [if_pos hc]
      exact S9 h0' hi g hsm hc
    . rw [if_neg hc]
      exact I5 h0' hi g hsm hc
end Go.Proofs.YtiledamgmppcmaaGreatDoor
namespace Go.Proofs.YtiledamgmppcmaaGreatDoor
open Go.RowKit
theorem Nx (n f : Nat) (l : List UInt8) (acc : List Tok) (h : acc.length <= 2000) : (Cv n f l acc).1.length <= 2000 := by
  induction f generalizing l acc with
  | zero => simpa [Cv] using h
  | succ f ih =>
    rw [Cv]
    split
    . exact h
    . split
      . simp
      . split
        . simp
        . rename_i h3
          exact ih _ _ (by rw [List.length_append]; simp; omega)
theorem Ny (l : List UInt8) : (Cn l).1.length <= 2000 := by
  unfold Cn
  split
  . simp
  . exact Nx _ _ _ _ (by simp)
end Go.Proofs.YtiledamgmppcmaaGreatDoor
namespace Go.Proofs.YtiledamgmppcmaaGreatDoor
open Go.RowKit
def Tm (r : List UInt8) : Prop := r = [] \/ ∃ c t, r = c :: t /\ (c = 32 \/ c = 10 \/ c = 35)
theorem Kk {c : UInt8} (h : c = 32 \/ c = 10 \/ c = 35) : B9 c = false := by
  rcases h with rfl | rfl | rfl <;> decide
theorem Ds {x r : List UInt8} (hx : x.all B9 = true) (hr : Tm r) : (x ++ r).takeWhile B9 = x := by
  induction x with
  | nil =>
    rcases hr with rfl | ⟨c, t, rfl, hc⟩
    . rfl
    . simp [Kk hc]
  | cons a x ih =>
    simp only [List.all_cons, Bool.and_eq_true] at hx
    rw [List.cons_append, List.takeWhile_cons, if_pos hx.1, ih hx.2]
theorem O9 {c : UInt8} (h : Bi c = true) : B9 c = true := by simp [B9, h]
theorem H1 {c : UInt8} (h : Bi c = true) : B7 c = false := by
  simp only [Bi, Bool.and_eq_true, decide_eq_true_eq] at h
  exact Ht (by omega)
theorem Ul {l : List UInt8} {p q : UInt8 -> Bool} (h : ∀ c, p c = true -> q c = true) (hl : l.all p = true) : l.all q = true := by
  rw [List.all_eq_true] at hl |-
  exact fun c hc => h c (hl c hc)
theorem Eo {zs : List (List UInt8)} {l : List UInt8} : Oi zs l = true <-> l ∈ zs := by
  unfold Oi
  rw [List.any_eq_true]
  constructor
  . rintro ⟨y, hy, h⟩
    have : l = y := by simpa using h
    rwa [this]
  . intro h; exact ⟨l, h, by simp⟩
theorem Iz {l : List UInt8} (h : Oi Cs l = true) : l.all B9 = true /\ (l.head?.map B7).getD false = true := by
  have key : (Cs.all fun l => l.all B9 && (l.head?.map B7).getD false) = true := by decide +kernel
  rw [List.all_eq_true] at key
  have := key l (Eo.1 h)
  simpa using this
theorem Ie {x r : List UInt8} (h : x ≠ []) : (x ++ r).head? = x.head? := by
  cases x with | nil => exact absurd rfl h | cons a x => rfl
theorem R6 {x r : List UInt8} (hx : Oi Bz x = true) (hr : Tm r) : Dk (x ++ r) = (4, x) := by
  have hx' := Eo.1 hx
  have key : ∀ c : UInt8, (c = 32 \/ c = 10 \/ c = 35) -> (Bz.all fun x => ((x.head?.map B7).getD false == false) && ((x.head?.map Bi).getD false == false) && ((x.length == 1 && Oi Bz (x ++ [c]) == false && Oi Bz x) || (x.length == 2))) = true := by
    rintro c (rfl | rfl | rfl) <;> decide +kernel
  have hne : x ≠ [] := by rintro rfl; revert hx; decide
  rcases hr with rfl | ⟨c, t, rfl, hc⟩
  . have h := List.all_eq_true.1 (key 32 (.inl rfl)) x hx'
    simp only [Bool.and_eq_true, Bool.or_eq_true, beq_iff_eq] at h
    obtain ⟨⟨h1, h2⟩, h3⟩ := h
    rw [List.append_nil, Dk, h1, h2, if_neg (by simp), if_neg (by simp)]
    have hlen : x.length <= 2 := by rcases h3 with ⟨⟨h3, _⟩, _⟩ | h3 <;> omega
    rw [List.take_of_length_le hlen, if_pos hx]
  . have h := List.all_eq_true.1 (key c hc) x hx'
    simp only [Bool.and_eq_true, Bool.or_eq_true, beq_iff_eq] at h
    obtain ⟨⟨h1, h2⟩, h3⟩ := h
    rw [Dk, Ie hne, h1, h2, if_neg (by simp), if_neg (by simp)]
    rcases h3 with ⟨⟨h3, h4⟩, h5⟩ | h3
    . obtain ⟨a, rfl⟩ : ∃ a, x = [a] := by
        cases x with
        | nil => simp at h3
        | cons a y => cases y with | nil => exact ⟨a, rfl⟩ | cons => simp at h3
      have e2 : ([a] ++ c :: t).take 2 = [a] ++ [c] := by simp
      have e1 : ([a] ++ c :: t).take 1 = [a] := by simp
      rw [e2, h4, e1]; simp
    . have e2 : (x ++ c :: t).take 2 = x := by rw [List.take_append_of_le_length (by omega), List.take_of_length_le (by omega)]
      rw [e2, if_pos hx]
theorem Mg {kd : Int} {x r : List UInt8} (h : Ay kd x = true) (hr : Tm r) : Dk (x ++ r) = (kd, x) := by
  have hne := Ek h
  unfold Ay at h
  split at h
  . rename_i hk; subst hk
    have hp := h
    simp only [Ei, Qx, Bool.and_eq_true] at hp
    obtain ⟨⟨⟨h1, h2⟩, h3⟩, h4⟩ := hp
    rw [Dk, Ie hne, if_pos h2, Ds h1 hr]
    simp only [Bool.not_eq_true'] at h4
    rw [h4]; simp
  . split at h
    . rename_i hk; subst hk
      obtain ⟨h1, h2⟩ := Iz h
      rw [Dk, Ie hne, if_pos h2, Ds h1 hr, h]; simp
    . split at h
      . rename_i hk; subst hk
        have hp := h
        simp only [Bl, Bool.and_eq_true] at hp
        obtain ⟨h1, _⟩ := hp
        cases x with
        | nil => exact absurd rfl hne
        | cons c y =>
          have hc : Bi c = true := by simp only [List.all_cons, Bool.and_eq_true] at h1; exact h1.1
          have e1 : ((c :: y).head?.map B7).getD false = false := by simpa using H1 hc
          have e2 : ((c :: y).head?.map Bi).getD false = true := by simpa using hc
          rw [Dk, Ie hne, e1, e2, if_neg (by simp), if_pos rfl, Ds (Ul (fun _ => O9) h1) hr]
      . split at h
        . rename_i hk; subst hk
          exact R6 h hr
        . cases h
theorem Nv {kd : Int} {c : UInt8} {x : List UInt8} (h : Ay kd (c :: x) = true) : c ≠ 32 /\ c ≠ 10 /\ c ≠ 35 := by
  refine ⟨?_, ?_, ?_⟩ <;> rintro rfl
  all_goals
    unfold Ay at h
    split at h
    . simp only [Ei, Qx, Bool.and_eq_true] at h
      have := h.1.1.2
      revert this; simp; decide
    . split at h
      . have := (Iz h).2
        revert this; simp; decide
      . split at h
        . simp only [Bl, Bool.and_eq_true, List.all_cons] at h
          have := h.1.1
          revert this; decide
        . split at h
          . have key : (Bz.all fun x => (x.head? != some 32) && (x.head? != some 10) && (x.head? != some 35)) = true := by decide +kernel
            have := List.all_eq_true.1 key _ (Eo.1 h)
            revert this; simp
          . cases h
theorem J9 {kd : Int} {x r : List UInt8} (h : Ay kd x = true) : Bb false (x ++ r) = x ++ r := by
  cases x with
  | nil => exact absurd rfl (Ek h)
  | cons c x =>
    obtain ⟨h1, h2, h3⟩ := Nv h
    simp [Bb, h1, h2, h3]
theorem R5 {n f : Nat} {sep x r : List UInt8} {acc : List Tok} {kd : Int} (hs : Bb false (sep ++ (x ++ r)) = x ++ r) (h : Ay kd x = true) (hr : Tm r) (ha : acc.length ≠ 2000) :
    Cv n (f + 1) (sep ++ (x ++ r)) acc = Cv n f r (acc ++ [⟨kd, x, n - (x ++ r).length⟩]) := by
  rw [<- Gj, hs]
  have hne : x ++ r ≠ [] := by intro e; exact Ek h (List.append_eq_nil_iff.1 e).1
  rw [Na (J9 h) hne (by rw [Mg h hr]; exact h) ha, Mg h hr]
  simp
end Go.Proofs.YtiledamgmppcmaaGreatDoor
namespace Go.Proofs.YtiledamgmppcmaaGreatDoor
open Go.RowKit
def Hk (n : Nat) : List UInt8 := if h : n < 10 then [UInt8.ofNat (48 + n)] else Hk (n / 10) ++ [UInt8.ofNat (48 + n % 10)]
termination_by n
theorem Dq {n : Nat} (h : n < 10) : Hk n = [UInt8.ofNat (48 + n)] := by rw [Hk, dif_pos h]
theorem En {n : Nat} (h : ¬ n < 10) : Hk n = Hk (n / 10) ++ [UInt8.ofNat (48 + n % 10)] := by rw [Hk, dif_neg h]
theorem Mw (n : Nat) : 1 <= (Hk n).length /\ (Hk n).length <= n + 1 := by
  induction n using Nat.strongRecOn with
  | _ n ih =>
    by_cases h : n < 10
    . rw [Dq h]; simp
    . rw [En h]
      have := ih (n / 10) (by omega)
      simp; omega
end Go.Proofs.YtiledamgmppcmaaGreatDoor
namespace Go.Proofs.YtiledamgmppcmaaGreatDoor
open Go.RowKit
theorem Ux (n : Nat) : (Hk n).all Bi = true := by
  have hd : ∀ m, m < 10 -> Bi (UInt8.ofNat (48 + m)) = true := by decide +kernel
  induction n using Nat.strongRecOn with
  | _ n ih =>
    by_cases h : n < 10
    . rw [Dq h, List.all_cons, hd n h]; rfl
    . rw [En h, List.all_append, ih (n / 10) (by omega), List.all_cons, hd (n % 10) (by omega)]; rfl
theorem Rb (n : Nat) (h1 : 1 <= n) : (Hk n).head? ≠ some 48 := by
  have hd : ∀ m, m < 10 -> 1 <= m -> UInt8.ofNat (48 + m) ≠ 48 := by decide +kernel
  induction n using Nat.strongRecOn with
  | _ n ih =>
    by_cases h : n < 10
    . rw [Dq h]; simpa using hd n h h1
    . have h2 := ih (n / 10) (by omega) (by omega)
      have h3 := (Mw (n / 10)).1
      rw [En h]
      cases hx : Hk (n / 10) with
      | nil => rw [hx] at h3; simp at h3
      | cons c r => rw [hx] at h2; simpa using h2
theorem Aec (n : Nat) (h : n < 10000) : (Hk n).length <= 4 := by
  have h1 : ∀ n, n < 10 -> (Hk n).length = 1 := fun n h => by rw [Dq h]; rfl
  have h2 : ∀ n, n < 100 -> (Hk n).length <= 2 := fun n h => by
    by_cases hs : n < 10
    . rw [h1 n hs]; omega
    . rw [En hs, List.length_append, h1 _ (by omega)]; simp
  have h3 : ∀ n, n < 1000 -> (Hk n).length <= 3 := fun n h => by
    by_cases hs : n < 10
    . rw [h1 n hs]; omega
    . rw [En hs, List.length_append]; have := h2 (n / 10) (by omega); simp; omega
  by_cases hs : n < 10
  . rw [h1 n hs]; omega
  . rw [En hs, List.length_append]; have := h3 (n / 10) (by omega); simp; omega
theorem Lt (n : Nat) (h : n < 10000) : Bl (Hk n) = true := by
  unfold Bl
  rw [Ux]
  rcases Nat.eq_zero_or_pos n with rfl | hp
  . rw [Dq (by omega)]; decide
  . have h2 := Rb n hp
    have h3 := Aec n h
    have h4 := (Mw n).1
    have e1 : (Hk n).isEmpty = false := by cases hx : Hk n with | nil => rw [hx] at h4; simp at h4 | cons => rfl
    simp [e1, h3]
    right
    simpa using h2
theorem Hg {kd : Int} {x : List UInt8} (h : Ay kd x = true) : x.length <= 12 := by
  have hw : (Cs.all fun x => decide (x.length <= 12)) = true := by decide +kernel
  have hs : (Bz.all fun x => decide (x.length <= 12)) = true := by decide +kernel
  unfold Ay at h
  split at h
  . simp only [Ei, Bool.and_eq_true, decide_eq_true_eq] at h; exact h.1.2
  . split at h
    . simpa using List.all_eq_true.1 hw _ (Eo.1 h)
    . split at h
      . simp only [Bl, Bool.and_eq_true, Bool.or_eq_true, decide_eq_true_eq, beq_iff_eq] at h
        rcases h.2 with h | h
        . rw [h]; simp
        . omega
      . split at h
        . simpa using List.all_eq_true.1 hs _ (Eo.1 h)
        . cases h
end Go.Proofs.YtiledamgmppcmaaGreatDoor
namespace Go.Proofs.YtiledamgmppcmaaGreatDoor
open Go.RowKit
theorem Fy : ∀ (n f : Nat) (l : List UInt8) (acc : List Tok), (∀ t ∈ acc, Ay t.kind t.text = true) -> ∀ t ∈ (Cv n f l acc).1, Ay t.kind t.text = true
  | _, 0, _, _, h => h
  | n, f + 1, l, acc, h => by
    unfold Cv
    split
    . exact h
    . split
      . simp
      . rename_i h2
        split
        . simp
        . refine Fy n f _ _ fun t ht => ?_
          rcases List.mem_append.1 ht with ht | ht
          . exact h t ht
          . rw [List.mem_singleton] at ht; subst ht
            simpa using h2
theorem J3 (l : List UInt8) : ∀ t ∈ (Cn l).1, Ay t.kind t.text = true := by
  unfold Cn
  split
  . simp
  . exact Fy _ _ _ _ (by simp)
mutual
theorem Hh : ∀ x : Ex, x.same x = true
  | .mk o n s l => by rw [Ex.same]; simp [Hi l]
theorem Hi : ∀ l : List Ex, Ly l l = true
  | [] => rfl
  | x :: l => by rw [Ly, Hh x, Hi l]; rfl
end
end Go.Proofs.YtiledamgmppcmaaGreatDoor
namespace Go.Proofs.YtiledamgmppcmaaGreatDoor
open Go.RowKit
def Alk (s : List UInt8) : Prop := ∀ y, Bb false (s ++ y) = Bb false y
def Sep (s : List UInt8) : Prop := Alk s /\ ∃ c t, s = c :: t /\ (c = 32 \/ c = 10 \/ c = 35)
theorem U0 : Alk [] := fun _ => rfl
theorem Sep.edge {s : List UInt8} (h : Sep s) (y : List UInt8) : Tm (s ++ y) := by
  obtain ⟨_, c, t, rfl, hc⟩ := h
  exact .inr ⟨c, t ++ y, rfl, hc⟩
def pad (l : List (List UInt8 × ZTok)) : List UInt8 := l.flatMap fun x => x.1 ++ x.2.text
def toks (p : Nat) : List (List UInt8 × ZTok) -> List Tok
  | [] => []
  | x :: r => ⟨x.2.kind, x.2.text, p + x.1.length⟩ :: toks (p + x.1.length + x.2.text.length) r
theorem Gr (x : List UInt8 × ZTok) (r : List (List UInt8 × ZTok)) : pad (x :: r) = x.1 ++ (x.2.text ++ pad r) := by simp [pad]
theorem N3 (p : Nat) (l : List (List UInt8 × ZTok)) : (toks p l).length = l.length := by
  induction l generalizing p with
  | nil => rfl
  | cons y r ih => simp [toks, ih]
theorem Sh (p : Nat) (l : List (List UInt8 × ZTok)) : (toks p l).map (fun t => (t.kind, t.text)) = l.map (fun x => (x.2.kind, x.2.text)) := by
  induction l generalizing p with
  | nil => rfl
  | cons y r ih => simp [toks, ih]
def Hm : Bool -> List (List UInt8 × ZTok) -> Prop
  | _, [] => True
  | b, x :: r => Alk x.1 /\ (b = true -> Sep x.1) /\ Ay x.2.kind x.2.text = true /\ Hm true r
theorem Hm.edge {r : List (List UInt8 × ZTok)} (h : Hm true r) {tl : List UInt8} (ht : Tm tl) : Tm (pad r ++ tl) := by
  cases r with
  | nil => exact ht
  | cons x r => rw [Gr, List.append_assoc]; exact (h.2.1 rfl).edge _
theorem R4 {n : Nat} (items : List (List UInt8 × ZTok)) (b : Bool) (tl : List UInt8) (acc : List Tok) (f p : Nat) (hn : n = p + (pad items ++ tl).length) (hp : Hm b items) (ht : Tm tl) (ha : acc.length + items.length <= 2000) :
    Cv n (f + items.length) (pad items ++ tl) acc = Cv n f tl (acc ++ toks p items) := by
  induction items generalizing b acc p with
  | nil => simp [pad, toks]
  | cons x r ih =>
    obtain ⟨h1, h2, h3, h4⟩ := hp
    have hr : Tm (pad r ++ tl) := h4.edge ht
    have hs : Bb false (x.1 ++ (x.2.text ++ (pad r ++ tl))) = x.2.text ++ (pad r ++ tl) := by rw [h1, J9 h3]
    rw [Gr] at hn |-
    simp only [List.length_cons] at ha
    rw [show x.1 ++ (x.2.text ++ pad r) ++ tl = x.1 ++ (x.2.text ++ (pad r ++ tl)) by simp, List.length_cons, <- Nat.add_assoc, R5 hs h3 hr (by omega)]
    have hn' : n = p + x.1.length + x.2.text.length + (pad r ++ tl).length := by rw [hn]; simp; omega
    rw [ih true _ (p + x.1.length + x.2.text.length) hn' h4 (by simp; omega)]
    rw [show n - (x.2.text ++ (pad r ++ tl)).length = p + x.1.length by simp only [List.length_append] at hn' |-; omega]
    simp [toks]
theorem Po {b : Bool} {items : List (List UInt8 × ZTok)} (h : Hm b items) : items.length <= (pad items).length := by
  induction items generalizing b with
  | nil => simp
  | cons x r ih =>
    obtain ⟨_, _, h3, h4⟩ := h
    have := ih h4
    have h5 := Ek h3
    have : 1 <= x.2.text.length := by cases hx : x.2.text with | nil => exact absurd hx h5 | cons => simp
    rw [Gr]; simp; omega
theorem Nz {b : Bool} {items : List (List UInt8 × ZTok)} {tl : List UInt8} (hp : Hm b items) (ht : Tm tl) (hs : Bb false tl = []) (h1 : items.length <= 2000) (h2 : (pad items ++ tl).length <= 20000) :
    Cn (pad items ++ tl) = (toks 0 items, 0, 0) := by
  unfold Cn
  rw [if_neg (by omega)]
  have h3 := Po hp
  obtain ⟨f, hf⟩ : ∃ f, (pad items ++ tl).length + 1 = f + 1 + items.length := ⟨(pad items ++ tl).length - items.length, by simp only [List.length_append]; omega⟩
  rw [hf, R4 items b tl [] (f + 1) 0 (by omega) hp ht (by simpa using h1), <- Gj, hs, Pv]
  simp
def Ed : List ZTok -> List (List UInt8 × ZTok)
  | [] => []
  | t :: r => ([], t) :: r.map fun t => ([32], t)
theorem Xd : Sep [32] := ⟨fun y => by simp [Bb], 32, [], rfl, .inl rfl⟩
theorem Hc (l : List ZTok) : pad (Ed l) = Lib.join (l.map (·.text)) [32] := by
  cases l with
  | nil => rfl
  | cons t r =>
    rw [List.map_cons, Lib.join_cons]
    simp only [Ed, Gr, List.nil_append]
    congr 1
    simp [pad, Lib.joinTail, List.flatMap_map, List.flatMap]
    rfl
theorem Nr {l : List ZTok} (h : ∀ t ∈ l, Ay t.kind t.text = true) : Hm true (l.map fun t => ([32], t)) := by
  induction l with
  | nil => trivial
  | cons t r ih => exact ⟨Xd.1, fun _ => Xd, h t (List.mem_cons_self ..), ih (fun y hy => h y (List.mem_cons_of_mem _ hy))⟩
theorem K6 {l : List ZTok} (h : ∀ t ∈ l, Ay t.kind t.text = true) : Hm false (Ed l) := by
  cases l with
  | nil => trivial
  | cons t r => exact ⟨U0, fun h => (by cases h), h t (List.mem_cons_self ..), Nr (fun y hy => h y (List.mem_cons_of_mem _ hy))⟩
theorem Ka (l : List ZTok) : (Ed l).map (·.2) = l := by
  cases l with
  | nil => rfl
  | cons t r => simp [Ed, Function.comp_def]
theorem Gt (l : List ZTok) : (Ed l).length = l.length := by
  have := congrArg List.length (Ka l)
  simpa using this
theorem R3 {l : List ZTok} (h : ∀ t ∈ l, Ay t.kind t.text = true) (h1 : l.length <= 2000) (h2 : (Lib.join (l.map (·.text)) [32]).length <= 20000) :
    Cn (Lib.join (l.map (·.text)) [32]) = (toks 0 (Ed l), 0, 0) := by
  have := Nz (tl := []) (K6 h) (.inl rfl) rfl (by rw [Gt]; exact h1) (by rw [List.append_nil, Hc]; exact h2)
  rwa [List.append_nil, Hc] at this
theorem N0 (l : List ZTok) : ((toks 0 (Ed l)).map Tok.z).map (fun t => (t.kind, t.text)) = l.map (fun t => (t.kind, t.text)) := by
  have h := Sh 0 (Ed l)
  have h2 := congrArg (List.map fun t : ZTok => (t.kind, t.text)) (Ka l)
  simp only [List.map_map] at h2 |-
  rw [<- h2]
  exact h
end Go.Proofs.YtiledamgmppcmaaGreatDoor
namespace Go.Proofs.YtiledamgmppcmaaGreatDoor
open Go.RowKit
inductive Good : Ex -> Prop
  | num (n : Int) : 0 <= n -> n <= 9999 -> Good (.mk 1 n ⟨#[]⟩ [])
  | name (s : ByteArray) : Ei s.data.toList = true -> Good (.mk 2 0 s [])
  | yes : Good (nd 3 [])
  | no : Good (nd 4 [])
  | neg (a : Ex) : Good a -> Good (nd 5 [a])
  | not (a : Ex) : Good a -> Good (nd 6 [a])
  | bin (op : Int) (a b : Ex) : 7 <= op -> op <= 18 -> Good a -> Good b -> Good (nd op [a, b])
  | ite (a b c : Ex) : Good a -> Good b -> Good c -> Good (nd 19 [a, b, c])
theorem C9 {s : ByteArray} (h : s.size = 0) : s = ⟨#[]⟩ := by
  apply ByteArray.ext; apply Array.eq_empty_of_size_eq_zero; exact h
theorem Kv {l : List UInt8} (h : B5 1 l 0 = 0) : Ei l = true := by
  unfold B5 at h
  split at h
  . omega
  . rename_i hc
    simp only [not_or] at hc
    have h1 : Ay 1 l = true := by simpa using hc.2.2
    exact h1
theorem Ng {op : Int} {n : Nat} (h : (n : Int) = Fl op) : (op = 1 \/ op = 2 \/ op = 3 \/ op = 4) /\ n = 0 \/ (op = 5 \/ op = 6) /\ n = 1 \/ (7 <= op /\ op <= 18) /\ n = 2 \/ op = 19 /\ n = 3 := by
  have h' : (n : Int) = Eu op := h
  unfold Eu at h'
  repeat' split at h'
  all_goals omega
mutual
theorem Ow : ∀ (x : Ex) (left d k : Nat), vis left d x = some k -> Good x
  | .mk o n s l, left, d, k, h => by
    rw [vis] at h
    split at h
    . simp at h
    . rename_i hc
      simp only [not_or] at hc
      have hp : Cl (.mk o n s l) = true := by simpa using hc.2.2
      simp only [Cl, Bool.and_eq_true, Bool.or_eq_true, Ex.args, Ex.op, Ex.n, Ex.name] at hp
      obtain ⟨⟨⟨⟨h1, h2⟩, h3⟩, h4⟩, h5⟩ := hp
      have h1 := of_decide_eq_true h1
      have h2 := of_decide_eq_true h2
      have h3 := of_decide_eq_true h3
      have h4 : n = 0 \/ o = 1 := h4.imp (fun h => of_decide_eq_true h) (fun h => of_decide_eq_true h)
      have hl := Ml l _ _ _ h
      rcases Ng h1 with ⟨h6, h7⟩ | ⟨h6, h7⟩ | ⟨h6, h7⟩ | ⟨h6, h7⟩
      . have e : l = [] := List.eq_nil_of_length_eq_zero h7
        subst e
        rcases h6 with rfl | rfl | rfl | rfl
        . have := C9 (s := s) (of_decide_eq_true (show decide (s.size = 0) = true from h5))
          subst this
          exact .num n (of_decide_eq_true ‹decide (0 <= n) = true›) (of_decide_eq_true ‹decide (n <= 9999) = true›)
        . have : n = 0 := by rcases h4 with h4 | h4 <;> omega
          subst this
          exact .name s (Kv (of_decide_eq_true (show decide (B5 1 s.data.toList 0 = 0) = true from h5)))
        . have := C9 (s := s) (of_decide_eq_true (show decide (s.size = 0) = true from h5))
          subst this
          have : n = 0 := by rcases h4 with h4 | h4 <;> omega
          subst this
          exact .yes
        . have := C9 (s := s) (of_decide_eq_true (show decide (s.size = 0) = true from h5))
          subst this
          have : n = 0 := by rcases h4 with h4 | h4 <;> omega
          subst this
          exact .no
      all_goals
        have h5' : s.size = 0 := by
          have ho : o ≠ 2 := by omega
          revert h5
          show (if o = 2 then _ else decide (s.size = 0)) = true -> _
          rw [if_neg ho]; exact fun h => of_decide_eq_true h
        have := C9 h5'
        subst this
        have : n = 0 := by rcases h4 with h4 | h4 <;> omega
        subst this
      . obtain ⟨a, rfl⟩ : ∃ a, l = [a] := by
          match l, h7 with
          | [a], _ => exact ⟨a, rfl⟩
        rcases h6 with rfl | rfl
        . exact .neg a (hl a (by simp))
        . exact .not a (hl a (by simp))
      . obtain ⟨a, b, rfl⟩ : ∃ a b, l = [a, b] := by
          match l, h7 with
          | [a, b], _ => exact ⟨a, b, rfl⟩
        exact .bin o a b h6.1 h6.2 (hl a (by simp)) (hl b (by simp))
      . obtain ⟨a, b, c, rfl⟩ : ∃ a b c, l = [a, b, c] := by
          match l, h7 with
          | [a, b, c], _ => exact ⟨a, b, c, rfl⟩
        subst h6
        exact .ite a b c (hl a (by simp)) (hl b (by simp)) (hl c (by simp))
theorem Ml : ∀ (l : List Ex) (left d k : Nat), Dt left d l = some k -> ∀ x ∈ l, Good x
  | [], left, d, k, h => by simp
  | x :: r, left, d, k, h => by
    rw [Dt] at h
    split at h
    . cases h
    . rename_i j e
      intro y hy
      rcases List.mem_cons.1 hy with hy | hy
      . rw [hy]; exact Ow x _ _ _ e
      . exact Ml r _ _ _ h y hy
end
theorem C7 {x : Ex} (h : Bg x = 0) : Good x := by
  have := (Cr x).1 h
  unfold Ge at this
  obtain ⟨k, hk⟩ := Option.isSome_iff_exists.1 this
  exact Ow x _ _ _ hk
abbrev KT := Int × ByteArray
def kOp (o : Int) : KT := (if o = 6 \/ o = 17 \/ o = 18 then 2 else 4, C3 o)
def N9 (p : List KT × Int) (Z6 : Int) : List KT := if p.2 < Z6 then ((4, Ik) :: p.1) ++ [(4, Hl)] else p.1
def Tl (o : Int) : Int := if Ak o = 4 then 5 else Ak o
def Uc (o : Int) : Int := if Ak o = 4 then 5 else Ak o + 1
def Amw (o n : Int) (s : ByteArray) : List (List KT × Int) -> List KT
  | [] => if o = 1 then [(3, Mr n)] else if o = 2 then [(1, s)] else if o = 3 then [(2, Oc)] else [(2, Jg)]
  | [a] => kOp o :: N9 a (Ak o)
  | [a, b] => N9 a (Tl o) ++ kOp o :: N9 b (Uc o)
  | [a, b, c] => (2, kIf) :: (a.1 ++ (2, Kq) :: (b.1 ++ (2, Kp) :: c.1))
  | _ => []
mutual
def tkX : Ex -> List KT
  | .mk o n s l => Amw o n s (tkL l)
def tkL : List Ex -> List (List KT × Int)
  | [] => []
  | .mk o n s l :: r => (tkX (.mk o n s l), Ak o) :: tkL r
end
theorem E0 (x : Ex) (r : List Ex) : tkL (x :: r) = (tkX x, Ak x.op) :: tkL r := by cases x; rw [tkL]; rfl
def tkW (x : Ex) (k : Int) : List KT := N9 (tkX x, Ak x.op) k
theorem Lo (n : Int) : tkX (.mk 1 n ⟨#[]⟩ []) = [(3, Mr n)] := by rw [tkX, tkL]; rfl
theorem Id (s : ByteArray) : tkX (.mk 2 0 s []) = [(1, s)] := by rw [tkX, tkL]; rfl
theorem Mk : tkX (nd 3 []) = [(2, Oc)] := by rw [nd, tkX, tkL]; rfl
theorem Sg : tkX (nd 4 []) = [(2, Jg)] := by rw [nd, tkX, tkL]; rfl
theorem Fa (o : Int) (a : Ex) : tkX (nd o [a]) = kOp o :: tkW a (Ak o) := by rw [nd, tkX, E0, tkL]; rfl
theorem Jt (o : Int) (a b : Ex) : tkX (nd o [a, b]) = tkW a (Tl o) ++ kOp o :: tkW b (Uc o) := by rw [nd, tkX, E0, E0, tkL]; rfl
theorem Sf (a b c : Ex) : tkX (nd 19 [a, b, c]) = (2, kIf) :: (tkX a ++ (2, Kq) :: (tkX b ++ (2, Kp) :: tkX c)) := by rw [nd, tkX, E0, E0, E0, tkL]; rfl
theorem Wa {o : Int} (h1 : 7 <= o) (h2 : o <= 18) : Ak o = 1 /\ Tl o = 1 /\ Uc o = 2 /\ o = 18 \/ Ak o = 2 /\ Tl o = 2 /\ Uc o = 3 /\ o = 17 \/ Ak o = 4 /\ Tl o = 5 /\ Uc o = 5 /\ 11 <= o /\ o <= 16 \/ Ak o = 5 /\ Tl o = 5 /\ Uc o = 6 /\ (o = 7 \/ o = 8) \/ Ak o = 6 /\ Tl o = 6 /\ Uc o = 7 /\ (o = 9 \/ o = 10) := by
  have : o = 7 \/ o = 8 \/ o = 9 \/ o = 10 \/ o = 11 \/ o = 12 \/ o = 13 \/ o = 14 \/ o = 15 \/ o = 16 \/ o = 17 \/ o = 18 := by omega
  rcases this with rfl | rfl | rfl | rfl | rfl | rfl | rfl | rfl | rfl | rfl | rfl | rfl <;> decide
theorem S5 (o : Int) : 0 <= Ak o /\ Ak o <= 8 := by
  unfold Ak
  repeat' split
  all_goals omega
theorem Lg (x : Ex) : tkW x 0 = tkX x := if_neg (by have := S5 x.op; simp only; omega)
theorem Lf {x : Ex} {k : Int} (h : k <= Ak x.op) : tkW x k = tkX x := if_neg (by simp only; omega)
theorem P2 {x : Ex} {k : Int} (h : Ak x.op < k) : tkW x k = ((4, Ik) :: tkX x) ++ [(4, Hl)] := if_pos h
def tkN (x : Ex) (k : Int) : Nat := (tkW x k).length
theorem Q2 (x : Ex) (k : Int) : tkN x k = (tkX x).length + (if Ak x.op < k then 2 else 0) := by
  unfold tkN tkW N9
  simp only
  split <;> simp
theorem Sd {x : Ex} (h : Good x) : 1 <= (tkX x).length := by
  cases h with
  | num n _ _ => rw [Lo]; simp
  | name s _ => rw [Id]; simp
  | yes => rw [Mk]; simp
  | no => rw [Sg]; simp
  | neg a _ => rw [Fa]; simp
  | not a _ => rw [Fa]; simp
  | bin o a b _ _ _ _ => rw [Jt]; simp; omega
  | ite a b c _ _ _ => rw [Sf]; simp
theorem T9 {x : Ex} (h : Good x) (k : Int) : 1 <= tkN x k := by
  have := Sd h
  rw [Q2]; omega
def Rm (m : Nat) : Bool := Nat.beq m 0 || Nat.beq m 1 || Nat.beq m 2 || Nat.beq m 3 || Nat.beq m 5 || Nat.beq m 6 || Nat.beq m 7
end Go.Proofs.YtiledamgmppcmaaGreatDoor
namespace Go.Proofs.YtiledamgmppcmaaGreatDoor
open Go.RowKit
theorem Uy (n : Nat) : Lib.decDigits n = Hk n := by
  induction n using Nat.strongRecOn with
  | _ n ih =>
    rw [Lib.decDigits, Hk]
    split
    . rfl
    . rw [ih (n / 10) (by omega)]
theorem Ae7 (l : List UInt8) (c : UInt8) : O3 0 (l ++ [c]) = O3 0 l * 10 + (c.toNat - 48) := by simp [O3]
theorem Aed {m : Nat} (h : m < 10) : (UInt8.ofNat (48 + m)).toNat - 48 = m := by rw [UInt8.toNat_ofNat']; omega
theorem Anh (n : Nat) : O3 0 (Hk n) = n := by
  induction n using Nat.strongRecOn with
  | _ n ih =>
    rw [Hk]
    split
    . rename_i h
      show O3 0 ([] ++ [_]) = n
      rw [Ae7, Aed h]; simp [O3]
    . rw [Ae7, ih (n / 10) (by omega), Aed (by omega)]; omega
theorem O7 {n : Int} (h : 0 <= n) : (Mr n).data.toList = Hk n.toNat := by
  obtain ⟨k, rfl⟩ := Int.eq_ofNat_of_zero_le h
  unfold Mr; rw [I2, Uy]; simp
theorem Ls {n : Int} (h : 0 <= n) (h2 : n <= 9999) : Bl (Mr n).data.toList = true := by rw [O7 h]; exact Lt _ (by omega)
theorem Ani {n : Int} (h : 0 <= n) (h2 : n <= 9999) : Lv (Mr n) = n := by
  unfold Lv
  rw [(D7 (Ls h h2)).2.2, O7 h, Anh]
  show ((n.toNat : Nat) : Int) = n
  omega
def ktA (l : List TkZ) (a : Nat) : Option KT := (l[a]?).map fun t => (t.1, t.2.1)
def Ah7 (l : List TkZ) (a : Nat) : List KT -> Prop
  | [] => True
  | t :: r => ktA l a = some t /\ Ah7 l (a + 1) r
theorem J1 {l : List TkZ} : ∀ {s t : List KT} {a : Nat}, Ah7 l a (s ++ t) <-> Ah7 l a s /\ Ah7 l (a + s.length) t
  | [], t, a => by simp [Ah7]
  | x :: s, t, a => by
    simp only [List.cons_append, Ah7, List.length_cons]
    rw [J1, and_assoc, show a + 1 + s.length = a + (s.length + 1) by omega]
theorem Xu {l : List TkZ} {a : Nat} {t : KT} (h : ktA l a = some t) : ∃ p, l[a]? = some (t.1, t.2, p) := by
  obtain ⟨u, hu, rfl⟩ := Option.map_eq_some_iff.1 h
  exact ⟨u.2.2, hu⟩
theorem Aaw {l : List TkZ} {a : Nat} {t : KT} (h : ktA l a = some t) : a < l.length := by
  obtain ⟨p, hp⟩ := Xu h
  exact (List.getElem?_eq_some_iff.1 hp).1
def isK (t : KT) (s : ByteArray) : Bool := decide (t.2 = s) && (decide (t.1 = 2) || decide (t.1 = 4))
theorem C0 {l : List TkZ} {a : Nat} {t : KT} (s : ByteArray) (h : ktA l a = some t) : Ba l a s = isK t s := by
  obtain ⟨p, hp⟩ := Xu h
  unfold Ba
  rw [hp]; rfl
def opK (t : KT) (k : Nat) : Option Int := ((Jk k).find? fun p => isK t p.2).map (·.1)
theorem Rd {l : List TkZ} {a : Nat} {t : KT} (k : Nat) (h : ktA l a = some t) : Bd l a k = opK t k := by
  unfold Bd opK
  congr 1
  congr 1
  funext p
  exact C0 p.2 h
theorem Aj9 {l : List TkZ} {a : Nat} (k : Nat) (h : l.length <= a) : Bd l a k = none := by
  cases e : Bd l a k with
  | none => rfl
  | some op => have := B0 e; omega
def Fol (l : List TkZ) (b m : Nat) : Prop := ∀ k, m <= k -> Bd l b k = none
theorem Fol.mono {l : List TkZ} {b m j : Nat} (h : Fol l b m) (hj : m <= j) : Fol l b j := fun k hk => h k (Nat.le_trans hj hk)
theorem fol_end {l : List TkZ} {b m : Nat} (h : l.length <= b) : Fol l b m := fun k _ => Aj9 k h
theorem Ait {l : List TkZ} {b m : Nat} {t : KT} (h : ktA l b = some t) (ht : ∀ k, opK t k = none) : Fol l b m := fun k _ => by rw [Rd k h]; exact ht k
theorem opK_shut (k : Nat) : opK (4, Hl) k = none := by
  unfold opK Jk; split <;> decide
theorem opK_then (k : Nat) : opK (2, Kq) k = none := by
  unfold opK Jk; split <;> decide
theorem opK_else (k : Nat) : opK (2, Kp) k = none := by
  unfold opK Jk; split <;> decide
theorem opK_semi (k : Nat) : opK (4, ⟨#[59]⟩) k = none := by
  unfold opK Jk; split <;> decide
theorem Ai9 {o : Int} (h1 : 7 <= o) (h2 : o <= 18) (k : Nat) : opK (kOp o) k = if Ak o = k then some o else none := by
  have : o = 7 \/ o = 8 \/ o = 9 \/ o = 10 \/ o = 11 \/ o = 12 \/ o = 13 \/ o = 14 \/ o = 15 \/ o = 16 \/ o = 17 \/ o = 18 := by omega
  unfold opK Jk
  split
  . rcases this with rfl | rfl | rfl | rfl | rfl | rfl | rfl | rfl | rfl | rfl | rfl | rfl <;> decide
  . rcases this with rfl | rfl | rfl | rfl | rfl | rfl | rfl | rfl | rfl | rfl | rfl | rfl <;> decide
  . rcases this with rfl | rfl | rfl | rfl | rfl | rfl | rfl | rfl | rfl | rfl | rfl | rfl <;> decide
  . rcases this with rfl | rfl | rfl | rfl | rfl | rfl | rfl | rfl | rfl | rfl | rfl | rfl <;> decide
  . rcases this with rfl | rfl | rfl | rfl | rfl | rfl | rfl | rfl | rfl | rfl | rfl | rfl <;> decide
  . rcases Wa h1 h2 with ⟨e, _⟩ | ⟨e, _⟩ | ⟨e, _⟩ | ⟨e, _⟩ | ⟨e, _⟩
    all_goals
      rw [e, if_neg (by intro h; simp_all; try omega)]
      rfl
def V1 (l : List TkZ) (m a b : Nat) (x : Ex) : Prop := ∀ n, 8 * (l.length - a) + A5 m <= n -> pE l n m a = .yes x b
section
variable {l : List TkZ} {a b : Nat} {x : Ex}
theorem go_yes (f : Ex -> Nat -> PRes) (c : Nat) (y : Ex) : (PRes.yes y c).go f = f y c := rfl
theorem X5 {m : Nat} (hm : m = 1 \/ m = 2 \/ m = 5 \/ m = 6) (h : V1 l (Ao m) a b x) (hf : Bd l b m = none) : V1 l m a b x := by
  intro n hn
  have hr : A5 (Ao m) + 1 = A5 m /\ 1 <= A5 (Ao m) := by rcases hm with rfl | rfl | rfl | rfl <;> decide
  obtain ⟨n, rfl⟩ : ∃ k, n = k + 2 := ⟨n - 2, by omega⟩
  rw [Dz _ _ _ _ (by omega) (by omega) (by omega), h (n + 1) (by omega), go_yes, pR, hf]
theorem up_3 (h : V1 l 5 a b x) (hn : Ba l a Ab6 = false) (hf : Bd l b 4 = none) : V1 l 3 a b x := by
  intro n hle
  simp only [A5] at hle
  obtain ⟨n, rfl⟩ : ∃ k, n = k + 1 := ⟨n - 1, by omega⟩
  rw [pE, hn, if_neg (by simp), h n (by simp only [A5]; omega), go_yes, hf]
theorem up_0 (h : V1 l 1 a b x) (hn : Ba l a kIf = false) : V1 l 0 a b x := by
  intro n hle
  simp only [A5] at hle
  obtain ⟨n, rfl⟩ : ∃ k, n = k + 1 := ⟨n - 1, by omega⟩
  rw [pE, hn, if_neg (by simp), h n (by simp only [A5]; omega)]
theorem Am2 {k : Nat} (hk : Rm k = true) (hE : V1 l k a b x) : ∀ (d m : Nat), m + d = k -> Rm m = true -> Fol l b m -> (m <= 3 -> 3 < k -> Ba l a Ab6 = false) -> (m = 0 -> 0 < k -> Ba l a kIf = false) -> V1 l m a b x := by
  have key : ∀ m, Rm m = true -> m = 0 \/ m = 1 \/ m = 2 \/ m = 3 \/ m = 5 \/ m = 6 \/ m = 7 := by
    intro m hm
    unfold Rm at hm
    simp only [Bool.or_eq_true, Nat.beq_eq] at hm
    omega
  intro d
  induction d using Nat.strongRecOn with
  | _ d ih =>
    intro m hd hm hf h3 h0
    rcases Nat.eq_zero_or_pos d with rfl | hpos
    . obtain rfl : m = k := by omega
      exact hE
    have hk' := key k hk
    rcases key m hm with rfl | rfl | rfl | rfl | rfl | rfl | rfl
    . exact up_0 (ih (d - 1) (by omega) 1 (by omega) rfl (hf.mono (by omega)) (fun _ h => h3 (by omega) h) (fun h => by omega)) (h0 rfl (by omega))
    . exact X5 (.inl rfl) (ih (d - 1) (by omega) 2 (by omega) rfl (hf.mono (by omega)) (fun _ h => h3 (by omega) h) (fun h => by omega)) (hf 1 (Nat.le_refl _))
    . exact X5 (.inr (.inl rfl)) (ih (d - 1) (by omega) 3 (by omega) rfl (hf.mono (by omega)) (fun _ h => h3 (by omega) h) (fun h => by omega)) (hf 2 (Nat.le_refl _))
    . exact up_3 (ih (d - 2) (by omega) 5 (by omega) rfl (hf.mono (by omega)) (fun h => by omega) (fun h => by omega)) (h3 (by omega) (by omega)) (hf 4 (by omega))
    . exact X5 (.inr (.inr (.inl rfl))) (ih (d - 1) (by omega) 6 (by omega) rfl (hf.mono (by omega)) (fun h => by omega) (fun h => by omega)) (hf 5 (Nat.le_refl _))
    . exact X5 (.inr (.inr (.inr rfl))) (ih (d - 1) (by omega) 7 (by omega) rfl (hf.mono (by omega)) (fun h => by omega) (fun h => by omega)) (hf 6 (Nat.le_refl _))
    . omega
end
theorem firstX {x : Ex} (hx : Good x) : ∀ {l : List TkZ} {a : Nat}, Ah7 l a (tkX x) -> (1 <= Ak x.op -> Ba l a kIf = false) /\ (4 <= Ak x.op -> Ba l a Ab6 = false) := by
  induction hx with
  | num n h1 h2 =>
    intro l a h
    rw [Lo] at h
    exact ⟨fun _ => by rw [C0 _ h.1]; simp [isK], fun _ => by rw [C0 _ h.1]; simp [isK]⟩
  | name s h1 =>
    intro l a h
    rw [Id] at h
    exact ⟨fun _ => by rw [C0 _ h.1]; simp [isK], fun _ => by rw [C0 _ h.1]; simp [isK]⟩
  | yes =>
    intro l a h
    rw [Mk] at h
    exact ⟨fun _ => by rw [C0 _ h.1]; decide, fun _ => by rw [C0 _ h.1]; decide⟩
  | no =>
    intro l a h
    rw [Sg] at h
    exact ⟨fun _ => by rw [C0 _ h.1]; decide, fun _ => by rw [C0 _ h.1]; decide⟩
  | neg y hy ih =>
    intro l a h
    rw [Fa] at h
    exact ⟨fun _ => by rw [C0 _ h.1]; decide, fun _ => by rw [C0 _ h.1]; decide⟩
  | not y hy ih =>
    intro l a h
    rw [Fa] at h
    exact ⟨fun _ => by rw [C0 _ h.1]; decide, fun h4 => absurd (show (4 : Int) <= Ak 6 from h4) (by decide)⟩
  | bin o y z h1 h2 hy hz ih1 ih2 =>
    intro l a h
    rw [Jt] at h
    have h' := (J1.1 h).1
    have hl : 1 <= Tl o /\ (4 <= Ak o -> 4 <= Tl o) := by rcases Wa h1 h2 with ⟨l1, l2, l3, _⟩ | ⟨l1, l2, l3, _⟩ | ⟨l1, l2, l3, _⟩ | ⟨l1, l2, l3, _⟩ | ⟨l1, l2, l3, _⟩ <;> omega
    by_cases hw : Ak y.op < Tl o
    . rw [P2 hw] at h'
      have h0 := h'.1
      exact ⟨fun _ => by rw [C0 _ h0]; decide, fun _ => by rw [C0 _ h0]; decide⟩
    . rw [Lf (by omega)] at h'
      have := ih1 h'
      exact ⟨fun _ => this.1 (by omega), fun h4 => this.2 (by have := hl.2 h4; omega)⟩
  | ite y z w hy hz hw ih1 ih2 ih3 =>
    intro l a h
    exact ⟨fun h1 => absurd (show (1 : Int) <= Ak 19 from h1) (by decide), fun h1 => absurd (show (4 : Int) <= Ak 19 from h1) (by decide)⟩
section
variable (l : List TkZ)
def X7 (x : Ex) : Prop := ∀ m a : Nat, Rm m = true -> (m : Int) <= Ak x.op -> Ah7 l a (tkX x) -> Fol l (a + (tkX x).length) m -> V1 l m a (a + (tkX x).length) x
def BackB (x : Ex) : Prop := ∀ m a : Nat, Rm m = true -> Ah7 l a (tkW x m) -> Fol l (a + tkN x m) m -> V1 l m a (a + tkN x m) x
def BackC (x : Ex) : Prop := ∀ m a n : Nat, (m = 1 \/ m = 2 \/ m = 5 \/ m = 6) -> Ah7 l a (tkW x m) -> Fol l (a + tkN x m) (Ao m) -> 8 * (l.length - a) + A5 m <= n + 1 ->
  ∃ k, 8 * (l.length - (a + tkN x m)) + 1 <= k /\ ((pE l n (Ao m) a).go fun x b => pR l n m x b) = pR l k m x (a + tkN x m)
end
variable {l : List TkZ}
theorem Mv {x : Ex} (hx : Good x) (hA : X7 l x) : BackB l x := by
  intro m a hm hl hf
  by_cases hw : Ak x.op < m
  . have hN : tkN x m = (tkX x).length + 2 := by unfold tkN; rw [P2 hw]; simp
    rw [P2 hw] at hl
    obtain ⟨h1, h2⟩ := J1.1 hl
    obtain ⟨h1, h3⟩ := h1
    have h2 := h2.1
    have h7 : V1 l 7 a (a + tkN x m) x := by
      intro n hn
      simp only [A5] at hn
      have hlt := Aaw h1
      obtain ⟨n, rfl⟩ : ∃ k, n = k + 1 := ⟨n - 1, by omega⟩
      have e := hA 0 (a + 1) rfl (by have := S5 x.op; omega) h3 (Ait (by simpa [Nat.add_comm, Nat.add_left_comm, Nat.add_assoc] using h2) opK_shut) n (by simp only [A5]; omega)
      rw [pE, C0 _ h1, C0 _ h1, C0 _ h1, C0 _ h1, if_neg (by decide), if_neg (by decide), if_neg (by decide), if_pos (by decide), e, go_yes]
      unfold Ct
      have h2' : ktA l (a + 1 + (tkX x).length) = some (4, Hl) := by simpa [Nat.add_comm, Nat.add_left_comm, Nat.add_assoc] using h2
      rw [C0 _ h2', if_pos (by decide), hN, show a + 1 + (tkX x).length + 1 = a + ((tkX x).length + 2) by omega]
    have hm7 : m <= 7 := by
      unfold Rm at hm
      simp only [Bool.or_eq_true, Nat.beq_eq] at hm
      omega
    exact Am2 rfl h7 (7 - m) m (by omega) hm hf (fun _ _ => by rw [C0 _ h1]; decide) (fun _ _ => by rw [C0 _ h1]; decide)
  . have hN : tkN x m = (tkX x).length := by unfold tkN; rw [Lf (by omega)]
    rw [Lf (by omega)] at hl
    rw [hN] at hf |-
    exact hA m a hm (by omega) hl hf
theorem P8 {m : Nat} (hm : m = 1 \/ m = 2 \/ m = 5 \/ m = 6) : Rm (Ao m) = true /\ (Ao m : Nat) = m + 1 /\ A5 (Ao m) + 1 = A5 m /\ 2 <= A5 (Ao m) := by rcases hm with rfl | rfl | rfl | rfl <;> decide
theorem Od {x : Ex} (hx : Good x) (hB : BackB l x) (hne : ∀ m : Nat, (m = 1 \/ m = 2 \/ m = 5 \/ m = 6) -> Ak x.op = m -> False) : BackC l x := by
  intro m a n hm hl hf hn
  obtain ⟨b1, b2, b3, b4⟩ := P8 hm
  have hne' : Ak x.op ≠ m := hne m hm
  have hW : tkW x m = tkW x (Ao m : Nat) := by
    by_cases h : Ak x.op < m
    . rw [P2 h, P2 (by omega)]
    . rw [Lf (by omega), Lf (by omega)]
  have hN : tkN x m = tkN x (Ao m : Nat) := by unfold tkN; rw [hW]
  rw [hW] at hl
  rw [hN] at hf |-
  refine ⟨n, ?_, ?_⟩
  . have := T9 hx (Ao m : Nat)
    omega
  . rw [hB (Ao m) a b1 hl hf n (by omega), go_yes]
theorem Mu {x : Ex} (hx : Good x) (k : Nat) (hk : Rm k = true) (hkl : (k : Int) <= Ak x.op) (hmk : ∀ m : Nat, Rm m = true -> (m : Int) <= Ak x.op -> m <= k)
    (h : ∀ a, Ah7 l a (tkX x) -> Fol l (a + (tkX x).length) k -> V1 l k a (a + (tkX x).length) x) : X7 l x := by
  intro m a hm hle hl hf
  have hmk' := hmk m hm hle
  obtain ⟨f1, f2⟩ := firstX hx hl
  exact Am2 hk (h a hl (hf.mono hmk')) (k - m) m (by omega) hm hf (fun _ _ => f2 (by omega)) (fun _ _ => f1 (by omega))
theorem Wb {m : Nat} (h : Rm m = true) : m = 0 \/ m = 1 \/ m = 2 \/ m = 3 \/ m = 5 \/ m = 6 \/ m = 7 := by
  unfold Rm at h
  simp only [Bool.or_eq_true, Nat.beq_eq] at h
  omega
theorem eats7 {a b : Nat} {x : Ex} (h : ∀ n, pE l (n + 1) 7 a = .yes x b) : V1 l 7 a b x := by
  intro n hn
  simp only [A5] at hn
  obtain ⟨n, rfl⟩ : ∃ k, n = k + 1 := ⟨n - 1, by omega⟩
  exact h n
theorem Ad2 {o : Int} {y z : Ex} {m a n : Nat} (h1 : 7 <= o) (h2 : o <= 18) (hm : m = 1 \/ m = 2 \/ m = 5 \/ m = 6) (hlev : Ak o = m /\ Tl o = m /\ Uc o = (Ao m : Nat)) (hy : Good y) (hC : BackC l y) (hB : BackB l z)
    (hl : Ah7 l a (tkX (nd o [y, z]))) (hf : Fol l (a + (tkX (nd o [y, z])).length) (Ao m)) (hn : 8 * (l.length - a) + A5 m <= n + 1) :
    ∃ k, 8 * (l.length - (a + (tkX (nd o [y, z])).length)) + 1 <= k /\ ((pE l n (Ao m) a).go fun x b => pR l n m x b) = pR l k m (nd o [y, z]) (a + (tkX (nd o [y, z])).length) := by
  obtain ⟨e1, e2, e3⟩ := hlev
  obtain ⟨b1, b2, b3, b4⟩ := P8 hm
  have hlen : (tkX (nd o [y, z])).length = tkN y m + 1 + tkN z (Ao m : Nat) := by
    rw [Jt, e2, e3]; unfold tkN; simp; omega
  rw [hlen] at hf |-
  rw [Jt, e2, e3] at hl
  obtain ⟨l1, l2, l3⟩ := J1.1 hl
  have l2' : ktA l (a + tkN y m) = some (kOp o) := l2
  have hlt := Aaw l2'
  obtain ⟨k1, g1, g2⟩ := hC m a n hm l1 (fun k hk => by rw [Rd k l2', Ai9 h1 h2, if_neg (by omega)]) hn
  rw [g2]
  obtain ⟨k2, rfl⟩ : ∃ k, k1 = k + 1 := ⟨k1 - 1, by omega⟩
  have hr : A5 (Ao m) <= 6 := by rcases hm with rfl | rfl | rfl | rfl <;> decide
  have g3 := hB (Ao m) (a + tkN y m + 1) b1 l3 (by rw [show a + tkN y m + 1 + tkN z (Ao m : Nat) = a + (tkN y m + 1 + tkN z (Ao m : Nat)) by omega]; exact hf) k2 (by omega)
  refine ⟨k2, by omega, ?_⟩
  rw [pR, Rd m l2', Ai9 h1 h2, if_pos e1]
  simp only []
  rw [g3, go_yes, show a + tkN y m + 1 + tkN z (Ao m : Nat) = a + (tkN y m + 1 + tkN z (Ao m : Nat)) by omega]
theorem back_all {x : Ex} (hx : Good x) : BackB l x /\ BackC l x := by
  induction hx with
  | num n h1 h2 =>
    have hg := Good.num n h1 h2
    have hA : X7 l (.mk 1 n ⟨#[]⟩ []) := Mu hg 7 rfl (by show ((7 : Nat) : Int) <= Ak 1; decide) (fun m hm _ => by have := Wb hm; omega) fun a hl _ => eats7 fun k => by
      rw [Lo] at hl |-
      have hl := hl.1
      rw [pE, C0 _ hl, C0 _ hl, C0 _ hl, C0 _ hl, if_neg (by simp [isK]), if_neg (by simp [isK]), if_neg (by simp [isK]), if_neg (by simp [isK])]
      obtain ⟨p, hp⟩ := Xu hl
      unfold Jm
      rw [hp]
      show Gf (3, Mr n, p) a = _
      unfold Gf
      rw [if_neg (by show ¬ (3 : Int) = 1; decide), if_pos rfl]
      simp only []
      rw [Ani h1 h2]; rfl
    have hB := Mv hg hA
    exact ⟨hB, Od hg hB (fun m hm h => by have : Ak 1 = m := h; have e : Ak 1 = 8 := rfl; omega)⟩
  | name s h1 =>
    have hg := Good.name s h1
    have hA : X7 l (.mk 2 0 s []) := Mu hg 7 rfl (by show ((7 : Nat) : Int) <= Ak 2; decide) (fun m hm _ => by have := Wb hm; omega) fun a hl _ => eats7 fun k => by
      rw [Id] at hl |-
      have hl := hl.1
      rw [pE, C0 _ hl, C0 _ hl, C0 _ hl, C0 _ hl, if_neg (by simp [isK]), if_neg (by simp [isK]), if_neg (by simp [isK]), if_neg (by simp [isK])]
      obtain ⟨p, hp⟩ := Xu hl
      unfold Jm
      rw [hp]; rfl
    have hB := Mv hg hA
    exact ⟨hB, Od hg hB (fun m hm h => by have : Ak 2 = m := h; have e : Ak 2 = 8 := rfl; omega)⟩
  | yes =>
    have hg := Good.yes
    have hA : X7 l (nd 3 []) := Mu hg 7 rfl (by show ((7 : Nat) : Int) <= Ak 3; decide) (fun m hm _ => by have := Wb hm; omega) fun a hl _ => eats7 fun k => by
      rw [Mk] at hl |-
      have hl := hl.1
      rw [pE, C0 _ hl, C0 _ hl, if_neg (by decide), if_pos (by decide)]; rfl
    have hB := Mv hg hA
    exact ⟨hB, Od hg hB (fun m hm h => by have : Ak 3 = m := h; have e : Ak 3 = 8 := rfl; omega)⟩
  | no =>
    have hg := Good.no
    have hA : X7 l (nd 4 []) := Mu hg 7 rfl (by show ((7 : Nat) : Int) <= Ak 4; decide) (fun m hm _ => by have := Wb hm; omega) fun a hl _ => eats7 fun k => by
      rw [Sg] at hl |-
      have hl := hl.1
      rw [pE, C0 _ hl, C0 _ hl, C0 _ hl, if_neg (by decide), if_neg (by decide), if_pos (by decide)]; rfl
    have hB := Mv hg hA
    exact ⟨hB, Od hg hB (fun m hm h => by have : Ak 4 = m := h; have e : Ak 4 = 8 := rfl; omega)⟩
  | neg y hy ih =>
    have hg := Good.neg y hy
    have hA : X7 l (nd 5 [y]) := Mu hg 7 rfl (by show ((7 : Nat) : Int) <= Ak 5; decide) (fun m hm _ => by have := Wb hm; omega) fun a hl hf => by
      rw [Fa] at hl hf |-
      obtain ⟨h1, h2⟩ := hl
      have hlt := Aaw h1
      have e : (kOp 5 :: tkW y (Ak 5)).length = tkN y (7 : Nat) + 1 := by unfold tkN; rfl
      rw [e] at hf |-
      intro n hn
      simp only [A5] at hn
      obtain ⟨n, rfl⟩ : ∃ k, n = k + 1 := ⟨n - 1, by omega⟩
      rw [pE, C0 _ h1, if_pos (by decide), ih.1 7 (a + 1) rfl h2 (by rw [show a + 1 + tkN y (7 : Nat) = a + (tkN y (7 : Nat) + 1) by omega]; exact hf) n (by simp only [A5]; omega), go_yes, show a + 1 + tkN y (7 : Nat) = a + (tkN y (7 : Nat) + 1) by omega]
    have hB := Mv hg hA
    exact ⟨hB, Od hg hB (fun m hm h => by have : Ak 5 = m := h; have e : Ak 5 = 7 := rfl; omega)⟩
  | not y hy ih =>
    have hg := Good.not y hy
    have hA : X7 l (nd 6 [y]) := Mu hg 3 rfl (by show ((3 : Nat) : Int) <= Ak 6; decide) (fun m hm h => by have e : Ak (nd 6 [y]).op = 3 := rfl; omega) fun a hl hf => by
      rw [Fa] at hl hf |-
      obtain ⟨h1, h2⟩ := hl
      have hlt := Aaw h1
      have e : (kOp 6 :: tkW y (Ak 6)).length = tkN y (3 : Nat) + 1 := by unfold tkN; rfl
      rw [e] at hf |-
      intro n hn
      simp only [A5] at hn
      obtain ⟨n, rfl⟩ : ∃ k, n = k + 1 := ⟨n - 1, by omega⟩
      rw [pE, C0 _ h1, if_pos (by decide), ih.1 3 (a + 1) rfl h2 (by rw [show a + 1 + tkN y (3 : Nat) = a + (tkN y (3 : Nat) + 1) by omega]; exact hf) n (by simp only [A5]; omega), go_yes, show a + 1 + tkN y (3 : Nat) = a + (tkN y (3 : Nat) + 1) by omega]
    have hB := Mv hg hA
    exact ⟨hB, Od hg hB (fun m hm h => by have : Ak 6 = m := h; have e : Ak 6 = 3 := rfl; omega)⟩
  | bin o y z h1 h2 hy hz ih1 ih2 =>
    have hg := Good.bin o y z h1 h2 hy hz
    by_cases h4 : Ak o = 4
    . have e1 : Tl o = 5 /\ Uc o = 5 := by unfold Tl Uc; simp [h4]
      have hA : X7 l (nd o [y, z]) := Mu hg 3 rfl (by show ((3 : Nat) : Int) <= Ak o; omega) (fun m hm h => by have e : Ak (nd o [y, z]).op = 4 := h4; have := Wb hm; omega) fun a hl hf => by
        have hfirst := (firstX hg hl).2 (by show 4 <= Ak o; omega)
        have hlen : (tkX (nd o [y, z])).length = tkN y (5 : Nat) + 1 + tkN z (5 : Nat) := by rw [Jt, e1.1, e1.2]; unfold tkN; simp; omega
        rw [hlen] at hf |-
        rw [Jt, e1.1, e1.2] at hl
        obtain ⟨l1, l2, l3⟩ := J1.1 hl
        have l2' : ktA l (a + tkN y (5 : Nat)) = some (kOp o) := l2
        have hlt := Aaw l2'
        intro n hn
        simp only [A5] at hn
        obtain ⟨n, rfl⟩ : ∃ k, n = k + 1 := ⟨n - 1, by omega⟩
        rw [pE, hfirst, if_neg (by simp), ih1.1 5 a rfl l1 (fun k hk => by rw [Rd k l2', Ai9 h1 h2, if_neg (by omega)]) n (by simp only [A5]; omega), go_yes, Rd 4 l2', Ai9 h1 h2, if_pos (show Ak o = ((4 : Nat) : Int) from h4)]
        simp only []
        rw [ih2.1 5 (a + tkN y (5 : Nat) + 1) rfl l3 (by rw [show a + tkN y (5 : Nat) + 1 + tkN z (5 : Nat) = a + (tkN y (5 : Nat) + 1 + tkN z (5 : Nat)) by omega]; exact hf.mono (by omega)) n (by simp only [A5]; omega), go_yes, show a + tkN y (5 : Nat) + 1 + tkN z (5 : Nat) = a + (tkN y (5 : Nat) + 1 + tkN z (5 : Nat)) by omega]
      have hB := Mv hg hA
      exact ⟨hB, Od hg hB (fun m hm h => by have : Ak o = m := h; omega)⟩
    . obtain ⟨m, hm, hlev⟩ : ∃ m : Nat, (m = 1 \/ m = 2 \/ m = 5 \/ m = 6) /\ Ak o = m /\ Tl o = m /\ Uc o = (Ao m : Nat) := by
        rcases Wa h1 h2 with ⟨l1, l2, l3, _⟩ | ⟨l1, l2, l3, _⟩ | ⟨l1, l2, l3, _⟩ | ⟨l1, l2, l3, _⟩ | ⟨l1, l2, l3, _⟩
        . exact ⟨1, by omega, l1, l2, l3⟩
        . exact ⟨2, by omega, l1, l2, l3⟩
        . omega
        . exact ⟨5, by omega, l1, l2, l3⟩
        . exact ⟨6, by omega, l1, l2, l3⟩
      obtain ⟨b1, b2, b3, b4⟩ := P8 hm
      have hlo : Ak (nd o [y, z]).op = m := hlev.1
      have hA : X7 l (nd o [y, z]) := Mu hg m (by rcases hm with rfl | rfl | rfl | rfl <;> rfl) (by omega) (fun j hj h => by omega) fun a hl hf => by
        intro n hn
        obtain ⟨n, rfl⟩ : ∃ k, n = k + 1 := ⟨n - 1, by omega⟩
        obtain ⟨k, g1, g2⟩ := Ad2 h1 h2 hm hlev hy ih1.2 ih2.1 hl (hf.mono (by omega)) hn
        rw [Dz _ _ _ _ (by omega) (by omega) (by omega), g2]
        obtain ⟨k, rfl⟩ : ∃ j, k = j + 1 := ⟨k - 1, by omega⟩
        rw [pR, hf m (Nat.le_refl _)]
      have hB := Mv hg hA
      refine ⟨hB, fun j a n hj hl hf hn => ?_⟩
      by_cases hjm : j = m
      . subst hjm
        have hN : tkN (nd o [y, z]) j = (tkX (nd o [y, z])).length := by unfold tkN; rw [Lf (by omega)]
        rw [Lf (by omega)] at hl
        rw [hN] at hf |-
        exact Ad2 h1 h2 hm hlev hy ih1.2 ih2.1 hl hf hn
      . obtain ⟨c1, c2, c3, c4⟩ := P8 hj
        have hW : tkW (nd o [y, z]) j = tkW (nd o [y, z]) (Ao j : Nat) := by
          by_cases h : Ak (nd o [y, z]).op < j
          . rw [P2 h, P2 (by omega)]
          . rw [Lf (by omega), Lf (by omega)]
        have hN : tkN (nd o [y, z]) j = tkN (nd o [y, z]) (Ao j : Nat) := by unfold tkN; rw [hW]
        rw [hW] at hl
        rw [hN] at hf |-
        refine ⟨n, ?_, ?_⟩
        . have := T9 hg (Ao j : Nat)
          omega
        . rw [hB (Ao j) a c1 hl hf n (by omega), go_yes]
  | ite y z w hy hz hw ih1 ih2 ih3 =>
    have hg := Good.ite y z w hy hz hw
    have hA : X7 l (nd 19 [y, z, w]) := Mu hg 0 rfl (by show ((0 : Nat) : Int) <= Ak 19; decide) (fun m hm h => by have e : Ak (nd 19 [y, z, w]).op = 0 := rfl; omega) fun a hl hf => by
      rw [Sf] at hl hf |-
      obtain ⟨h1, h2⟩ := hl
      obtain ⟨h2, h3, h4⟩ := J1.1 h2
      obtain ⟨h4, h5, h6⟩ := J1.1 h4
      have hlt := Aaw h1
      have z0 : ∀ v : Ex, tkN v (0 : Nat) = (tkX v).length := fun v => by unfold tkN; rw [show tkW v ((0 : Nat) : Int) = tkX v from Lg v]
      have zw : ∀ v : Ex, tkW v (0 : Nat) = tkX v := fun v => Lg v
      have e : ((2, kIf) :: (tkX y ++ (2, Kq) :: (tkX z ++ (2, Kp) :: tkX w)) : List KT).length = 3 + (tkX y).length + (tkX z).length + (tkX w).length := by simp; omega
      rw [e] at hf |-
      have q1 := ih1.1 0 (a + 1) rfl (by rw [zw]; exact h2) (by rw [z0]; exact Ait h3 opK_then)
      have q2 := ih2.1 0 (a + 1 + (tkX y).length + 1) rfl (by rw [zw]; exact h4) (by rw [z0]; exact Ait h5 opK_else)
      have q3 := ih3.1 0 (a + 1 + (tkX y).length + 1 + (tkX z).length + 1) rfl (by rw [zw]; exact h6) (by rw [z0, show a + 1 + (tkX y).length + 1 + (tkX z).length + 1 + (tkX w).length = a + (3 + (tkX y).length + (tkX z).length + (tkX w).length) by omega]; exact hf)
      rw [z0] at q1 q2 q3
      intro n hn
      simp only [A5] at hn
      obtain ⟨n, rfl⟩ : ∃ k, n = k + 1 := ⟨n - 1, by omega⟩
      rw [pE, C0 _ h1, if_pos (by decide), q1 n (by simp only [A5]; omega), go_yes]
      unfold Ct
      rw [C0 _ h3, if_pos (by decide)]
      dsimp only
      rw [q2 n (by simp only [A5]; omega), go_yes, C0 _ h5, if_pos (by decide)]
      rw [q3 n (by simp only [A5]; omega), go_yes,
        show a + 1 + (tkX y).length + 1 + (tkX z).length + 1 + (tkX w).length = a + (3 + (tkX y).length + (tkX z).length + (tkX w).length) by omega]
    have hB := Mv hg hA
    exact ⟨hB, Od hg hB (fun m hm h => by have : Ak 19 = m := h; have e : Ak 19 = 0 := rfl; omega)⟩
theorem Ahf {x : Ex} (hx : Good x) {a : Nat} (hl : Ah7 l a (tkX x)) (hf : Fol l (a + (tkX x).length) 0) : D1 l a = .yes x (a + (tkX x).length) := by
  have := (back_all (l := l) hx).1 0 a rfl (by rw [show tkW x ((0 : Nat) : Int) = tkX x from Lg x]; exact hl) (by unfold tkN; rw [show tkW x ((0 : Nat) : Int) = tkX x from Lg x]; exact hf) (8 * (l.length - a) + 9) (by simp only [A5]; omega)
  unfold tkN at this
  rw [show tkW x ((0 : Nat) : Int) = tkX x from Lg x] at this
  exact this
end Go.Proofs.YtiledamgmppcmaaGreatDoor
namespace Go.Proofs.YtiledamgmppcmaaGreatDoor
open Go.RowKit
def jn (ts : List KT) : List UInt8 := Lib.join (ts.map fun t => t.2.data.toList) [32]
theorem If (t : KT) : jn [t] = t.2.data.toList := Lib.join_one _ _
theorem C8 (t : KT) {r : List KT} (h : r ≠ []) : jn (t :: r) = t.2.data.toList ++ 32 :: jn r := by
  cases r with
  | nil => exact absurd rfl h
  | cons u r =>
    unfold jn
    rw [List.map_cons, List.map_cons, Lib.join_cons, Lib.join_cons]
    simp [Lib.joinTail]
theorem Eh : ∀ {s r : List KT}, s ≠ [] -> r ≠ [] -> jn (s ++ r) = jn s ++ 32 :: jn r
  | [], _, h, _ => absurd rfl h
  | [t], r, _, h => by rw [List.singleton_append, C8 t h, If]
  | t :: u :: s, r, _, h => by
    rw [List.cons_append, C8 t (by simp), Eh (by simp) h, C8 t (by simp)]
    simp
theorem U3 : ∀ {ts : List KT}, (∀ t ∈ ts, t.2.size <= 12) -> (jn ts).length <= 13 * ts.length
  | [], _ => by simp [jn, Lib.join_nil]
  | [t], h => by rw [If]; have := h t (by simp); simp; omega
  | t :: u :: r, h => by
    have h1 := U3 (ts := u :: r) fun x hx => h x (List.mem_cons_of_mem _ hx)
    have h2 := h t (by simp)
    rw [C8 t (by simp)]
    simp only [List.length_append, List.length_cons, Array.length_toList] at h1 |-
    have : t.2.data.size = t.2.size := rfl
    omega
theorem Ci (a b : ByteArray) : (a ++ b).data.toList = a.data.toList ++ b.data.toList := by simp
theorem N1 {x : Ex} (h : Good x) : tkX x ≠ [] := fun e => by have := Sd h; rw [e] at this; simp at this
theorem Ot {x : Ex} (h : Good x) (k : Int) : tkW x k ≠ [] := fun e => by have := T9 h k; unfold tkN at this; rw [e] at this; simp at this
theorem Li {x : Ex} (hx : Good x) (h : (Ap x).data.toList = jn (tkX x)) (k : Int) : (F5 (Ap x, Ak x.op) k).data.toList = jn (tkW x k) := by
  unfold F5
  split
  . rename_i hc
    rw [P2 hc, Eh (by simp) (by simp), C8 _ (N1 hx), If, Ci, Ci, h]
    simp [Wk, Ahm, Ik, Hl]
  . rename_i hc
    rw [Lf (by exact Int.not_lt.1 hc), h]
theorem P9 {x : Ex} (hx : Good x) : (Ap x).data.toList = jn (tkX x) := by
  induction hx with
  | num n h1 h2 => rw [Lo, If, Cp]; rfl
  | name s h1 => rw [Id, If, Cp]; rfl
  | yes => rw [Mk, If, Cp]; rfl
  | no => rw [Sg, If, Cp]; rfl
  | neg y hy ih =>
    rw [Fa, C8 _ (Ot hy _), <- Li hy ih, Cp, Cd, show (nd 5 [y]).op = 5 from rfl, show (nd 5 [y]).args = [y] from rfl, Ev (by omega)]
    simp only [List.map_cons, List.map_nil]
    rw [Ci, Ci]
    simp [sSp, kOp]
  | not y hy ih =>
    rw [Fa, C8 _ (Ot hy _), <- Li hy ih, Cp, Cd, show (nd 6 [y]).op = 6 from rfl, show (nd 6 [y]).args = [y] from rfl, Ev (by omega)]
    simp only [List.map_cons, List.map_nil]
    rw [Ci, Ci]
    simp [sSp, kOp]
  | bin o y z h1 h2 hy hz ih1 ih2 =>
    rw [Jt, Eh (Ot hy _) (by simp), C8 _ (Ot hz _), <- Li hy ih1, <- Li hz ih2, Cp, Cd, show (nd o [y, z]).op = o from rfl, show (nd o [y, z]).args = [y, z] from rfl, Ev (by omega)]
    simp only [List.map_cons, List.map_nil]
    unfold Tl Uc
    split
    . rw [Ci, Ci, Ci, Ci]
      simp [sSp, kOp]
    . rw [Ci, Ci, Ci, Ci]
      simp [sSp, kOp]
  | ite y z w hy hz hw ih1 ih2 ih3 =>
    rw [Sf, C8 _ (by simp), Eh (N1 hy) (by simp), C8 _ (by simp), Eh (N1 hz) (by simp), C8 _ (N1 hw), <- ih1, <- ih2, <- ih3, Cp, Cd]
    show ((((((sIf ++ Ap y) ++ Mp) ++ Ap z) ++ Wj) ++ Ap w) : ByteArray).data.toList = _
    rw [Ci, Ci, Ci, Ci, Ci]
    simp [sIf, Mp, Wj, kIf, Kq, Kp]
def Jr (t : KT) : Bool := Ay t.1 t.2.data.toList
theorem E2 {ts : List KT} {v k : Int} (h : ∀ t ∈ ts, Jr t = true) : ∀ t ∈ N9 (ts, v) k, Jr t = true := by
  intro t ht
  unfold N9 at ht
  split at ht
  . rcases List.mem_append.1 ht with ht | ht
    . rcases List.mem_cons.1 ht with rfl | ht
      . decide +kernel
      . exact h t ht
    . rw [List.mem_singleton] at ht; subst ht; decide +kernel
  . exact h t ht
theorem Ir {o : Int} (h1 : 5 <= o) (h2 : o <= 18) : Jr (kOp o) = true := by
  rcases M0 h1 h2 with rfl | rfl | rfl | rfl | rfl | rfl | rfl | rfl | rfl | rfl | rfl | rfl | rfl | rfl <;> decide +kernel
theorem N2 {x : Ex} (hx : Good x) : ∀ t ∈ tkX x, Jr t = true := by
  induction hx with
  | num n h1 h2 =>
    rw [Lo]
    intro t ht
    rw [List.mem_singleton] at ht; subst ht
    exact Ls h1 h2
  | name s h1 =>
    rw [Id]
    intro t ht
    rw [List.mem_singleton] at ht; subst ht
    exact h1
  | yes =>
    rw [Mk]
    intro t ht
    rw [List.mem_singleton] at ht; subst ht
    decide +kernel
  | no =>
    rw [Sg]
    intro t ht
    rw [List.mem_singleton] at ht; subst ht
    decide +kernel
  | neg y hy ih =>
    rw [Fa]
    intro t ht
    rcases List.mem_cons.1 ht with rfl | ht
    . exact Ir (by omega) (by omega)
    . exact E2 ih t ht
  | not y hy ih =>
    rw [Fa]
    intro t ht
    rcases List.mem_cons.1 ht with rfl | ht
    . exact Ir (by omega) (by omega)
    . exact E2 ih t ht
  | bin o y z h1 h2 hy hz ih1 ih2 =>
    rw [Jt]
    intro t ht
    rcases List.mem_append.1 ht with ht | ht
    . exact E2 ih1 t ht
    . rcases List.mem_cons.1 ht with rfl | ht
      . exact Ir (by omega) (by omega)
      . exact E2 ih2 t ht
  | ite y z w hy hz hw ih1 ih2 ih3 =>
    rw [Sf]
    intro t ht
    rcases List.mem_cons.1 ht with rfl | ht
    . decide +kernel
    rcases List.mem_append.1 ht with ht | ht
    . exact ih1 t ht
    rcases List.mem_cons.1 ht with rfl | ht
    . decide +kernel
    rcases List.mem_append.1 ht with ht | ht
    . exact ih2 t ht
    rcases List.mem_cons.1 ht with rfl | ht
    . decide +kernel
    . exact ih3 t ht
theorem Lw {t : KT} (h : Jr t = true) : t.2.size <= 12 := by have := Hg h; simpa using this
@[reducible] def Ec (x : Ex) : Nat := (Uk x).length
theorem Ax (o n : Int) (s : ByteArray) (l : List Ex) : Ec (.mk o n s l) = 1 + (Gm l).length := by unfold Ec; rw [Uk]; simp; omega
theorem Bf : (Gm []).length = 0 := by rw [Gm]; rfl
theorem Bj (x : Ex) (r : List Ex) : (Gm (x :: r)).length = Ec x + (Gm r).length := by rw [Gm]; simp
theorem Or (x : Ex) (k : Int) : tkN x k <= (tkX x).length + 2 := by rw [Q2]; split <;> omega
theorem Sc {x : Ex} (hx : Good x) : (tkX x).length + 2 <= 5 * Ec x := by
  induction hx with
  | num n h1 h2 => rw [Lo, Ax, Bf]; simp
  | name s h1 => rw [Id, Ax, Bf]; simp
  | yes => rw [Mk, nd, Ax, Bf]; simp
  | no => rw [Sg, nd, Ax, Bf]; simp
  | neg y hy ih =>
    have := Or y (Ak 5)
    unfold tkN at this
    rw [Fa, nd, Ax, Bj, Bf]; simp; omega
  | not y hy ih =>
    have := Or y (Ak 6)
    unfold tkN at this
    rw [Fa, nd, Ax, Bj, Bf]; simp; omega
  | bin o y z h1 h2 hy hz ih1 ih2 =>
    have a1 := Or y (Tl o)
    have a2 := Or z (Uc o)
    unfold tkN at a1 a2
    rw [Jt, nd, Ax, Bj, Bj, Bf]; simp; omega
  | ite y z w hy hz hw ih1 ih2 ih3 =>
    rw [Sf, nd, Ax, Bj, Bj, Bj, Bf]; simp; omega
theorem Fi : Tr [] = 0 := by rw [Tr]
theorem Hn (x : Ex) (r : List Ex) : Tr (x :: r) = max x.hgt (Tr r) := by rw [Tr]
theorem Hp (k d : Nat) : Dt k d [] = some k := by rw [Dt]
theorem Iy {k d j : Nat} {x : Ex} {r : List Ex} (h : vis k d x = some j) : Dt k d (x :: r) = Dt j d r := by rw [Dt, h]
theorem Hq {left d : Nat} {x : Ex} (h1 : left ≠ 0) (h2 : d <= 12) (h3 : Cl x = true) : vis left d x = Dt (left - 1) (d + 1) x.args := by
  rw [Tu, if_neg]
  simp only [h3, not_or]
  exact ⟨h1, by omega, by simp⟩
theorem Ez {o : Int} {l : List Ex} (h : (l.length : Int) = Fl o) (h2 : o ≠ 2) : Cl (nd o l) = true := by
  unfold Cl
  show (decide ((l.length : Int) = Fl o) && decide ((0 : Int) <= 0) && decide ((0 : Int) <= 9999) && (decide ((0 : Int) = 0) || decide (o = 1)) && (if o = 2 then _ else decide ((⟨#[]⟩ : ByteArray).size = 0))) = true
  rw [if_neg h2, decide_eq_true h]
  simp; rfl
theorem U2 {x : Ex} (hx : Good x) : ∀ (left d : Nat), Ec x <= left -> d + x.hgt <= 13 -> vis left d x = some (left - Ec x) := by
  have hh : ∀ o n s l, (Ex.mk o n s l).hgt = Tr l + 1 := fun o n s l => by rw [Ex.hgt]
  induction hx with
  | num n h1 h2 =>
    intro left d hn hd
    rw [Ax, Bf] at hn |-
    rw [hh, Fi] at hd
    rw [Hq (by omega) (by omega) (by
      unfold Cl
      show (decide (((([] : List Ex).length : Nat) : Int) = Fl 1) && decide (0 <= n) && decide (n <= 9999) && (decide (n = 0) || decide ((1 : Int) = 1)) && (if (1 : Int) = 2 then _ else decide ((⟨#[]⟩ : ByteArray).size = 0))) = true
      rw [decide_eq_true h1, decide_eq_true h2, if_neg (by decide)]
      simp only [Bool.and_true, Bool.or_true, decide_true, Bool.and_eq_true, decide_eq_true_eq]
      decide)]
    exact Hp _ _
  | name s h1 =>
    intro left d hn hd
    rw [Ax, Bf] at hn |-
    rw [hh, Fi] at hd
    rw [Hq (by omega) (by omega) (by
      unfold Cl
      show (decide (((([] : List Ex).length : Nat) : Int) = Fl 2) && decide ((0 : Int) <= 0) && decide ((0 : Int) <= 9999) && (decide ((0 : Int) = 0) || decide ((2 : Int) = 1)) && (if (2 : Int) = 2 then decide (B5 1 s.data.toList 0 = 0) else _)) = true
      have : B5 1 s.data.toList 0 = 0 := by
        unfold B5
        rw [if_neg]
        rw [show Ay 1 s.data.toList = true from h1]
        simp
      rw [if_pos rfl, decide_eq_true this]
      decide)]
    exact Hp _ _
  | yes =>
    intro left d hn hd
    rw [nd, Ax, Bf] at hn
    rw [nd, hh, Fi] at hd
    rw [Hq (by omega) (by omega) (Ez (by decide) (by decide)), nd, Ax, Bf]
    exact Hp _ _
  | no =>
    intro left d hn hd
    rw [nd, Ax, Bf] at hn
    rw [nd, hh, Fi] at hd
    rw [Hq (by omega) (by omega) (Ez (by decide) (by decide)), nd, Ax, Bf]
    exact Hp _ _
  | neg y hy ih =>
    intro left d hn hd
    rw [nd, Ax, Bj, Bf] at hn
    rw [nd, hh, Hn, Fi] at hd
    rw [Hq (by omega) (by omega) (Ez (by rfl) (by decide)), nd, Ax, Bj, Bf]
    show Dt _ _ [y] = _
    rw [Iy (ih _ _ (by omega) (by omega)), Hp]
    congr 1; omega
  | not y hy ih =>
    intro left d hn hd
    rw [nd, Ax, Bj, Bf] at hn
    rw [nd, hh, Hn, Fi] at hd
    rw [Hq (by omega) (by omega) (Ez (by rfl) (by decide)), nd, Ax, Bj, Bf]
    show Dt _ _ [y] = _
    rw [Iy (ih _ _ (by omega) (by omega)), Hp]
    congr 1; omega
  | bin o y z h1 h2 hy hz ih1 ih2 =>
    intro left d hn hd
    rw [nd, Ax, Bj, Bj, Bf] at hn
    rw [nd, hh, Hn, Hn, Fi] at hd
    rw [Hq (by omega) (by omega) (Ez (by
      have : o = 7 \/ o = 8 \/ o = 9 \/ o = 10 \/ o = 11 \/ o = 12 \/ o = 13 \/ o = 14 \/ o = 15 \/ o = 16 \/ o = 17 \/ o = 18 := by omega
      rcases this with rfl | rfl | rfl | rfl | rfl | rfl | rfl | rfl | rfl | rfl | rfl | rfl <;> rfl) (by omega)), nd, Ax, Bj, Bj, Bf]
    show Dt _ _ [y, z] = _
    rw [Iy (ih1 _ _ (by omega) (by omega)), Iy (ih2 _ _ (by omega) (by omega)), Hp]
    congr 1; omega
  | ite y z w hy hz hw ih1 ih2 ih3 =>
    intro left d hn hd
    rw [nd, Ax, Bj, Bj, Bj, Bf] at hn
    rw [nd, hh, Hn, Hn, Hn, Fi] at hd
    rw [Hq (by omega) (by omega) (Ez (by rfl) (by decide)), nd, Ax, Bj, Bj, Bj, Bf]
    show Dt _ _ [y, z, w] = _
    rw [Iy (ih1 _ _ (by omega) (by omega)), Iy (ih2 _ _ (by omega) (by omega)), Iy (ih3 _ _ (by omega) (by omega)), Hp]
    congr 1; omega
theorem Pd {x : Ex} (hx : Good x) (h1 : Ec x <= 60) (h2 : x.hgt <= 12) : Bg x = 0 := by
  rw [Cr]; unfold Ge
  rw [U2 hx 60 1 h1 (by omega)]; rfl
theorem Nl {x : Ex} (h : Bg x = 0) : Ec x <= 60 := by
  obtain ⟨k, hk⟩ := Option.isSome_iff_exists.1 ((Cr x).1 h)
  have := (Wy x _ _ _ hk).1
  unfold Ec; omega
theorem Yv {s : ByteArray} (h : Ei s.data.toList = true) : s.size <= 12 := by
  have : Ay 1 s.data.toList = true := h
  have := Hg this
  simpa using this
theorem Pe {x : Ex} (hx : Good x) : x.small := by
  induction hx with
  | num n h1 h2 => exact ⟨Nat.zero_le _, trivial⟩
  | name s h1 => exact ⟨by have := Yv h1; omega, trivial⟩
  | yes => exact ⟨Nat.zero_le _, trivial⟩
  | no => exact ⟨Nat.zero_le _, trivial⟩
  | neg y hy ih => exact ⟨Nat.zero_le _, ih, trivial⟩
  | not y hy ih => exact ⟨Nat.zero_le _, ih, trivial⟩
  | bin o y z h1 h2 hy hz ih1 ih2 => exact ⟨Nat.zero_le _, ih1, ih2, trivial⟩
  | ite y z w hy hz hw ih1 ih2 ih3 => exact ⟨Nat.zero_le _, ih1, ih2, ih3, trivial⟩
def ktL (l : List TkZ) : List KT := l.map fun t => (t.1, t.2.1)
theorem Amz {l : List TkZ} {ts r : List KT} : ∀ {a : Nat}, (ktL l).drop a = ts ++ r -> Ah7 l a ts := by
  induction ts with
  | nil => intro a _; trivial
  | cons t ts ih =>
    intro a h
    have h0 : (ktL l)[a]? = some t := by
      have := congrArg (fun z => z[0]?) h
      simpa using this
    refine ⟨by simpa [ktL, ktA] using h0, ih (a := a + 1) ?_⟩
    rw [<- List.drop_drop, h]; rfl
def zT (t : KT) : ZTok := ⟨t.1, t.2.data.toList, 0⟩
theorem Ou (p : Nat) : ∀ (items : List (List UInt8 × ZTok)) (q : Nat), ∀ t ∈ toks q items, t.pos + t.text.length <= q + (pad items).length
  | [], q => by simp [toks]
  | x :: r, q => by
    intro t ht
    rw [toks] at ht
    rw [Gr]
    simp only [List.length_append]
    rcases List.mem_cons.1 ht with rfl | ht
    . simp; omega
    . have := Ou p r _ t ht
      omega
theorem Wn {ts : List KT} (hr : ∀ t ∈ ts, Jr t = true) (hlen : ts.length <= 1500) : ∃ tl, Cn (jn ts) = (tl, 0, 0) /\ ktL (tl.map Mt) = ts /\ Fr (tl.map Mt) = -1 /\ tl.length = ts.length := by
  have hlen2 := U3 fun t ht => Lw (hr t ht)
  have e1 : jn ts = Lib.join ((ts.map zT).map (·.text)) [32] := by unfold jn zT; rw [List.map_map]; rfl
  have hr' : ∀ t ∈ ts.map zT, Ay t.kind t.text = true := by
    intro t ht
    obtain ⟨u, hu, rfl⟩ := List.mem_map.1 ht
    exact hr u hu
  have h := R3 hr' (by simp; omega) (by rw [<- e1]; omega)
  rw [<- e1] at h
  have hk := N0 (ts.map zT)
  refine ⟨_, h, ?_, ?_, by rw [N3, Gt]; simp⟩
  . have h3 : (toks 0 (Ed (ts.map zT))).map (fun t => (t.kind, t.text)) = ts.map fun t => (t.1, t.2.data.toList) := by
      have := hk
      rw [List.map_map, List.map_map] at this
      exact this
    unfold ktL
    rw [List.map_map]
    have h4 := congrArg (List.map fun q : Int × List UInt8 => ((q.1, Aq q.2) : KT)) h3
    rw [List.map_map, List.map_map] at h4
    refine h4.trans ?_
    refine (List.map_congr_left fun t _ => ?_).trans (List.map_id _)
    show ((t.1, Aq t.2.data.toList) : KT) = t
    rw [Oe]
  . unfold Fr
    have hp : pad (Ed (ts.map zT)) = jn ts := by rw [Hc, <- e1]
    have hnone : ((toks 0 (Ed (ts.map zT))).map Mt).findIdx? Xg = none := by
      rw [List.findIdx?_eq_none_iff]
      intro t ht
      obtain ⟨u, hu, rfl⟩ := List.mem_map.1 ht
      have hpos := Ou 0 _ 0 u hu
      rw [hp] at hpos
      have hur : Ay u.kind u.text = true := by
        have hm : (u.kind, u.text) ∈ (ts.map zT).map fun t => (t.kind, t.text) := by
          rw [<- hk]
          exact List.mem_map.2 ⟨u.z, List.mem_map.2 ⟨u, hu, rfl⟩, rfl⟩
        obtain ⟨v, hv, hv2⟩ := List.mem_map.1 hm
        have := hr' v hv
        rw [Prod.mk.injEq] at hv2
        rw [hv2.1, hv2.2] at this
        exact this
      have hne := Ek hur
      have hl1 : 1 <= u.text.length := by cases h : u.text with | nil => exact absurd h hne | cons => simp
      unfold Xg Mt
      simp only [Bool.not_eq_false', decide_eq_true_eq]
      unfold B5
      rw [if_neg]
      simp only [Dn, hur, not_or]
      exact ⟨by omega, by omega, by simp⟩
    rw [hnone]
theorem Ua {x : Ex} (hc : Bg x = 0) : (tkX x).length <= 300 := by
  have := Sc (C7 hc)
  have := Nl hc
  omega
theorem Om {x : Ex} (hc : Bg x = 0) {l : List TkZ} {pre post : List KT} (hk : ktL l = pre ++ (tkX x ++ post)) (hi : Fr l = -1) (hp : post = [] \/ ∃ r, post = (4, ⟨#[59]⟩) :: r) : De l (pre.length : Nat) = (x, ((pre.length + (tkX x).length : Nat) : Int), 0) := by
  have hg := C7 hc
  have hll : l.length = pre.length + ((tkX x).length + post.length) := by
    have := congrArg List.length hk
    simpa [ktL] using this
  have hdrop : (ktL l).drop pre.length = tkX x ++ post := by rw [hk]; simp
  have hlay := Amz hdrop
  have hfol : Fol l (pre.length + (tkX x).length) 0 := by
    rcases hp with rfl | ⟨r, rfl⟩
    . exact fol_end (by simp at hll; omega)
    . have hd2 : (ktL l).drop (pre.length + (tkX x).length) = [(4, ⟨#[59]⟩)] ++ r := by rw [<- List.drop_drop, hdrop]; simp
      exact Ait (Amz hd2).1 opK_semi
  unfold De
  rw [if_neg (by omega), if_neg (by omega)]
  simp only [Int.toNat_natCast]
  rw [Ahf hg hlay hfol]
  simp [PRes.yes, hc]
theorem Lz {x : Ex} (hc : Bg x = 0) : ∃ tl, Cn (Ap x).data.toList = (tl, 0, 0) /\ ktL (tl.map Mt) = tkX x /\ Fr (tl.map Mt) = -1 /\ tl.length = (tkX x).length := by
  rw [P9 (C7 hc)]
  exact Wn (N2 (C7 hc)) (by have := Ua hc; omega)
theorem Al2 {x y : Ex} (hx : Bg x = 0) (hy : Bg y = 0) (h : Ap x = Ap y) : x = y := by
  obtain ⟨t1, a1, b1, c1, _⟩ := Lz hx
  obtain ⟨t2, a2, b2, c2, _⟩ := Lz hy
  rw [h, a2] at a1
  have e : t2 = t1 := congrArg Prod.fst a1
  subst e
  have p1 := Om (pre := []) (post := []) hx (by simpa using b1) c1 (.inl rfl)
  have p2 := Om (pre := []) (post := []) hy (by simpa using b2) c2 (.inl rfl)
  rw [p1] at p2
  exact congrArg Prod.fst p2
mutual
theorem Af0 : ∀ x y : Ex, x.same y = true <-> x = y
  | .mk o n s l, .mk o' n' s' l' => by
    rw [Ex.same]
    simp only [Bool.and_eq_true, decide_eq_true_eq, Ex.mk.injEq, Zt l l', and_assoc]
theorem Zt : ∀ l l' : List Ex, Ly l l' = true <-> l = l'
  | [], [] => by simp [Ly]
  | [], y :: l' => by simp [Ly]
  | x :: l, [] => by simp [Ly]
  | x :: l, y :: l' => by rw [Ly, Bool.and_eq_true, Af0 x y, Zt l l', List.cons.injEq]
end
theorem Me (num : Bool) {n : Int} (h : 0 <= n /\ n < 256) : Good (C2 num n) := by
  unfold C2
  split
  . have : n / 16 % 2 = 0 \/ n / 16 % 2 = 1 := by omega
    rcases this with e | e <;> rw [e]
    . exact .yes
    . exact .no
  . split
    . have : n / 16 % 3 = 0 \/ n / 16 % 3 = 1 \/ n / 16 % 3 = 2 := by omega
      rcases this with e | e | e <;> rw [e] <;> exact .name _ (by decide +kernel)
    . have : n / 16 % 8 = 0 \/ n / 16 % 8 = 1 \/ n / 16 % 8 = 2 \/ n / 16 % 8 = 3 \/ n / 16 % 8 = 4 \/ n / 16 % 8 = 5 \/ n / 16 % 8 = 6 \/ n / 16 % 8 = 7 := by omega
      rcases this with e | e | e | e | e | e | e | e <;> rw [e] <;> exact .num _ (by decide) (by decide)
theorem Pj {num : Bool} {n : Int} (h : 0 <= n /\ n < 256) {l : List Ex} (hl : l.length = (A8 num n).2.length) (hg : ∀ x ∈ l, Good x) : Good (.mk (A8 num n).1 0 ⟨#[]⟩ l) := by
  have one : l.length = 1 -> ∃ a, l = [a] /\ Good a := fun h => by
    match l, h, hg with
    | [a], _, hg => exact ⟨a, rfl, hg a (by simp)⟩
  have two : l.length = 2 -> ∃ a b, l = [a, b] /\ Good a /\ Good b := fun h => by
    match l, h, hg with
    | [a, b], _, hg => exact ⟨a, b, rfl, hg a (by simp), hg b (by simp)⟩
  have three : l.length = 3 -> ∃ a b c, l = [a, b, c] /\ Good a /\ Good b /\ Good c := fun h => by
    match l, h, hg with
    | [a, b, c], _, hg => exact ⟨a, b, c, rfl, hg a (by simp), hg b (by simp), hg c (by simp)⟩
  unfold A8 at hl |-
  split at hl
  . rename_i h1
    rw [if_pos h1]
    split at hl
    . rename_i h2; rw [if_pos h2]
      obtain ⟨a, b, rfl, g1, g2⟩ := two hl
      exact .bin _ a b (by simp only; omega) (by simp only; omega) g1 g2
    . rename_i h2; rw [if_neg h2]
      split at hl
      . rename_i h3; rw [if_pos h3]
        obtain ⟨a, rfl, g1⟩ := one hl
        exact .not a g1
      . rename_i h3; rw [if_neg h3]
        split at hl
        . rename_i h4; rw [if_pos h4]
          obtain ⟨a, b, rfl, g1, g2⟩ := two hl
          exact .bin _ a b (by simp only; omega) (by simp only; omega) g1 g2
        . rename_i h4; rw [if_neg h4]
          obtain ⟨a, b, c, rfl, g1, g2, g3⟩ := three hl
          exact .ite a b c g1 g2 g3
  . rename_i h1
    rw [if_neg h1]
    split at hl
    . rename_i h2; rw [if_pos h2]
      obtain ⟨a, rfl, g1⟩ := one hl
      exact .neg a g1
    . rename_i h2; rw [if_neg h2]
      split at hl
      . rename_i h3; rw [if_pos h3]
        obtain ⟨a, b, rfl, g1, g2⟩ := two hl
        exact .bin _ a b (by simp only; omega) (by simp only; omega) g1 g2
      . rename_i h3; rw [if_neg h3]
        obtain ⟨a, b, c, rfl, g1, g2, g3⟩ := three hl
        exact .ite a b c g1 g2 g3
theorem Ft {g : Int -> Nat -> Ex × Nat} {R : Ex -> Prop} (hg : ∀ t a, R (g t a).1) : ∀ (ts : List Int) (a : Nat), ∀ x ∈ (Be g ts a).1, R x
  | [], a, x, h => by simp [Be] at h
  | t :: ts, a, x, h => by
    simp only [Be] at h
    rcases List.mem_cons.1 h with rfl | h
    . exact hg t a
    . exact Ft hg ts _ x h
theorem Oj (l : List UInt8) : ∀ (f : Nat) (want : Int) (a : Nat), Good (Gd l f want a).1
  | 0, want, a => by rw [Gd]; exact Me _ (Ey l a)
  | f + 1, want, a => by
    rw [Gd]
    split
    . exact Me _ (Ey l a)
    . exact Pj (Ey l a) (by rw [Fu, F8]) (Ft (Oj l f) _ _)
theorem Yq {l : List Ex} {k : Nat} (h : ∀ x ∈ l, x.hgt <= k) : Tr l <= k := by
  induction l with
  | nil => rw [Fi]; omega
  | cons x r ih =>
    rw [Hn]
    have h1 := h x (by simp)
    have h2 := ih fun y hy => h y (List.mem_cons_of_mem _ hy)
    omega
theorem Ew (num : Bool) (n : Int) : (C2 num n).hgt = 1 /\ Ec (C2 num n) = 1 := by
  have hh : ∀ o n s l, (Ex.mk o n s l).hgt = Tr l + 1 := fun o n s l => by rw [Ex.hgt]
  unfold C2
  repeat' split
  all_goals rw [hh, Fi, Ax, Bf]
  all_goals exact ⟨rfl, rfl⟩
theorem Rr (l : List UInt8) : ∀ (f : Nat) (want : Int) (a : Nat), (Gd l f want a).1.hgt <= f + 1
  | 0, want, a => by rw [Gd]; rw [(Ew _ _).1]; omega
  | f + 1, want, a => by
    rw [Gd]
    split
    . show (C2 _ _).hgt <= _
      rw [(Ew _ _).1]; omega
    . rw [Ex.hgt]
      have := Yq (Ft (R := fun x => x.hgt <= f + 1) (Rr l f) (Fq want (A8 (Dp want (Aw l a)) (Aw l a)).2) (a + 1))
      omega
theorem It {g : Int -> Nat -> Ex × Nat} (hg : ∀ t a, (g t a).2 = a + Ec (g t a).1 /\ (g t a).2 + 3 * (18 - (g t a).2) <= a + 3 * (18 - a) + 1) : ∀ (ts : List Int) (a : Nat), (Be g ts a).2 = a + (Gm (Be g ts a).1).length /\ (Be g ts a).2 + 3 * (18 - (Be g ts a).2) <= a + 3 * (18 - a) + ts.length
  | [], a => by simp [Be, Gm]
  | t :: ts, a => by
    simp only [Be]
    have h1 := hg t a
    have h2 := It hg ts (g t a).2
    rw [Bj]
    simp only [List.length_cons]
    omega
theorem Mh (l : List UInt8) : ∀ (f : Nat) (want : Int) (a : Nat), (Gd l f want a).2 = a + Ec (Gd l f want a).1 /\ (Gd l f want a).2 + 3 * (18 - (Gd l f want a).2) <= a + 3 * (18 - a) + 1
  | 0, want, a => by
    rw [Gd]
    simp only
    rw [(Ew _ _).2]
    omega
  | f + 1, want, a => by
    rw [Gd]
    split
    . simp only
      rw [(Ew _ _).2]
      omega
    . rename_i h5
      have ha : a < 18 := by
        have h6 : Aw l a ≠ 0 := by intro h; rw [h] at h5; omega
        unfold Aw at h6
        split at h6
        . rename_i h7; exact h7.2
        . exact absurd rfl h6
      have h1 := It (Mh l f) (Fq want (A8 (Dp want (Aw l a)) (Aw l a)).2) (a + 1)
      have h2 := Is (Dp want (Aw l a)) (Aw l a)
      rw [F8] at h1
      simp only
      rw [Ax]
      omega
theorem Rk (l : List UInt8) (want : Int) : Good (Ic l want) := Oj l 9 want 0
theorem M7 (l : List UInt8) (want : Int) : Bg (Ic l want) = 0 := by
  have h := Mh l 9 want 0
  exact Pd (Rk l want) (by unfold Ic; omega) (by have := Rr l 9 want 0; unfold Ic; omega)
end Go.Proofs.YtiledamgmppcmaaGreatDoor
namespace Go.Proofs.YtiledamgmppcmaaGreatDoor
open Go.RowKit
theorem Adf {s : ByteArray} {tl : List Tok} (h : Cn s.data.toList = (tl, 0, 0)) : An 35 [By s] ⟨[], []⟩ (.ret (.tup [Ll (tl.map Mt), Ai 0, Ai 0])) ⟨[], []⟩ := by
  have := Ahq s
  rw [h] at this
  rw [<- Lh]
  exact this
theorem Nc {s : ByteArray} {tl : List Tok} (h : Cn s.data.toList = (tl, 0, 0)) : (∀ t ∈ tl.map Mt, t.2.1.size <= 12) /\ (tl.map Mt).length <= 2000 := by
  have h1 := J3 s.data.toList
  have h2 := Ny s.data.toList
  rw [h] at h1 h2
  refine ⟨fun t ht => ?_, by rw [List.length_map]; exact h2⟩
  obtain ⟨u, hu, rfl⟩ := List.mem_map.1 ht
  have := Hg (h1 u hu)
  show (Aq u.text).size <= 12
  have e : (Aq u.text).size = u.text.length := by unfold Aq; simp [ByteArray.size]
  omega
theorem Akt {x y : Ex} (hx : Bg x = 0) (hy : Bg y = 0) : x.same y = decide (Ap x = Ap y) := by
  by_cases h : x = y
  . subst h; rw [Hh]; simp
  . have h1 : x.same y = false := by
      cases e : x.same y with
      | false => rfl
      | true => exact absurd ((Af0 x y).1 e) h
    rw [h1]; symm
    exact decide_eq_false fun e => h (Al2 hx hy e)
theorem Aj2 {x : Ex} (hx : Bg x = 0) : (Ap x).size <= 4000 := by
  have h1 := U3 fun t ht => Lw (N2 (C7 hx) t ht)
  rw [<- P9 (C7 hx)] at h1
  have := Ua hx
  have e : (Ap x).data.toList.length = (Ap x).size := by simp
  omega
theorem Adb {x : Ex} (hx : Bg x = 0) : An 16 [exP x] ⟨[], []⟩ (.ret (.tup [By (Ap x), Ai 0])) ⟨[], []⟩ := by
  have h := Vh x (Pe (C7 hx))
  rw [show Vv x = (Ap x, 0) from if_pos hx] at h
  exact h
theorem Afg {l : List TkZ} {a : Int} {x : Ex} {n e : Int} (h : De l a = (x, n, e)) (h1 : ∀ t ∈ l, t.2.1.size <= 12) (h2 : l.length <= 2000) : An 29 [Ll l, Ai a] ⟨[], []⟩ (.ret (.tup [exP x, Ai n, Ai e])) ⟨[], []⟩ := by
  have hp := M1 l a (by omega) (fun t ht => Nat.le_trans (h1 t ht) (by decide))
  rw [h] at hp
  exact hp
set_option maxHeartbeats 4000000 in
theorem Aly (l m : List UInt8) (want : Nat) (hwant : want < 256) (hw : An 24 [] ⟨[], []⟩ (.ret (A7 true)) ⟨[], []⟩) :
    An 7 [Co l, Co m, .d (.v (.int .u8 want))] ⟨[], []⟩ (.ret (A7 true)) ⟨[], []⟩ := by
  have hmx := O1 l ((want : Int) % 3)
  have hmy := O1 m ((want : Int) % 3)
  have hx := M7 l ((want : Int) % 3)
  have hy := M7 m ((want : Int) % 3)
  generalize Ic l ((want : Int) % 3) = x at hmx hx
  generalize Ic m ((want : Int) % 3) = y at hmy hy
  have hsx := Pe (C7 hx)
  have hsy := Pe (C7 hy)
  have htx := Adb hx
  have hty := Adb hy
  have hsm := Wl _ x y (Nat.le_refl _)
  rw [Akt hx hy] at hsm
  obtain ⟨tl, g1, g2, g3, g4⟩ := Lz hx
  obtain ⟨z1, z2⟩ := Nc g1
  have e1 : De (tl.map Mt) 0 = (x, (((tkX x).length : Nat) : Int), 0) := by
    have := Om (pre := []) (post := []) hx (by simpa using g2) g3 (.inl rfl)
    simpa using this
  have hp1 := Afg e1 z1 z2
  have hreads := Acp (s := Ap x) (x := x) (y := x) (n := ((tl.map Mt).map tkR).length) (by rw [g1]) (by
    rw [g1, Lh, show (((tl.map Mt).map tkR).length : Int) = ((tkX x).length : Nat) by simp [g4]]; exact hp1) (Hh x)
  have hsz := Aj2 hx
  have hgx := C7 hx
  have e2 : (((⟨#[59, 32]⟩ ++ Ap x) ++ ⟨#[32, 59, 32, 93]⟩ : ByteArray)).data.toList = jn ((4, ⟨#[59]⟩) :: (tkX x ++ [(4, ⟨#[59]⟩), (4, ⟨#[93]⟩)])) := by
    rw [C8 _ (by simp), Eh (N1 hgx) (by simp), C8 _ (by simp), If, <- P9 hgx, Ci, Ci]
    simp
  have hrt : ∀ t ∈ ((4, ⟨#[59]⟩) :: (tkX x ++ [(4, ⟨#[59]⟩), (4, ⟨#[93]⟩)]) : List KT), Jr t = true := by
    intro t ht
    rcases List.mem_cons.1 ht with rfl | ht
    . decide +kernel
    rcases List.mem_append.1 ht with ht | ht
    . exact N2 hgx t ht
    . simp only [List.mem_cons, List.not_mem_nil, or_false] at ht
      rcases ht with rfl | rfl <;> decide +kernel
  obtain ⟨tm, k1, k2, k3, k4⟩ := Wn hrt (by have := Ua hx; simp; omega)
  rw [<- e2] at k1
  have hscan2 := Adf k1
  obtain ⟨y1, y2⟩ := Nc k1
  have e3 : De (tm.map Mt) 1 = (x, (((tl.map Mt).map tkR).length : Int) + 1, 0) := by
    have := Om (pre := [(4, ⟨#[59]⟩)]) (post := [(4, ⟨#[59]⟩), (4, ⟨#[93]⟩)]) hx (by simpa using k2) k3 (.inr ⟨_, rfl⟩)
    rw [show ((([(4, ⟨#[59]⟩)] : List KT).length : Nat) : Int) = 1 from rfl] at this
    rw [this]
    simp [g4]; omega
  have hp2 := Afg e3 y1 y2
  have hsx2 := Wl _ x x (Nat.le_refl _)
  rw [Hh] at hsx2
  have hscan1 := Adf g1
  have hz : ((tl.map Mt).map tkR).length <= 2000 := by rw [List.length_map]; exact z2
  refine Af Tryz.func7 rfl rfl (Nat.le_of_ble_eq_true rfl) rfl (Nat.le_refl _) ?_
  repeat' (first | refine rl0 ?_ | refine rs0 (fun h => ?_) (fun h => ?_) | fail)
  refine wp1 hw ?_
  repeat' (first | refine rl0 ?_ | refine rs0 (fun h => ?_) (fun h => ?_) | fail)
  refine wst rfl rfl ⟨by show (-9223372036854775808 : Int) <= _; omega, by show _ <= (9223372036854775807 : Int); omega⟩ ?_
  refine wp1 hmx ?_
  repeat' (first | refine rl0 ?_ | refine rs0 (fun h => ?_) (fun h => ?_) | fail)
  refine wst rfl rfl ⟨by show (-9223372036854775808 : Int) <= _; omega, by show _ <= (9223372036854775807 : Int); omega⟩ ?_
  refine wp1 hmy ?_
  repeat' (first | refine rl0 ?_ | refine rs0 (fun h => ?_) (fun h => ?_) | fail)
  refine wp1 htx ?_
  repeat' (first | refine rl0 ?_ | refine rs0 (fun h => ?_) (fun h => ?_) | fail)
  refine wp1 hty ?_
  repeat' (first | refine rl0 ?_ | refine rs0 (fun h => ?_) (fun h => ?_) | fail)
  refine wp1 hsm ?_
  repeat' (first | refine rl0 ?_ | refine rs0 (fun h => ?_) (fun h => ?_) | fail)
  . exfalso; simp at h
  refine wp1 hscan1 ?_
  repeat' (first | refine rl0 ?_ | refine rs0 (fun h => ?_) (fun h => ?_) | fail)
  refine wp1 hreads ?_
  repeat' (first | refine rl0 ?_ | refine rs0 (fun h => ?_) (fun h => ?_) | fail)
  refine wst rfl rfl (by show 2 + (Ap x).size <= _; omega) ?_
  refine wst rfl rfl (by show (⟨#[59, 32]⟩ ++ Ap x : ByteArray).size + 4 <= _; rw [ByteArray.size_append]; show 2 + (Ap x).size + 4 <= _; omega) ?_
  refine wp1 hscan2 ?_
  repeat' (first | refine rl0 ?_ | refine rs0 (fun h => ?_) (fun h => ?_) | fail)
  refine wp1 hp2 ?_
  repeat' (first | refine rl0 ?_ | refine rs0 (fun h => ?_) (fun h => ?_) | fail)
  . refine wp1 hsx2 ?_
    repeat' (first | refine rl0 ?_ | refine rs0 (fun h => ?_) (fun h => ?_) | fail)
    rfl
  all_goals (exfalso; simp at h)
end Go.Proofs.YtiledamgmppcmaaGreatDoor
namespace Go.Proofs.YtiledamgmppcmaaGreatDoor.exprBack
open Go.ChangeShapes Go.WideShapes Go.ChangeAt Go.RowKit Go.Joins
set_option linter.unusedVariables false
theorem own : ownKnob Tryz.prog.godebug = none := by kernel_rfl
theorem laidOut : laidOutB Tryz.prog = true := by kernel_rfl
set_option maxRecDepth 100000 in
theorem lifted (os : Os) (started : os.Started) (H : Type) (enc : TypeId × Value -> H) :
    ReturnsInHanded {} Tryz.checked os 7 .any (fun w args => (Rows.exprBackSpec.pre enc Tryz.prog Tryz.f7 Rows.exprBackRow.domain false w args /\ laidMetH Tryz.prog Rows.exprBackRow.laid w) /\ sizedMet enc Tryz.prog Tryz.f7 (OpenSpec.ofChange Rows.exprBackSpec) false w args)
      (Rows.exprBackSpec.post enc Tryz.prog Tryz.f7 false true false false) := by
  refine returnsInHanded_of_change_and (C := Tryz.checked) (X := fun w _ => laidMetH Tryz.prog Rows.exprBackRow.laid w) (fun _ _ _ hh h => h.of_heap hh) own started (by kernel_rfl) Tryz.func7
    (ChangeSpec.witness_shaped (enc := enc) (C := Tryz.checked) (os := os) (X := fun w _ => laidMetH Tryz.prog Rows.exprBackRow.laid w) false (World.laidAll Tryz.prog os Rows.exprBackRow.laid)
      #[.slice none 0 0, .slice none 0 0, .int .u8 0] 8 (World.laidAll_os _ _ _)
      (World.shaped_of_ZipB (by kernel_rfl) (by kernel_rfl)) (by kernel_rfl) (by kernel_rfl) (by kernel_rfl)
      (by rw [MakeChecks.laidMetH_plain _ _ _ (by kernel_rfl)]; exact laidMet_laidAll _ (by kernel_rfl) (by kernel_rfl))) ?_
  intro W base args ds gs before hval0 hW hcnd _ hL _
  have hval : ∀ (j : Nat) t v, Tryz.f7.params[j]? = some t -> args[j]? = some v -> Value.okWide Tryz.prog W .any base t v := hval0
  have hW' := hW
  obtain ⟨p, q, hA0, hV, rfl, hfz, hnd⟩ := hW
  have hA : DataW.TrodAll enc Tryz.prog W 0 (fun _ => true) true Tryz.f7.params.toList args.toList ds p := hA0
  rw [Tryz.params7] at hA hval
  obtain ⟨v0, vs0, d0, ds0, p0, q0, hargs, rfl, rfl, h0, r0⟩ := trodAll_cons hA
  obtain ⟨v1, vs1, d1, ds1, p1, q1, rfl, rfl, rfl, h1, r1⟩ := trodAll_cons r0
  obtain ⟨v2, vs2, d2, ds2, p2, q2, rfl, rfl, rfl, h2, r2⟩ := trodAll_cons r1
  obtain ⟨rfl, rfl, rfl⟩ := trodAll_nil r2
  obtain rfl : args = #[v0, v1, v2] := by cases args; simp_all
  obtain ⟨rfl, rfl⟩ := trodVars_none hV
  have lt0 : ∀ x ∈ p0, x.block < W.heap.size := by obtain ⟨m, hm⟩ := h0; exact DataW.trod_lt m _ _ _ hm
  have lt1 : ∀ x ∈ p1, x.block < W.heap.size := by obtain ⟨m, hm⟩ := h1; exact DataW.trod_lt m _ _ _ hm
  have lt2 : ∀ x ∈ p2, x.block < W.heap.size := by obtain ⟨m, hm⟩ := h2; exact DataW.trod_lt m _ _ _ hm
  rw [MakeChecks.laidMetH_plain _ _ _ (by kernel_rfl)] at hL
  have hfr := Pc hL ⟨_, _, .tail _ (.tail _ (.head _)), by kernel_rfl, by kernel_rfl⟩
  obtain ⟨n0, e0, g0, s0⟩ := La Jc (by kernel_rfl) Tryz.underlying25 (hval 0 25 v0 rfl rfl) h0
  obtain ⟨l, rfl⟩ := Qo s0
  obtain ⟨n1, e1, g1, s1⟩ := La Jc (by kernel_rfl) Tryz.underlying25 (hval 1 25 v1 rfl rfl) h1
  obtain ⟨m, rfl⟩ := Qo s1
  obtain ⟨z2, g2, w2⟩ := Rv Tryz.underlying5 (hval 2 5 v2 rfl rfl) h2
  obtain ⟨u, rfl⟩ := Lp w2
  rw [Of] at g0 g1
  clear hA0 hval0
  refine (Pk (vs := [v0, v1, v2]) (Aly l m u.toNat u.toNat_lt Tj) hfr ⟨_, _, rfl, g0, _, _, rfl, g1, _, _, rfl, g2, rfl⟩).mono fun e W' ⟨he, bel⟩ => ?_
  subst he
  exact ⟨_, rfl, _, _, _, [], _, [], hW', trodAll_mk1 (shut_bool Tryz.underlying4 _), (trodAll_cons_mk (Below.trod laidOut (by kernel_rfl) (of_decide_eq_true (by kernel_rfl)) h0 bel lt0) (trodAll_cons_mk (Below.trod laidOut (by kernel_rfl) (of_decide_eq_true (by kernel_rfl)) h1 bel lt1) (trodAll_cons_mk (Below.trod laidOut (by kernel_rfl) (of_decide_eq_true (by kernel_rfl)) h2 bel lt2) trodAll_mk0))), rfl, bel.frame _, fun h => by cases h⟩
end Go.Proofs.YtiledamgmppcmaaGreatDoor.exprBack
