/- Plain laws: tokens laid out with separators scan back. No program in sight. -/
import Derived.Test.YtigppjgmfonodaaLexZ
import Derived.Test.YtigppjgmfonodaaLexU
namespace Go.Proofs.Ytigppjgmfonodaa
open Go.RowKit

/-- Space that ends (comments closed). -/
def Fill (s : List UInt8) : Prop := ∀ y, skipF false (s ++ y) = skipF false y
def Sep (s : List UInt8) : Prop := Fill s ∧ ∃ c t, s = c :: t ∧ (c = 32 ∨ c = 10 ∨ c = 35)
theorem fill_nil : Fill [] := fun _ => rfl
theorem Sep.edge {s : List UInt8} (h : Sep s) (y : List UInt8) : Edge (s ++ y) := by
  obtain ⟨_, c, t, rfl, hc⟩ := h
  exact .inr ⟨c, t ++ y, rfl, hc⟩

def pad (l : List (List UInt8 × ZTok)) : List UInt8 := l.flatMap fun x => x.1 ++ x.2.text
def toks (p : Nat) : List (List UInt8 × ZTok) → List Tok
  | [] => []
  | x :: r => ⟨x.2.kind, x.2.text, p + x.1.length⟩ :: toks (p + x.1.length + x.2.text.length) r
theorem pad_cons (x : List UInt8 × ZTok) (r : List (List UInt8 × ZTok)) : pad (x :: r) = x.1 ++ (x.2.text ++ pad r) := by simp [pad]
theorem pad_snoc (l : List (List UInt8 × ZTok)) (x : List UInt8 × ZTok) : pad (l ++ [x]) = pad l ++ x.1 ++ x.2.text := by simp [pad]
theorem toks_snoc (p : Nat) (l : List (List UInt8 × ZTok)) (x : List UInt8 × ZTok) : toks p (l ++ [x]) = toks p l ++ [⟨x.2.kind, x.2.text, p + (pad l).length + x.1.length⟩] := by
  induction l generalizing p with
  | nil => simp [toks, pad]
  | cons y r ih =>
    simp only [List.cons_append, toks]
    rw [ih, pad_cons]
    simp only [List.length_append, List.cons_append]
    congr 4
    omega
theorem toks_length (p : Nat) (l : List (List UInt8 × ZTok)) : (toks p l).length = l.length := by
  induction l generalizing p with
  | nil => rfl
  | cons y r ih => simp [toks, ih]
theorem toks_same (p : Nat) (l : List (List UInt8 × ZTok)) : (toks p l).map (fun t => (t.kind, t.text)) = l.map (fun x => (x.2.kind, x.2.text)) := by
  induction l generalizing p with
  | nil => rfl
  | cons y r ih => simp [toks, ih]

/-- Every token right; every separator but the first begins with space. -/
def Padded : Bool → List (List UInt8 × ZTok) → Prop
  | _, [] => True
  | b, x :: r => Fill x.1 ∧ (b = true → Sep x.1) ∧ rightB x.2.kind x.2.text = true ∧ Padded true r
theorem Padded.edge {r : List (List UInt8 × ZTok)} (h : Padded true r) {tl : List UInt8} (ht : Edge tl) : Edge (pad r ++ tl) := by
  cases r with
  | nil => exact ht
  | cons x r => rw [pad_cons, List.append_assoc]; exact (h.2.1 rfl).edge _

theorem scan_many {n : Nat} (items : List (List UInt8 × ZTok)) (b : Bool) (tl : List UInt8) (acc : List Tok) (f p : Nat) (hn : n = p + (pad items ++ tl).length) (hp : Padded b items) (ht : Edge tl) (ha : acc.length + items.length ≤ 2000) :
    scanG n (f + items.length) (pad items ++ tl) acc = scanG n f tl (acc ++ toks p items) := by
  induction items generalizing b acc p with
  | nil => simp [pad, toks]
  | cons x r ih =>
    obtain ⟨h1, h2, h3, h4⟩ := hp
    have hr : Edge (pad r ++ tl) := h4.edge ht
    have hs : skipF false (x.1 ++ (x.2.text ++ (pad r ++ tl))) = x.2.text ++ (pad r ++ tl) := by rw [h1, skip_right h3]
    rw [pad_cons] at hn ⊢
    simp only [List.length_cons] at ha
    rw [show x.1 ++ (x.2.text ++ pad r) ++ tl = x.1 ++ (x.2.text ++ (pad r ++ tl)) by simp, List.length_cons, ← Nat.add_assoc, scan_step hs h3 hr (by omega)]
    have hn' : n = p + x.1.length + x.2.text.length + (pad r ++ tl).length := by rw [hn]; simp; omega
    rw [ih true _ (p + x.1.length + x.2.text.length) hn' h4 (by simp; omega)]
    rw [show n - (x.2.text ++ (pad r ++ tl)).length = p + x.1.length by simp only [List.length_append] at hn' ⊢; omega]
    simp [toks]

theorem pad_len_ge {b : Bool} {items : List (List UInt8 × ZTok)} (h : Padded b items) : items.length ≤ (pad items).length := by
  induction items generalizing b with
  | nil => simp
  | cons x r ih =>
    obtain ⟨_, _, h3, h4⟩ := h
    have := ih h4
    have h5 := rightB_ne h3
    have : 1 ≤ x.2.text.length := by cases hx : x.2.text with | nil => exact absurd hx h5 | cons => simp
    rw [pad_cons]; simp; omega
theorem pad_len_le (items : List (List UInt8 × ZTok)) (m : Nat) (h : ∀ x ∈ items, x.1.length + x.2.text.length ≤ m) : (pad items).length ≤ items.length * m := by
  induction items with
  | nil => simp [pad]
  | cons x r ih =>
    have h1 := ih (fun y hy => h y (List.mem_cons_of_mem _ hy))
    have h2 := h x (List.mem_cons_self ..)
    rw [pad_cons, List.length_cons, Nat.succ_mul]; simp; omega

/-- Tokens laid out, and space behind them. -/
theorem scan_padded {b : Bool} {items : List (List UInt8 × ZTok)} {tl : List UInt8} (hp : Padded b items) (ht : Edge tl) (hs : skipF false tl = []) (h1 : items.length ≤ 2000) (h2 : (pad items ++ tl).length ≤ 20000) :
    scanT (pad items ++ tl) = (toks 0 items, 0, 0) := by
  unfold scanT
  rw [if_neg (by omega)]
  have h3 := pad_len_ge hp
  obtain ⟨f, hf⟩ : ∃ f, (pad items ++ tl).length + 1 = f + 1 + items.length := ⟨(pad items ++ tl).length - items.length, by simp only [List.length_append]; omega⟩
  rw [hf, scan_many items b tl [] (f + 1) 0 (by omega) hp ht (by simpa using h1), ← scanG_skip, hs, scanG_end]
  simp

/-- What Print lays out. -/
def spaced : List ZTok → List (List UInt8 × ZTok)
  | [] => []
  | t :: r => ([], t) :: r.map fun t => ([32], t)
theorem sep_sp : Sep [32] := ⟨fun y => by simp [skipF], 32, [], rfl, .inl rfl⟩
theorem pad_spaced (l : List ZTok) : pad (spaced l) = Lib.join (l.map (·.text)) [32] := by
  cases l with
  | nil => rfl
  | cons t r =>
    rw [List.map_cons, Lib.join_cons]
    simp only [spaced, pad_cons, List.nil_append]
    congr 1
    simp [pad, Lib.joinTail, List.flatMap_map, List.flatMap]
    rfl
theorem padded_tail {l : List ZTok} (h : ∀ t ∈ l, rightB t.kind t.text = true) : Padded true (l.map fun t => ([32], t)) := by
  induction l with
  | nil => trivial
  | cons t r ih => exact ⟨sep_sp.1, fun _ => sep_sp, h t (List.mem_cons_self ..), ih (fun y hy => h y (List.mem_cons_of_mem _ hy))⟩
theorem padded_spaced {l : List ZTok} (h : ∀ t ∈ l, rightB t.kind t.text = true) : Padded false (spaced l) := by
  cases l with
  | nil => trivial
  | cons t r => exact ⟨fill_nil, fun h => (by cases h), h t (List.mem_cons_self ..), padded_tail (fun y hy => h y (List.mem_cons_of_mem _ hy))⟩
theorem spaced_snd (l : List ZTok) : (spaced l).map (·.2) = l := by
  cases l with
  | nil => rfl
  | cons t r => simp [spaced, Function.comp_def]
theorem spaced_length (l : List ZTok) : (spaced l).length = l.length := by
  have := congrArg List.length (spaced_snd l)
  simpa using this

/-- What is printed scans back. -/
theorem scan_join {l : List ZTok} (h : ∀ t ∈ l, rightB t.kind t.text = true) (h1 : l.length ≤ 2000) (h2 : (Lib.join (l.map (·.text)) [32]).length ≤ 20000) :
    scanT (Lib.join (l.map (·.text)) [32]) = (toks 0 (spaced l), 0, 0) := by
  have := scan_padded (tl := []) (padded_spaced h) (.inl rfl) rfl (by rw [spaced_length]; exact h1) (by rw [List.append_nil, pad_spaced]; exact h2)
  rwa [List.append_nil, pad_spaced] at this
theorem spaced_same (l : List ZTok) : ((toks 0 (spaced l)).map Tok.z).map (fun t => (t.kind, t.text)) = l.map (fun t => (t.kind, t.text)) := by
  have h := toks_same 0 (spaced l)
  have h2 := congrArg (List.map fun t : ZTok => (t.kind, t.text)) (spaced_snd l)
  simp only [List.map_map] at h2 ⊢
  rw [← h2]
  exact h
end Go.Proofs.Ytigppjgmfonodaa
