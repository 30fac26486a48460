/- What the evaluator's values, blocks and memories stand for, and its operations on them, each shown to do what the machine does; condition: the memories correspond. -/
import Derived.Test.YtcplpfnieabelaaGreatDoorAmA
import Derived.Laws.Sem
import Derived.Laws.Cells
import Derived.Laws.IdiomCopy
import Derived.Laws.StructEq
namespace Go.AM

/-! Finite maps. -/
namespace Tr
variable {α : Type}

theorem get_nil (n : Nat) : (Tr.nil : Tr α).get n = none := rfl
theorem get_node_zero (l : Tr α) (v : Option α) (r : Tr α) : (Tr.node l v r).get 0 = v := rfl
theorem get_node_succ (l : Tr α) (v : Option α) (r : Tr α) (n : Nat) :
    (Tr.node l v r).get (n + 1) = if n % 2 = 0 then l.get (n / 2) else r.get (n / 2) := by
  show Bool.rec (motive := fun _ => Option α) (r.get (n / 2)) (l.get (n / 2)) (Nat.beq (n % 2) 0) = _
  cases h : Nat.beq (n % 2) 0 with
  | true => rw [if_pos (Nat.eq_of_beq_eq_true h)]
  | false => rw [if_neg (fun e => by rw [e] at h; cases h)]

theorem fresh_zero (a : Option α) (f : Nat) : fresh a f 0 = .node .nil a .nil := by cases f <;> rfl
theorem fresh_succ (a : Option α) (f n : Nat) :
    fresh a (f + 1) (n + 1) = if n % 2 = 0 then .node (fresh a f (n / 2)) none .nil else .node .nil none (fresh a f (n / 2)) := by
  show Bool.rec (motive := fun _ => Tr α) _ _ (Nat.beq (n % 2) 0) = _
  cases h : Nat.beq (n % 2) 0 with
  | true => rw [if_pos (Nat.eq_of_beq_eq_true h)]; rfl
  | false => rw [if_neg (fun e => by rw [e] at h; cases h)]; rfl

theorem put_nil (a : Option α) (n : Nat) : put a .nil n = fresh a n n := rfl
theorem put_node_zero (a : Option α) (l : Tr α) (v : Option α) (r : Tr α) : put a (.node l v r) 0 = .node l a r := rfl
theorem put_node_succ (a : Option α) (l : Tr α) (v : Option α) (r : Tr α) (n : Nat) :
    put a (.node l v r) (n + 1) = if n % 2 = 0 then .node (put a l (n / 2)) v r else .node l v (put a r (n / 2)) := by
  show Bool.rec (motive := fun _ => Tr α) _ _ (Nat.beq (n % 2) 0) = _
  cases h : Nat.beq (n % 2) 0 with
  | true => rw [if_pos (Nat.eq_of_beq_eq_true h)]; rfl
  | false => rw [if_neg (fun e => by rw [e] at h; cases h)]; rfl

theorem get_fresh (a : Option α) : ∀ (f n m : Nat), n ≤ f → (fresh a f n).get m = if m = n then a else none := by
  intro f
  induction f with
  | zero =>
    intro n m h
    obtain rfl : n = 0 := by omega
    rw [fresh_zero]
    cases m with
    | zero => rfl
    | succ m => rw [get_node_succ]; simp [get_nil]
  | succ f ih =>
    intro n m h
    cases n with
    | zero =>
      rw [fresh_zero]
      cases m with
      | zero => rfl
      | succ m => rw [get_node_succ]; simp [get_nil]
    | succ n =>
      rw [fresh_succ]
      by_cases hn : n % 2 = 0
      · rw [if_pos hn]
        cases m with
        | zero => simp [get_node_zero]
        | succ m =>
          rw [get_node_succ, get_nil]
          by_cases hm : m % 2 = 0
          · rw [if_pos hm, ih _ _ (by omega)]
            by_cases e : m = n
            · subst e; simp
            · rw [if_neg (by omega), if_neg (by omega)]
          · rw [if_neg hm, if_neg (by rintro e; apply hm; omega)]
      · rw [if_neg hn]
        cases m with
        | zero => simp [get_node_zero]
        | succ m =>
          rw [get_node_succ, get_nil]
          by_cases hm : m % 2 = 0
          · rw [if_pos hm, if_neg (by rintro e; apply hn; omega)]
          · rw [if_neg hm, ih _ _ (by omega)]
            by_cases e : m = n
            · subst e; simp
            · rw [if_neg (by omega), if_neg (by omega)]

theorem get_put (a : Option α) (t : Tr α) : ∀ (n m : Nat), (put a t n).get m = if m = n then a else t.get m := by
  induction t with
  | nil => intro n m; rw [put_nil, get_fresh a n n m (Nat.le_refl _), get_nil]
  | node l v r ihl ihr =>
    intro n m
    cases n with
    | zero =>
      rw [put_node_zero]
      cases m with
      | zero => simp [get_node_zero]
      | succ m => rw [get_node_succ, get_node_succ]; simp
    | succ n =>
      rw [put_node_succ]
      by_cases hn : n % 2 = 0
      · rw [if_pos hn]
        cases m with
        | zero => simp [get_node_zero]
        | succ m =>
          rw [get_node_succ, get_node_succ]
          by_cases hm : m % 2 = 0
          · rw [if_pos hm, if_pos hm, ihl]
            by_cases e : m = n
            · subst e; simp
            · rw [if_neg (by omega), if_neg (by omega)]
          · rw [if_neg hm, if_neg hm, if_neg (by rintro e; apply hm; omega)]
      · rw [if_neg hn]
        cases m with
        | zero => simp [get_node_zero]
        | succ m =>
          rw [get_node_succ, get_node_succ]
          by_cases hm : m % 2 = 0
          · rw [if_pos hm, if_pos hm, if_neg (by rintro e; apply hn; omega)]
          · rw [if_neg hm, if_neg hm, ihr]
            by_cases e : m = n
            · subst e; simp
            · rw [if_neg (by omega), if_neg (by omega)]

theorem get_set (t : Tr α) (n m : Nat) (a : α) : (t.set n a).get m = if m = n then some a else t.get m := get_put _ _ _ _

theorem ofListFrom_nil (t : Tr α) (i : Nat) : ofListFrom [] t i = t := rfl
theorem ofListFrom_cons (a : α) (l : List α) (t : Tr α) (i : Nat) : ofListFrom (a :: l) t i = ofListFrom l (put (some a) t i) (i + 1) := rfl

theorem get_ofListFrom : ∀ (l : List α) (t : Tr α) (i m : Nat), (ofListFrom l t i).get m = if i ≤ m then (match l[m - i]? with | some a => some a | none => t.get m) else t.get m
  | [], t, i, m => by simp [ofListFrom_nil]
  | a :: l, t, i, m => by
    rw [ofListFrom_cons, get_ofListFrom l, get_put]
    by_cases h1 : i + 1 ≤ m
    · have e1 : m ≠ i := by omega
      have e2 : i ≤ m := by omega
      have e3 : m - i = (m - (i + 1)) + 1 := by omega
      simp only [h1, e1, e2, e3, if_true, if_false, List.getElem?_cons_succ]
    · by_cases h2 : m = i
      · subst h2; simp [h1]
      · have e2 : ¬ i ≤ m := by omega
        simp only [h1, h2, e2, if_false]

theorem get_ofList (l : List α) (m : Nat) : (ofList l).get m = l[m]? := by
  rw [ofList, get_ofListFrom]
  simp only [Nat.zero_le, if_true, Nat.sub_zero, get_nil]
  cases l[m]? <;> rfl
end Tr

/-! What the abstract values, blocks and states stand for. -/

/-- Where a block lies: the row, its first cell there, how many cells, how many cells more lie behind that a slice of it could grow into. -/
structure Loc where
  blk : Nat
  base : Nat
  size : Nat
  extra : Nat

abbrev Inj := Nat → Option Loc

mutual
def VR (ι : Inj) : AV → Value → Prop
  | .bool b, v => v = .bool b
  | .int k n, v => v = .int k n
  | .str s, v => v = .string s
  | .nilp, v => v = .pointer none
  | .ptr b o, v => ∃ L, ι b = some L ∧ v = .pointer (some ⟨L.blk, L.base + o, none⟩)
  | .nils, v => v = .slice none 0 0
  | .slice b o len cap es, v => ∃ L e off, ι b = some L ∧ len ≤ cap ∧ (e = 0 ∨ (o + cap * es = L.size ∧ e * es ≤ L.extra)) ∧ (cap + e = 0 ∨ off = L.base + o) ∧
      v = .slice (some ⟨L.blk, off, none⟩) len (cap + e)
  | .nilm, v => v = .map none
  | .map b, v => ∃ L, ι b = some L ∧ v = .map (some L.blk)
  | .nilf, v => v = .nilFunc
  | .fn f a c, v => ∃ a' c', VRs ι a a' ∧ VRs ι c c' ∧ v = .func (.func f) a'.toArray c'.toArray
  | .yield l, v => ∃ L, ι l = some L ∧ v = .func (.yield L.blk) #[] #[]
  | .niface, v => v = .nilIface
  | .iface t x, v => ∃ x', VR ι x x' ∧ v = .iface t x'
  | .agg l, v => ∃ l', VRs ι l l' ∧ v = .agg l'.toArray
  | .tup l, v => ∃ l', VRs ι l l' ∧ v = .tuple l'.toArray
  | .any k, v => ∃ n, v = .int k n
def VRs (ι : Inj) : List AV → List Value → Prop
  | [], l => l = []
  | a :: r, l => ∃ v l', VR ι a v ∧ VRs ι r l' ∧ l = v :: l'
end

def Inj.le (ι κ : Inj) : Prop := ∀ b L, ι b = some L → κ b = some L

theorem Inj.le_refl (ι : Inj) : ι.le ι := fun _ _ h => h
theorem Inj.le_trans {ι κ μ : Inj} (h : ι.le κ) (h' : κ.le μ) : ι.le μ := fun b L e => h' b L (h b L e)

mutual
theorem VR.mono {ι κ : Inj} (h : ι.le κ) : ∀ (a : AV) {v : Value}, VR ι a v → VR κ a v
  | .bool _, _, hv => hv
  | .int _ _, _, hv => hv
  | .str _, _, hv => hv
  | .nilp, _, hv => hv
  | .ptr _ _, _, ⟨L, hL, e⟩ => ⟨L, h _ _ hL, e⟩
  | .nils, _, hv => hv
  | .slice _ _ _ _ _, _, ⟨L, e, off, hL, r⟩ => ⟨L, e, off, h _ _ hL, r⟩
  | .nilm, _, hv => hv
  | .map _, _, ⟨L, hL, e⟩ => ⟨L, h _ _ hL, e⟩
  | .nilf, _, hv => hv
  | .fn _ a c, _, ⟨a', c', ha, hc, e⟩ => ⟨a', c', VRs.mono h a ha, VRs.mono h c hc, e⟩
  | .yield _, _, ⟨L, hL, e⟩ => ⟨L, h _ _ hL, e⟩
  | .niface, _, hv => hv
  | .iface _ x, _, ⟨x', hx, e⟩ => ⟨x', VR.mono h x hx, e⟩
  | .agg l, _, ⟨l', hl, e⟩ => ⟨l', VRs.mono h l hl, e⟩
  | .tup l, _, ⟨l', hl, e⟩ => ⟨l', VRs.mono h l hl, e⟩
  | .any _, _, hv => hv
theorem VRs.mono {ι κ : Inj} (h : ι.le κ) : ∀ (a : List AV) {v : List Value}, VRs ι a v → VRs κ a v
  | [], _, hv => hv
  | a :: r, _, ⟨v, l', hv, hl, e⟩ => ⟨v, l', VR.mono h a hv, VRs.mono h r hl, e⟩
end

theorem VRs.length {ι : Inj} : ∀ {a : List AV} {v : List Value}, VRs ι a v → a.length = v.length
  | [], _, h => by subst h; rfl
  | _ :: _, _, ⟨_, _, _, hl, e⟩ => by subst e; simp [VRs.length hl]

theorem VRs.get {ι : Inj} : ∀ {a : List AV} {v : List Value}, VRs ι a v → ∀ (i : Nat) (x : AV), a[i]? = some x → ∃ y, v[i]? = some y ∧ VR ι x y
  | [], _, _, i, x, h => by simp at h
  | a :: r, _, ⟨v, l', hv, hl, e⟩, i, x, h => by
    subst e
    cases i with
    | zero => simp at h; subst h; exact ⟨v, rfl, hv⟩
    | succ i => simpa using VRs.get hl i x (by simpa using h)

theorem VRs.of_get {ι : Inj} : ∀ {a : List AV} {v : List Value}, a.length = v.length → (∀ (i : Nat) (x : AV) (y : Value), a[i]? = some x → v[i]? = some y → VR ι x y) → VRs ι a v
  | [], [], _, _ => rfl
  | a :: r, v :: l, hl, h => ⟨v, l, h 0 a v rfl rfl, VRs.of_get (by simpa using hl) (fun i x y hx hy => h (i + 1) x y (by simpa using hx) (by simpa using hy)), rfl⟩

theorem VRs.append {ι : Inj} : ∀ {a : List AV} {v : List Value} {b : List AV} {u : List Value}, VRs ι a v → VRs ι b u → VRs ι (a ++ b) (v ++ u)
  | [], _, _, _, h, h' => by subst h; exact h'
  | _ :: _, _, _, _, ⟨x, l', hx, hl, e⟩, h' => by subst e; exact ⟨x, l' ++ _, hx, VRs.append hl h', rfl⟩

theorem VRs.drop {ι : Inj} : ∀ (n : Nat) {a : List AV} {v : List Value}, VRs ι a v → VRs ι (a.drop n) (v.drop n)
  | 0, _, _, h => h
  | _ + 1, [], _, h => by subst h; simp [VRs]
  | n + 1, _ :: _, _, ⟨_, _, _, hl, e⟩ => by subst e; exact VRs.drop n hl

theorem VRs.take {ι : Inj} : ∀ (n : Nat) {a : List AV} {v : List Value}, VRs ι a v → VRs ι (a.take n) (v.take n)
  | 0, _, _, _ => by simp [VRs]
  | _ + 1, [], _, h => by subst h; simp [VRs]
  | n + 1, _ :: _, _, ⟨x, _, hx, hl, e⟩ => by subst e; exact ⟨x, _, hx, VRs.take n hl, rfl⟩

/-- A value's cells stand for its value's cells. -/
theorem VR.cells {ι : Inj} {a : AV} {v : Value} (h : VR ι a v) : ∃ l, VRs ι a.cells l ∧ v.cells = l.toArray := by
  cases a <;> simp only [VR] at h <;> try (subst h; exact ⟨[_], ⟨_, _, rfl, rfl, rfl⟩, rfl⟩)
  case agg l => obtain ⟨l', hl, rfl⟩ := h; exact ⟨l', hl, rfl⟩
  case ptr => obtain ⟨L, hL, rfl⟩ := h; exact ⟨[_], ⟨_, _, ⟨L, hL, rfl⟩, rfl, rfl⟩, rfl⟩
  case slice => obtain ⟨L, e, off, hL, h1, h2, h3, rfl⟩ := h; exact ⟨[_], ⟨_, _, ⟨L, e, off, hL, h1, h2, h3, rfl⟩, rfl, rfl⟩, rfl⟩
  case map => obtain ⟨L, hL, rfl⟩ := h; exact ⟨[_], ⟨_, _, ⟨L, hL, rfl⟩, rfl, rfl⟩, rfl⟩
  case fn => obtain ⟨a', c', ha, hc, rfl⟩ := h; exact ⟨[_], ⟨_, _, ⟨a', c', ha, hc, rfl⟩, rfl, rfl⟩, rfl⟩
  case yield => obtain ⟨L, hL, rfl⟩ := h; exact ⟨[_], ⟨_, _, ⟨L, hL, rfl⟩, rfl, rfl⟩, rfl⟩
  case iface => obtain ⟨L, hL, rfl⟩ := h; exact ⟨[_], ⟨_, _, ⟨L, hL, rfl⟩, rfl, rfl⟩, rfl⟩
  case tup => obtain ⟨L, hL, rfl⟩ := h; exact ⟨[_], ⟨_, _, ⟨L, hL, rfl⟩, rfl, rfl⟩, rfl⟩
  case any => obtain ⟨n, rfl⟩ := h; exact ⟨[_], ⟨_, _, ⟨n, rfl⟩, rfl, rfl⟩, rfl⟩

theorem VR.oneCell {ι : Inj} {a : AV} {v : Value} (h : VR ι a v) (hs : a.scalar = true) : v.oneCell' = true := by
  cases a <;> simp only [VR] at h <;> try (subst h; rfl)
  case agg l => simp [AV.scalar] at hs
  case tup l => simp [AV.scalar] at hs
  case ptr => obtain ⟨L, hL, rfl⟩ := h; rfl
  case slice => obtain ⟨L, e, off, hL, h1, h2, h3, rfl⟩ := h; rfl
  case map => obtain ⟨L, hL, rfl⟩ := h; rfl
  case fn => obtain ⟨a', c', ha, hc, rfl⟩ := h; rfl
  case yield => obtain ⟨L, hL, rfl⟩ := h; rfl
  case iface => obtain ⟨L, hL, rfl⟩ := h; rfl
  case any => obtain ⟨n, rfl⟩ := h; rfl

theorem VRs.oneCells {ι : Inj} : ∀ {a : List AV} {v : List Value}, VRs ι a v → a.all AV.scalar = true → ∀ x ∈ v, x.oneCell' = true
  | [], _, h, _, x, hx => by subst h; cases hx
  | a :: r, _, ⟨y, l', hy, hl, e⟩, hs, x, hx => by
    subst e
    simp only [List.all_cons, Bool.and_eq_true] at hs
    cases hx with
    | head => exact hy.oneCell hs.1
    | tail _ hx => exact VRs.oneCells hl hs.2 x hx

mutual
theorem VR.ofV (ι : Inj) : ∀ (v : Value) {a : AV}, ofV v = some a → VR ι a v
  | .bool _, _, h => by simp only [AM.ofV, Option.some.injEq] at h; subst h; rfl
  | .int _ _, _, h => by simp only [AM.ofV, Option.some.injEq] at h; subst h; rfl
  | .string _, _, h => by simp only [AM.ofV, Option.some.injEq] at h; subst h; rfl
  | .pointer none, _, h => by simp only [AM.ofV, Option.some.injEq] at h; subst h; rfl
  | .pointer (some _), _, h => by simp [AM.ofV] at h
  | .slice none 0 0, _, h => by simp only [AM.ofV, Option.some.injEq] at h; subst h; rfl
  | .slice none (_ + 1) _, _, h => by simp [AM.ofV] at h
  | .slice none 0 (_ + 1), _, h => by simp [AM.ofV] at h
  | .slice (some _) _ _, _, h => by simp [AM.ofV] at h
  | .map none, _, h => by simp only [AM.ofV, Option.some.injEq] at h; subst h; rfl
  | .map (some _), _, h => by simp [AM.ofV] at h
  | .nilFunc, _, h => by simp only [AM.ofV, Option.some.injEq] at h; subst h; rfl
  | .nilIface, _, h => by simp only [AM.ofV, Option.some.injEq] at h; subst h; rfl
  | .agg ⟨cs⟩, _, h => by
    simp only [AM.ofV] at h
    split at h
    · rename_i l hl; simp only [Option.some.injEq] at h; subst h; exact ⟨cs, VRs.ofVs ι cs hl, rfl⟩
    · simp at h
  | .tuple ⟨cs⟩, _, h => by
    simp only [AM.ofV] at h
    split at h
    · rename_i l hl; simp only [Option.some.injEq] at h; subst h; exact ⟨cs, VRs.ofVs ι cs hl, rfl⟩
    · simp at h
  | .float _ _, _, h => by simp [AM.ofV] at h
  | .complex _ _ _, _, h => by simp [AM.ofV] at h
  | .chan _, _, h => by simp [AM.ofV] at h
  | .func _ _ _, _, h => by simp [AM.ofV] at h
  | .iface _ _, _, h => by simp [AM.ofV] at h
theorem VRs.ofVs (ι : Inj) : ∀ (l : List Value) {a : List AV}, ofVs l = some a → VRs ι a l
  | [], _, h => by simp only [AM.ofVs, Option.some.injEq] at h; subst h; rfl
  | v :: l, _, h => by
    simp only [AM.ofVs] at h
    split at h
    · rename_i a ha
      split at h
      · rename_i as has; simp only [Option.some.injEq] at h; subst h; exact ⟨v, l, VR.ofV ι v ha, VRs.ofVs ι l has, rfl⟩
      · simp at h
    · simp at h
end

def RR (ι : Inj) (regs : Tr AV) (tmps : Array Value) : Prop := ∀ t v, regs.get t = some v → ∃ v', tmps[t]? = some v' ∧ VR ι v v'

theorem RR.mono {ι κ : Inj} {regs : Tr AV} {tmps : Array Value} (h : ι.le κ) (hr : RR ι regs tmps) : RR κ regs tmps := fun t v hv =>
  let ⟨v', h1, h2⟩ := hr t v hv; ⟨v', h1, h2.mono h⟩

theorem RR.put {ι : Inj} {regs : Tr AV} {tmps : Array Value} (hr : RR ι regs tmps) {v : AV} {v' : Value} (hv : VR ι v v') {d : Nat} (hd : d < tmps.size) :
    RR ι (Tr.put (some v) regs d) (tmps.setIfInBounds d v') := by
  intro t x hx
  rw [Tr.get_put] at hx
  by_cases e : t = d
  · subst e
    rw [if_pos rfl] at hx
    cases hx
    exact ⟨v', by simp [hd], hv⟩
  · rw [if_neg e] at hx
    obtain ⟨y, h1, h2⟩ := hr t x hx
    exact ⟨y, by rw [Array.getElem?_setIfInBounds_ne (Ne.symm e)]; exact h1, h2⟩

def DR (ι : Inj) : ADef → Deferred → Prop
  | .call f c a, d => ∃ c' a', VRs ι c c' ∧ VRs ι a a' ∧ d = { target := .fn (.func f) c'.toArray, args := a'.toArray }
  | .collected r, d => ∃ L, ι r = some L ∧ d = { target := .collected L.blk, args := #[] }

def DRs (ι : Inj) : List ADef → List Deferred → Prop
  | [], l => l = []
  | a :: r, l => ∃ d l', DR ι a d ∧ DRs ι r l' ∧ l = d :: l'

theorem DR.mono {ι κ : Inj} (h : ι.le κ) : ∀ (a : ADef) {d : Deferred}, DR ι a d → DR κ a d
  | .call _ c a, _, ⟨c', a', hc, ha, e⟩ => ⟨c', a', VRs.mono h c hc, VRs.mono h a ha, e⟩
  | .collected _, _, ⟨L, hL, e⟩ => ⟨L, h _ _ hL, e⟩

theorem DRs.mono {ι κ : Inj} (h : ι.le κ) : ∀ (a : List ADef) {d : List Deferred}, DRs ι a d → DRs κ a d
  | [], _, hd => hd
  | a :: r, _, ⟨d, l', hd, hl, e⟩ => ⟨d, l', DR.mono h a hd, DRs.mono h r hl, e⟩

theorem DRs.append {ι : Inj} : ∀ {a : List ADef} {v : List Deferred} {b : List ADef} {u : List Deferred}, DRs ι a v → DRs ι b u → DRs ι (a ++ b) (v ++ u)
  | [], _, _, _, h, h' => by subst h; exact h'
  | _ :: _, _, _, _, ⟨x, l', hx, hl, e⟩, h' => by subst e; exact ⟨x, l' ++ _, hx, DRs.append hl h', rfl⟩

def MRs (ι : Inj) : List (AV × AV) → List MapEntry → Prop
  | [], l => l = []
  | a :: r, l => ∃ e l', VR ι a.1 e.key ∧ VR ι a.2 e.val ∧ MRs ι r l' ∧ l = e :: l'

theorem MRs.mono {ι κ : Inj} (h : ι.le κ) : ∀ (a : List (AV × AV)) {l : List MapEntry}, MRs ι a l → MRs κ a l
  | [], _, hd => hd
  | a :: r, _, ⟨d, l', h1, h2, hl, e⟩ => ⟨d, l', VR.mono h a.1 h1, VR.mono h a.2 h2, MRs.mono h r hl, e⟩

/-- What an abstract block stands for, at its place. -/
def BR (ι : Inj) (L : Loc) (o : Option Obj) : ABlk → Prop
  | .cells cs ro ex => ∃ c elem fz, o = some (.cells c elem fz) ∧ L.size = cs.length ∧ (ex = true → L.extra = 0) ∧
      (∀ i v, cs[i]? = some v → ∃ v', c[L.base + i]? = some v' ∧ VR ι v v') ∧
      (ro = false → L.base + L.size + L.extra ≤ c.size ∧ ∀ i, L.base ≤ i → i < L.base + L.size + L.extra → ¬ (fz.1 ≤ i ∧ i < fz.2))
  | .map es => ∃ es' clock, o = some (.map es' clock) ∧ MRs ι es es'.toList
  | .loop x => ∃ tm Ld, ι x.defers = some Ld ∧ RR ι x.tmps tm ∧ tm.size = x.size ∧
      o = some (.loop { state := x.state, pending := x.pending, fn := x.fn, tmps := tm, params := x.params.toArray, assign := x.assign, body := x.body, defers := Ld.blk })
  | .deferred none => o = some (.deferred none)
  | .deferred (some l) => ∃ l', o = some (.deferred (some l')) ∧ DRs ι l l'
  | .dead => True
  | .iter s pos => o = some (.stringIter s pos) ∧ L.base = 0

theorem BR.mono {ι κ : Inj} (h : ι.le κ) {L : Loc} {o : Option Obj} : ∀ {k : ABlk}, BR ι L o k → BR κ L o k
  | .cells _ _ _, ⟨c, elem, fz, h1, h2, h4, h5, h6⟩ => ⟨c, elem, fz, h1, h2, h4, fun i v hv => let ⟨v', a, b⟩ := h5 i v hv; ⟨v', a, b.mono h⟩, h6⟩
  | .map es, ⟨es', clock, h1, h2⟩ => ⟨es', clock, h1, MRs.mono h es h2⟩
  | .loop _, ⟨tm, Ld, h1, h2, h3, h4⟩ => ⟨tm, Ld, h _ _ h1, h2.mono h, h3, h4⟩
  | .deferred none, hb => hb
  | .deferred (some l), ⟨l', h1, h2⟩ => ⟨l', h1, DRs.mono h l h2⟩
  | .dead, _ => trivial
  | .iter _ _, hb => hb

def ABlk.live : ABlk → Bool
  | .dead => false
  | _ => true
def ABlk.writable : ABlk → Bool
  | .dead => false
  | .cells _ ro _ => !ro
  | _ => true

theorem ABlk.live_of_writable : ∀ {k : ABlk}, k.writable = true → k.live = true
  | .dead, h => h
  | .cells .., _ => rfl
  | .map _, _ => rfl
  | .loop _, _ => rfl
  | .deferred _, _ => rfl
  | .iter _ _, _ => rfl

/-- The row is that of an abstract block of a kind. -/
def Img (p : ABlk → Bool) (ι : Inj) (h : AHeap) (c : Nat) : Prop := ∃ b L k, ι b = some L ∧ h.get b = some k ∧ p k = true ∧ L.blk = c

/-- The abstract heap stands for the world's memory. -/
structure HR (ι : Inj) (h : AHeap) (w : World) : Prop where
  blocks : ∀ b k L, h.get b = some k → ι b = some L → BR ι L w.heap[L.blk]? k
  bound : ∀ b L, ι b = some L → L.blk < w.heap.size
  apart : ∀ b b' L L' k k', b ≠ b' → ι b = some L → ι b' = some L' → h.get b = some k → h.get b' = some k' → k.writable = true → k'.live = true → L.blk ≠ L'.blk
  next : ∀ b k, h.get b = some k → b < h.next
  fresh : ∀ b, h.next ≤ b → ι b = none

/-- From one state to a later one. -/
structure Ext (ι : Inj) (h : AHeap) (w : World) (κ : Inj) (g : AHeap) (u : World) : Prop where
  le : ι.le κ
  dom : ∀ b L, κ b = some L → ι b = some L ∨ (h.next ≤ b ∧ b < g.next)
  next : h.next ≤ g.next
  size : w.heap.size ≤ u.heap.size
  kept : ∀ c, c < w.heap.size → ¬ Img ABlk.writable ι h c → u.heap[c]? = w.heap[c]?
  imgL : ∀ c, c < w.heap.size → Img ABlk.live κ g c → Img ABlk.live ι h c
  imgW : ∀ c, c < w.heap.size → Img ABlk.writable κ g c → Img ABlk.writable ι h c
  abs : ∀ b, b < h.next → ι b = none → g.get b = h.get b
  env : u.os = w.os ∧ u.output = w.output ∧ u.tape = w.tape

theorem Ext.refl (ι : Inj) (h : AHeap) (w : World) : Ext ι h w ι h w :=
  ⟨ι.le_refl, fun _ _ e => .inl e, Nat.le_refl _, Nat.le_refl _, fun _ _ _ => rfl, fun _ _ h => h, fun _ _ h => h, fun _ _ _ => rfl, rfl, rfl, rfl⟩

theorem Ext.trans {ι κ μ : Inj} {h g f : AHeap} {w u v : World} (a : Ext ι h w κ g u) (b : Ext κ g u μ f v) : Ext ι h w μ f v where
  le := Inj.le_trans a.le b.le
  dom := fun x L hx => by
    rcases b.dom x L hx with h1 | ⟨h1, h2⟩
    · rcases a.dom x L h1 with h3 | ⟨h3, h4⟩
      · exact .inl h3
      · exact .inr ⟨h3, Nat.lt_of_lt_of_le h4 b.next⟩
    · exact .inr ⟨Nat.le_trans a.next h1, h2⟩
  next := Nat.le_trans a.next b.next
  size := Nat.le_trans a.size b.size
  kept := fun c hc hn => by
    rw [b.kept c (Nat.lt_of_lt_of_le hc a.size) (fun hi => hn (a.imgW c hc hi)), a.kept c hc hn]
  imgL := fun c hc hi => a.imgL c hc (b.imgL c (Nat.lt_of_lt_of_le hc a.size) hi)
  imgW := fun c hc hi => a.imgW c hc (b.imgW c (Nat.lt_of_lt_of_le hc a.size) hi)
  abs := fun x hx hn => by
    rw [b.abs x (Nat.lt_of_lt_of_le hx a.next) ?_, a.abs x hx hn]
    cases hk : κ x with
    | none => rfl
    | some L =>
      rcases a.dom x L hk with h1 | ⟨h1, _⟩
      · rw [hn] at h1; cases h1
      · omega
  env := ⟨b.env.1.trans a.env.1, b.env.2.1.trans a.env.2.1, b.env.2.2.trans a.env.2.2⟩

theorem AHeap.get_set (h : AHeap) (b c : Nat) (k : ABlk) : (h.set b k).get c = if c = b then some k else h.get c := Tr.get_set _ _ _ _
theorem AHeap.get_new (h : AHeap) (c : Nat) (k : ABlk) : (h.new k).get c = if c = h.next then some k else h.get c := Tr.get_set _ _ _ _
theorem AHeap.next_set (h : AHeap) (b : Nat) (k : ABlk) : (h.set b k).next = h.next := rfl
theorem AHeap.next_new (h : AHeap) (k : ABlk) : (h.new k).next = h.next + 1 := rfl

end Go.AM

namespace Go.AM
variable {P : Program} {ι : Inj} {h : AHeap} {w : World}

/-! Lists. -/
theorem takeN_spec {α : Type} : ∀ {n : Nat} {l r : List α}, takeN n l = some r → r = l.take n ∧ n ≤ l.length
  | 0, l, r, h => by simp only [takeN, Option.some.injEq] at h; subst h; simp
  | n + 1, [], r, h => by simp [takeN] at h
  | n + 1, a :: l, r, h => by
    simp only [takeN] at h
    split at h
    · rename_i t ht
      simp only [Option.some.injEq] at h; subst h
      obtain ⟨e, hl⟩ := takeN_spec ht
      subst e; simp; exact hl
    · simp at h

theorem layOver_spec {α : Type} : ∀ {a l r : List α}, layOver a l = some r → r = a ++ l.drop a.length ∧ a.length ≤ l.length
  | [], l, r, h => by simp only [layOver, Option.some.injEq] at h; subst h; simp
  | a :: b, [], r, h => by simp [layOver] at h
  | a :: b, c :: l, r, h => by
    simp only [layOver] at h
    split at h
    · rename_i t ht
      simp only [Option.some.injEq] at h; subst h
      obtain ⟨e, hl⟩ := layOver_spec ht
      subst e; simp; exact hl
    · simp at h

theorem layAt_spec {α : Type} (vs : List α) : ∀ {n : Nat} {l r : List α}, layAt vs n l = some r → r = l.take n ++ vs ++ l.drop (n + vs.length) ∧ n + vs.length ≤ l.length
  | 0, l, r, h => by
    have h' : layOver vs l = some r := by simpa [layAt] using h
    obtain ⟨e, hl⟩ := layOver_spec h'
    subst e; simp; exact hl
  | n + 1, [], r, h => by simp [layAt] at h
  | n + 1, a :: l, r, h => by
    simp only [layAt] at h
    split at h
    · rename_i t ht
      simp only [Option.some.injEq] at h; subst h
      obtain ⟨e, hl⟩ := layAt_spec vs ht
      subst e
      refine ⟨?_, by simp; omega⟩
      rw [show n + 1 + vs.length = (n + vs.length) + 1 from by omega]
      simp
    · simp at h

theorem layAt_length {α : Type} {vs : List α} {n : Nat} {l r : List α} (h : layAt vs n l = some r) : r.length = l.length := by
  obtain ⟨e, hl⟩ := layAt_spec vs h
  subst e; simp; omega

theorem layAt_get {α : Type} {vs : List α} {n : Nat} {l r : List α} (h : layAt vs n l = some r) (i : Nat) :
    r[i]? = if n ≤ i ∧ i < n + vs.length then vs[i - n]? else l[i]? := by
  obtain ⟨e, hl⟩ := layAt_spec vs h
  subst e
  by_cases h1 : i < n
  · rw [if_neg (by omega), List.append_assoc, List.getElem?_append_left (by simp; omega)]
    simp [h1]
  · rw [List.append_assoc, List.getElem?_append_right (by simp; omega)]
    have hn : (List.take n l).length = n := by simp; omega
    rw [hn]
    by_cases h2 : i < n + vs.length
    · rw [if_pos ⟨by omega, h2⟩, List.getElem?_append_left (by omega)]
    · rw [if_neg (by omega), List.getElem?_append_right (by omega), List.getElem?_drop]
      congr 1; omega

theorem hasLen_spec {α : Type} : ∀ {l : List α} {n : Nat}, hasLen l n = true → l.length = n
  | [], 0, _ => rfl
  | [], _ + 1, h => by simp [hasLen] at h
  | _ :: _, 0, h => by simp [hasLen] at h
  | _ :: l, n + 1, h => by simp [hasLen_spec (l := l) (n := n) (by simpa [hasLen] using h)]

theorem drop_cons {α : Type} {l : List α} {n : Nat} {v : α} {r : List α} (h : l.drop n = v :: r) : l[n]? = some v := by
  have := List.getElem?_drop (xs := l) (i := n) (j := 0)
  rw [h] at this; simpa using this.symm

/-! Types. -/
theorem tySize_run {t n : Nat} (h : tySize P t = some n) (w : World) : (sizeOf t).run P w = .ok n w := by
  unfold tySize at h
  split at h
  · rename_i i hi
    simp only [Option.some.injEq] at h; subst h
    simp [sizeOf, typeInfo, hi]
  · simp at h

theorem tyBytes_run {t n : Nat} (h : tyBytes P t = some n) : ∃ i, i.bytes = n ∧ ∀ w : World, (typeInfo t).run P w = .ok i w := by
  unfold tyBytes at h
  split at h
  · rename_i i hi
    simp only [Option.some.injEq] at h
    exact ⟨i, h, fun w => by simp [typeInfo, hi]⟩
  · simp at h

theorem tyZero_run {t : Nat} {z : AV} (h : tyZero P t = some z) (ι : Inj) : ∃ z', VR ι z z' ∧ (∀ κ, VR κ z z') ∧ ∀ w : World, (zeroValue t).run P w = .ok z' w := by
  unfold tyZero at h
  split at h
  · rename_i i hi
    split at h
    · rename_i z' hz
      exact ⟨z', VR.ofV ι z' h, fun κ => VR.ofV κ z' h, fun w => by simp [zeroValue, typeInfo, hi, hz]⟩
    · simp at h
  · simp at h

theorem und_run {t : Nat} {d : TypeDesc} (h : P.underlying t = some d) (w : World) : (underlying t).run P w = .ok d w := by
  simp [underlying, h]

theorem tyAgg_run {t : Nat} {b : Bool} (h : tyAgg P t = some b) (w : World) : (isAgg t).run P w = .ok b w := by
  unfold tyAgg at h
  cases hu : P.underlying t with
  | none => rw [hu] at h; simp [descAgg] at h
  | some d =>
    rw [hu] at h
    simp only [isAgg, Sem.run_bind, und_run hu, Result.andThen_ok]
    cases d <;> simp [descAgg] at h <;> subst h <;> rfl

theorem elemOf_und {t e : Nat} (h : elemOf? P t = some e) : P.underlying t = some (.slice e) := by
  unfold elemOf? at h
  split at h
  · rename_i e' he; simp only [Option.some.injEq] at h; subst h; exact he
  · simp at h

theorem isByte_und {t : Nat} (h : isByte P t = true) : P.underlying t = some (.int .u8) := by
  unfold isByte at h
  split at h
  · rename_i he; exact he
  · simp at h

/-! Addresses and cells. -/
theorem add_plain (b o n : Nat) : (⟨b, o, none⟩ : Addr).add n = ⟨b, o + n, none⟩ := by
  unfold Addr.add; split <;> simp_all

/-- The blocks alone. -/
def HB (ι : Inj) (h : AHeap) (w : World) : Prop := ∀ b k L, h.get b = some k → ι b = some L → BR ι L w.heap[L.blk]? k

theorem HR.hb (hh : HR ι h w) : HB ι h w := hh.blocks

theorem read1_cell (hb : HB ι h w) {b o : Nat} {v : AV} {L : Loc} (hL : ι b = some L) (hr : h.read1 b o = some v) :
    ∃ v', w.cell? ⟨L.blk, L.base + o, none⟩ = some v' ∧ VR ι v v' := by
  unfold AHeap.read1 at hr
  split at hr
  · rename_i cs ro ex hg
    split at hr
    · rename_i x r hd
      simp only [Option.some.injEq] at hr; subst hr
      obtain ⟨c, elem, fz, h1, _, _, h5, _⟩ := hb b _ L hg hL
      obtain ⟨v', h6, h7⟩ := h5 o _ (drop_cons hd)
      exact ⟨v', by simp [World.cell?, h1, h6], h7⟩
    · simp at hr
  · simp at hr

theorem read_cells (hb : HB ι h w) {b o n : Nat} {l : List AV} {L : Loc} (hL : ι b = some L) (hr : h.read b o n = some l) :
    ∃ l', VRs ι l l' ∧ l'.length = n ∧ l.length = n ∧ ∀ j v, l'[j]? = some v → w.cell? ⟨L.blk, L.base + o + j, none⟩ = some v := by
  unfold AHeap.read at hr
  split at hr
  · rename_i cs ro ex hg
    obtain ⟨c, elem, fz, h1, _, _, h5, _⟩ := hb b _ L hg hL
    obtain ⟨e, hn⟩ := takeN_spec (show takeN n (cs.drop o) = some l from hr)
    have hlen : l.length = n := by subst e; simp at hn ⊢; omega
    have hget : ∀ j, j < n → ∃ x, l[j]? = some x ∧ cs[o + j]? = some x := by
      intro j hj
      subst e
      have : j < (cs.drop o).length := by omega
      refine ⟨(cs.drop o)[j], ?_, ?_⟩
      · rw [List.getElem?_take_of_lt hj, List.getElem?_eq_getElem this]
      · rw [← List.getElem?_drop, List.getElem?_eq_getElem this]
    have key : ∀ j, j < n → ∃ x y, l[j]? = some x ∧ c.toList[L.base + o + j]? = some y ∧ VR ι x y := by
      intro j hj
      obtain ⟨x, hx1, hx⟩ := hget j hj
      obtain ⟨y, hy, hv⟩ := h5 _ _ hx
      exact ⟨x, y, hx1, by rw [show L.base + o + j = L.base + (o + j) from by omega]; simpa using hy, hv⟩
    have hc : n = 0 ∨ L.base + o + n ≤ c.toList.length := by
      cases n with
      | zero => exact .inl rfl
      | succ n =>
        obtain ⟨_, y, _, hy, _⟩ := key n (by omega)
        have := (List.getElem?_eq_some_iff.1 hy).1
        exact .inr (by omega)
    have hl' : ((c.toList.drop (L.base + o)).take n).length = n := by
      rcases hc with hc | hc
      · subst hc; simp
      · simp at hc ⊢; omega
    have hat : ∀ j v, ((c.toList.drop (L.base + o)).take n)[j]? = some v → c.toList[L.base + o + j]? = some v := by
      intro j v hv
      have hj : j < n := by rw [← hl']; exact (List.getElem?_eq_some_iff.1 hv).1
      rw [List.getElem?_take_of_lt hj, List.getElem?_drop] at hv
      exact hv
    refine ⟨(c.toList.drop (L.base + o)).take n, VRs.of_get (hlen.trans hl'.symm) ?_, hl', hlen, ?_⟩
    · intro j x y hx hy
      have hj : j < n := by rw [← hlen]; exact (List.getElem?_eq_some_iff.1 hx).1
      obtain ⟨x', y', h1', h2', h3'⟩ := key j hj
      rw [hx] at h1'; cases h1'
      have := hat j y hy
      rw [h2'] at this; cases this
      exact h3'
    · intro j v hv
      have := hat j v hv
      simp [World.cell?, h1]
      simpa using this
  · simp at hr

end Go.AM

namespace Go.AM
variable {P : Program} {ι : Inj} {h : AHeap} {w : World}

theorem loadVar_run (hb : HB ι h w) {t b o : Nat} {v : AV} {L : Loc} (hL : ι b = some L) (hr : aload P h t (.ptr b o) = some v) :
    ∃ v', VR ι v v' ∧ (loadVar t ⟨L.blk, L.base + o, none⟩).run P w = .ok v' w := by
  simp only [aload, loadAs] at hr
  split at hr
  · rename_i ht
    unfold loadAgg at hr
    split at hr
    · rename_i n hn
      split at hr
      · rename_i l hl
        simp only [Option.some.injEq] at hr; subst hr
        obtain ⟨l', hv, hlen, _, hc⟩ := read_cells hb hL hl
        refine ⟨.agg l'.toArray, ⟨l', hv, rfl⟩, ?_⟩
        have := run_loadCells_list (P := P) w ⟨L.blk, L.base + o, none⟩ l' (fun j v hj => by rw [add_plain]; exact hc j v hj)
        rw [hlen] at this
        simp [loadVar, tyAgg_run ht, tySize_run hn, this]
      · simp at hr
    · simp at hr
  · rename_i ht
    obtain ⟨v', hc, hv⟩ := read1_cell hb hL hr
    exact ⟨v', hv, by simp [loadVar, tyAgg_run ht, hc]⟩
  · simp at hr

theorem load_run (hb : HB ι h w) {t : Nat} {a v : AV} {a' : Value} (ha : VR ι a a') (hr : aload P h t a = some v) :
    ∃ v', VR ι v v' ∧ (Instr.loadAt t a').run P w = .ok v' w := by
  cases a <;> try (simp [aload] at hr; done)
  case ptr b o =>
    obtain ⟨L, hL, rfl⟩ := ha
    obtain ⟨v', hv, hrun⟩ := loadVar_run hb hL hr
    exact ⟨v', hv, by simpa [Instr.loadAt, Instr.sureAddr] using hrun⟩

theorem headOf_spec {l : List AV} {v : AV} (h : headOf l = some v) : ∃ r, l = v :: r := by
  cases l with
  | nil => simp [headOf] at h
  | cons a r => simp only [headOf, Option.some.injEq] at h; subst h; exact ⟨r, rfl⟩

theorem readCells_spec {cs : List AV} {o n : Nat} {l : List AV} (h : readCells cs o n = some l) : l = (cs.drop o).take n ∧ n ≤ (cs.drop o).length := takeN_spec h

theorem part_run {t off : Nat} {cs : List AV} {cs' : List Value} {v : AV} (hv : VRs ι cs cs') (hp : apart P t cs off = some v) :
    ∃ v', VR ι v v' ∧ ∀ w : World, (part t cs'.toArray off).run P w = .ok v' w := by
  unfold apart partAs at hp
  split at hp
  · rename_i ht
    unfold partAgg at hp
    split at hp
    · rename_i n hn
      split at hp
      · rename_i l hl
        simp only [Option.some.injEq] at hp; subst hp
        obtain ⟨e, hlen⟩ := readCells_spec hl
        refine ⟨.agg ((cs'.drop off).take n).toArray, ⟨_, ?_, rfl⟩, fun w => ?_⟩
        · subst e; exact (hv.drop off).take n
        · simp [part, tyAgg_run ht, tySize_run hn, List.extract_eq_take_drop]
      · simp at hp
    · simp at hp
  · rename_i ht
    obtain ⟨r, hr⟩ := headOf_spec hp
    obtain ⟨v', h1, h2⟩ := hv.get off v (drop_cons hr)
    exact ⟨v', h2, fun w => by simp [part, tyAgg_run ht, h1]⟩
  · simp at hp

/-! Equality. -/
theorem eqFields_run {D : Nat} {eq : TypeId → AV → AV → Option Bool}
    (ih : ∀ (t : Nat) (x y : AV) (x' y' : Value) (b : Bool), VR ι x x' → VR ι y y' → eq t x y = some b → ∀ w : World, (Op.equalIn D t x' y').run P w = .ok b w)
    {xs ys : List AV} {xs' ys' : List Value} (hx : VRs ι xs xs') (hy : VRs ι ys ys') : ∀ (fs : List Field) {b : Bool}, aeqFields P eq xs ys fs = some b →
      ∀ w : World, (Op.eqFields D xs'.toArray ys'.toArray fs).run P w = .ok b w
  | [], b, h, w => by simp only [aeqFields, Option.some.injEq] at h; subst h; rfl
  | f :: fs, b, h, w => by
    simp only [aeqFields] at h
    by_cases hn : f.name = "_"
    · rw [if_pos hn] at h
      simp only [Op.eqFields, hn, ne_eq, not_true_eq_false, if_false]
      exact eqFields_run ih hx hy fs h w
    · rw [if_neg hn] at h
      split at h
      · rename_i a ha
        split at h
        · rename_i c hc
          obtain ⟨a', hva, hra⟩ := part_run hx ha
          obtain ⟨c', hvc, hrc⟩ := part_run hy hc
          simp only [Op.eqFields, ne_eq, hn, not_false_eq_true, if_true, Sem.run_bind, hra, hrc, Result.andThen_ok]
          split at h
          · rename_i he
            rw [ih f.type a c a' c' true hva hvc he]
            simp only [Result.andThen_ok, Bool.not_true, Bool.false_eq_true, if_false]
            exact eqFields_run ih hx hy fs h w
          · rename_i he
            simp only [Option.some.injEq] at h; subst h
            rw [ih f.type a c a' c' false hva hvc he]
            simp
          · simp at h
        · simp at h
      · simp at h

/-- The loop over the elements of two arrays, as a function. -/
def eqElems (P : Program) (D e n : Nat) (xs ys : Array Value) : Nat → Nat → Sem Bool
  | 0, _ => pure true
  | k + 1, i => do
    let a ← part e xs (i * n)
    let b ← part e ys (i * n)
    let r ← Op.equalIn D e a b
    if (!r) = true then pure false else eqElems P D e n xs ys k (i + 1)

theorem run_equalIn_array (D : Nat) (t e len n : Nat) (xs ys : Array Value) (ht : P.underlying t = some (.array len e)) (hn : tySize P e = some n) (w : World) :
    (Op.equalIn (D + 1) t (.agg xs) (.agg ys)).run P w = (eqElems P D e n xs ys len 0).run P w := by
  simp only [Op.equalIn, Sem.run_bind, und_run ht, tySize_run hn, Result.andThen_ok]
  rw [Std.Legacy.Range.forIn_eq_forIn_range']
  simp only [Std.Legacy.Range.size, Nat.sub_zero, Nat.add_sub_cancel, Nat.div_one]
  clear ht
  generalize hi : (0 : Nat) = i
  clear hi
  induction len generalizing w i with
  | zero => simp [eqElems]
  | succ len ih =>
    simp only [List.range'_succ, List.forIn_cons, eqElems, Sem.run_bind, Sem.run_ite]
    generalize (part e xs (i * n)).run P w = r1
    cases r1 with
    | ok a w1 =>
      simp only [Result.andThen_ok]
      generalize (part e ys (i * n)).run P w1 = r2
      cases r2 with
      | ok b w2 =>
        simp only [Result.andThen_ok]
        generalize (Op.equalIn D e a b).run P w2 = r3
        cases r3 with
        | ok r w3 =>
          cases r
          · simp
          · simp only [Result.andThen_ok, Bool.not_true, Bool.false_eq_true, if_false, Sem.run_pure]
            exact ih w3 (i + 1)
        | halt x w3 => simp [Result.andThen]
      | halt x w2 => simp [Result.andThen]
    | halt x w1 => simp [Result.andThen]

theorem eqElems_run {D e n : Nat} {eq : TypeId → AV → AV → Option Bool}
    (ih : ∀ (t : Nat) (x y : AV) (x' y' : Value) (b : Bool), VR ι x x' → VR ι y y' → eq t x y = some b → ∀ w : World, (Op.equalIn D t x' y').run P w = .ok b w)
    {xs ys : List AV} {xs' ys' : List Value} (hx : VRs ι xs xs') (hy : VRs ι ys ys') : ∀ (k i : Nat) {b : Bool}, aeqElems P eq e n xs ys k i = some b →
      ∀ w : World, (eqElems P D e n xs'.toArray ys'.toArray k i).run P w = .ok b w
  | 0, i, b, h, w => by simp only [aeqElems, Option.some.injEq] at h; subst h; rfl
  | k + 1, i, b, h, w => by
    simp only [aeqElems] at h
    split at h
    · rename_i a ha
      split at h
      · rename_i c hc
        obtain ⟨a', hva, hra⟩ := part_run hx ha
        obtain ⟨c', hvc, hrc⟩ := part_run hy hc
        simp only [eqElems, Sem.run_bind, hra, hrc, Result.andThen_ok]
        split at h
        · rename_i he
          rw [ih e a c a' c' true hva hvc he]
          simp only [Result.andThen_ok, Bool.not_true, Bool.false_eq_true, if_false]
          exact eqElems_run ih hx hy k (i + 1) h w
        · rename_i he
          simp only [Option.some.injEq] at h; subst h
          rw [ih e a c a' c' false hva hvc he]
          simp
        · simp at h
      · simp at h
    · simp at h

theorem aequal_run : ∀ (d D : Nat), d ≤ D → ∀ (t : Nat) (x y : AV) (x' y' : Value) (b : Bool), VR ι x x' → VR ι y y' → aequal P d t x y = some b →
    ∀ w : World, (Op.equalIn D t x' y').run P w = .ok b w
  | 0, _, _, t, x, y, x', y', b, _, _, h, _ => by simp [aequal] at h
  | d + 1, 0, hd, _, _, _, _, _, _, _, _, _, _ => by omega
  | d + 1, D + 1, hd, t, x, y, x', y', b, hx, hy, h, w => by
    simp only [aequal, aeqAs] at h
    cases hu : P.underlying t with
    | none => rw [hu] at h; simp at h
    | some td =>
      rw [hu] at h
      cases td <;> simp only [reduceCtorEq] at h
      case bool =>
        unfold aeqBool at h
        split at h <;> simp only [Option.some.injEq, reduceCtorEq] at h
        simp only [VR] at hx hy; subst hx hy h; simp [Op.equalIn, und_run hu]
      case int k =>
        unfold aeqInt at h
        split at h <;> try simp only [reduceCtorEq] at h
        split at h <;> simp only [Option.some.injEq, reduceCtorEq] at h
        simp only [VR] at hx hy; subst hx hy h; rename_i e; subst e; simp [Op.equalIn, und_run hu]
      case string =>
        unfold aeqStr at h
        split at h <;> simp only [Option.some.injEq, reduceCtorEq] at h
        simp only [VR] at hx hy; subst hx hy h; simp [Op.equalIn, und_run hu]
      case pointer e =>
        unfold aeqPtr at h
        split at h <;> simp only [Option.some.injEq, reduceCtorEq] at h
        all_goals simp only [VR] at hx hy
        · subst hx hy h; simp [Op.equalIn, und_run hu]
        · obtain ⟨L, _, rfl⟩ := hy; subst hx h; simp [Op.equalIn, und_run hu]
        · obtain ⟨L, _, rfl⟩ := hx; subst hy h; simp [Op.equalIn, und_run hu]
      case slice e =>
        unfold aeqSlice at h
        split at h <;> simp only [Option.some.injEq, reduceCtorEq] at h
        all_goals simp only [VR] at hx hy
        · subst hx hy h; simp [Op.equalIn, und_run hu]
        · obtain ⟨_, _, _, _, _, _, _, rfl⟩ := hy; subst hx h; simp [Op.equalIn, und_run hu]
        · obtain ⟨_, _, _, _, _, _, _, rfl⟩ := hx; subst hy h; simp [Op.equalIn, und_run hu]
      case map k e =>
        unfold aeqMap at h
        split at h <;> simp only [Option.some.injEq, reduceCtorEq] at h
        all_goals simp only [VR] at hx hy
        · subst hx hy h; simp [Op.equalIn, und_run hu]
        · obtain ⟨L, _, rfl⟩ := hy; subst hx h; simp [Op.equalIn, und_run hu]
        · obtain ⟨L, _, rfl⟩ := hx; subst hy h; simp [Op.equalIn, und_run hu]
      case func a r v =>
        unfold aeqFunc at h
        split at h <;> simp only [Option.some.injEq, reduceCtorEq] at h
        all_goals simp only [VR] at hx hy
        · subst hx hy h; simp [Op.equalIn, und_run hu]
        · obtain ⟨_, _, _, _, rfl⟩ := hy; subst hx h; simp [Op.equalIn, und_run hu]
        · obtain ⟨_, _, _, _, rfl⟩ := hx; subst hy h; simp [Op.equalIn, und_run hu]
        · obtain ⟨_, _, rfl⟩ := hy; subst hx h; simp [Op.equalIn, und_run hu]
        · obtain ⟨_, _, rfl⟩ := hx; subst hy h; simp [Op.equalIn, und_run hu]
      case struct fields =>
        unfold aeqStruct at h
        split at h <;> try simp only [reduceCtorEq] at h
        split at h
        · simp at h
        · rename_i hs
          obtain ⟨xs', hx', rfl⟩ := hx
          obtain ⟨ys', hy', rfl⟩ := hy
          have hf : P.fieldsOf t = fields := by simp [Program.fieldsOf, hu]
          rw [run_equalIn_struct w D t _ _ (by rw [hf]; exact hu) hs, hf]
          exact eqFields_run (fun t x y x' y' b => aequal_run d D (by omega) t x y x' y' b) hx' hy' fields.toList h w
      case array len e =>
        unfold aeqArray at h
        split at h <;> try simp only [reduceCtorEq] at h
        split at h
        · rename_i n hn
          obtain ⟨xs', hx', rfl⟩ := hx
          obtain ⟨ys', hy', rfl⟩ := hy
          rw [run_equalIn_array D t e len n _ _ hu hn w]
          exact eqElems_run (fun t x y x' y' b => aequal_run d D (by omega) t x y x' y' b) hx' hy' len 0 h w
        · simp at h

end Go.AM

namespace Go.AM
variable {P : Program} {ι : Inj} {h : AHeap} {w : World}

theorem wrapA_eq (k : IntKind) (n : Int) : wrapA k n = k.wrap n := by
  cases k <;> simp only [wrapA] <;> split <;> simp only [IntKind.wrap, IntKind.bits, IntKind.signed] <;> simp <;> omega

theorem wrap_mod (k : IntKind) (x : Nat) : k.wrap ((x % 2 ^ k.bits : Nat) : Int) = k.wrap (x : Int) := by
  simp [IntKind.wrap]

theorem ofInt_nat (n a : Nat) : (BitVec.ofInt n (Int.ofNat a)).toNat = a % 2 ^ n := by
  simp

theorem aand_eq (k : IntKind) (a b : Int) : aand k a b = .int k (k.wrap (BitVec.ofInt k.bits a &&& BitVec.ofInt k.bits b).toNat) := by
  unfold aand
  split
  · rename_i a b
    rw [wrapA_eq, BitVec.toNat_and, ofInt_nat, ofInt_nat, ← Nat.and_mod_two_pow, wrap_mod]
  · rw [wrapA_eq]
theorem aor_eq (k : IntKind) (a b : Int) : aor k a b = .int k (k.wrap (BitVec.ofInt k.bits a ||| BitVec.ofInt k.bits b).toNat) := by
  unfold aor
  split
  · rename_i a b
    rw [wrapA_eq, BitVec.toNat_or, ofInt_nat, ofInt_nat, ← Nat.or_mod_two_pow, wrap_mod]
  · rw [wrapA_eq]
theorem axor_eq (k : IntKind) (a b : Int) : axor k a b = .int k (k.wrap (BitVec.ofInt k.bits a ^^^ BitVec.ofInt k.bits b).toNat) := by
  unfold axor
  split
  · rename_i a b
    rw [wrapA_eq, BitVec.toNat_xor, ofInt_nat, ofInt_nat, ← Nat.xor_mod_two_pow, wrap_mod]
  · rw [wrapA_eq]

theorem VR_int {k : IntKind} {n : Int} {v : Value} (h : VR ι (.int k n) v) : v = .int k n := h
theorem VR_str {s : ByteArray} {v : Value} (h : VR ι (.str s) v) : v = .string s := h
theorem VR_bool {b : Bool} {v : Value} (h : VR ι (.bool b) v) : v = .bool b := h

theorem aints_run {op : BinOp} {t : Nat} {k j : IntKind} {a b : Int} {v : AV} (he : aints op k a j b = some v) :
    ∃ v', VR ι v v' ∧ ∀ w : World, (binOp op t (.int k a) (.int j b)).run P w = .ok v' w := by
  unfold aints at he
  split at he
  · unfold ashl at he
    split at he
    · rename_i n
      simp only [Option.some.injEq] at he; subst he
      refine ⟨_, rfl, fun w => ?_⟩
      simp only [binOp, Op.shift, wrapA_eq]
      rw [if_neg (show ¬ Int.ofNat n < 0 from Int.not_lt.mpr (Int.natCast_nonneg n))]
      simp [Int.natCast_pow]
    · simp at he
  · unfold ashr at he
    split at he
    · rename_i n
      simp only [Option.some.injEq] at he; subst he
      refine ⟨_, rfl, fun w => ?_⟩
      simp only [binOp, Op.shift]
      rw [if_neg (show ¬ Int.ofNat n < 0 from Int.not_lt.mpr (Int.natCast_nonneg n))]
      simp [Int.natCast_pow]
    · simp at he
  · rename_i h1 h2
    split at he
    · rename_i hk
      obtain rfl : k = j := by simpa using hk
      cases op <;> simp only [aintArith, Option.some.injEq, reduceCtorEq] at he <;> try (exact absurd rfl h1) <;> try (exact absurd rfl h2)
      case quo =>
        unfold aquo at he
        split at he
        · simp at he
        · rename_i hb
          simp only [Option.some.injEq] at he; subst he
          exact ⟨_, rfl, fun w => by simp [binOp, Op.intDiv, hb, wrapA_eq]⟩
      case rem =>
        unfold arem at he
        split at he
        · simp at he
        · rename_i hb
          simp only [Option.some.injEq] at he; subst he
          exact ⟨_, rfl, fun w => by simp [binOp, Op.intDiv, hb]⟩
      case and => subst he; exact ⟨_, by rw [aand_eq]; rfl, fun w => by simp [binOp, Op.intBits]⟩
      case or => subst he; exact ⟨_, by rw [aor_eq]; rfl, fun w => by simp [binOp, Op.intBits]⟩
      case xor => subst he; exact ⟨_, by rw [axor_eq]; rfl, fun w => by simp [binOp, Op.intBits]⟩
      case andNot => subst he; exact ⟨_, by simp only [aandNot, wrapA_eq]; rfl, fun w => by simp [binOp, Op.intBits]⟩
      all_goals (subst he; exact ⟨_, rfl, fun w => by simp [binOp, Op.intArith, Op.intCmp, wrapA_eq]⟩)
    · simp at he

theorem astr_run {op : BinOp} {t : Nat} {a b : ByteArray} {v : AV} (he : astrOp op a b = some v) :
    ∃ v', VR ι v v' ∧ ∀ w : World, (binOp op t (.string a) (.string b)).run P w = .ok v' w := by
  cases op <;> simp only [astrOp, Option.some.injEq, reduceCtorEq] at he
  case add =>
    split at he
    · rename_i hs
      simp only [Option.some.injEq] at he; subst he
      refine ⟨_, rfl, fun w => ?_⟩
      have : ¬ (((a.size + b.size : Nat) : Int) > IntKind.i64.max) := by simp [IntKind.max, IntKind.signed, IntKind.bits]; omega
      simp only [binOp, Op.stringOp]
      rw [if_neg this]; rfl
    · simp at he
  all_goals (subst he; exact ⟨_, rfl, fun w => by simp [binOp, Op.stringOp]⟩)

/-- Neither a number nor a string. -/
def other : AV → Bool
  | .int .. | .str _ | .any _ => false
  | _ => true

theorem eql_other {t : Nat} {x : AV} {x' y' : Value} (hx : VR ι x x') (ho : other x = true) :
    binOp .eql t x' y' = (do pure (.bool (← Op.equal t x' y'))) ∧ binOp .neq t x' y' = (do pure (.bool (!(← Op.equal t x' y')))) := by
  cases x <;> simp [other] at ho <;> simp only [VR] at hx
  case bool => subst hx; exact ⟨rfl, rfl⟩
  case nilp => subst hx; exact ⟨rfl, rfl⟩
  case ptr => obtain ⟨_, _, rfl⟩ := hx; exact ⟨rfl, rfl⟩
  case nils => subst hx; exact ⟨rfl, rfl⟩
  case slice => obtain ⟨_, _, _, _, _, _, _, rfl⟩ := hx; exact ⟨rfl, rfl⟩
  case nilm => subst hx; exact ⟨rfl, rfl⟩
  case map => obtain ⟨_, _, rfl⟩ := hx; exact ⟨rfl, rfl⟩
  case nilf => subst hx; exact ⟨rfl, rfl⟩
  case fn => obtain ⟨_, _, _, _, rfl⟩ := hx; exact ⟨rfl, rfl⟩
  case yield => obtain ⟨_, _, rfl⟩ := hx; exact ⟨rfl, rfl⟩
  case niface => subst hx; exact ⟨rfl, rfl⟩
  case iface => obtain ⟨_, _, rfl⟩ := hx; exact ⟨rfl, rfl⟩
  case agg => obtain ⟨_, _, rfl⟩ := hx; exact ⟨rfl, rfl⟩
  case tup => obtain ⟨_, _, rfl⟩ := hx; exact ⟨rfl, rfl⟩

theorem aothers_run {op : BinOp} {t : Nat} {x y v : AV} {x' y' : Value} (hx : VR ι x x') (hy : VR ι y y') (ho : other x = true) (he : aothers P op t x y = some v) :
    ∃ v', VR ι v v' ∧ ∀ w : World, (binOp op t x' y').run P w = .ok v' w := by
  unfold aothers at he
  split at he
  · simp at he
  · obtain ⟨e1, e2⟩ := eql_other (t := t) (y' := y') hx ho
    split at he
    · unfold aeqOut at he
      split at he
      · rename_i b hb
        simp only [Option.some.injEq] at he; subst he
        refine ⟨_, rfl, fun w => ?_⟩
        rw [e1]
        simp [Op.equal, Op.maxDepth, aequal_run 100 10000 (by omega) t x y x' y' b hx hy hb w]
      · simp at he
    · unfold aeqOut at he
      split at he
      · rename_i b hb
        simp only [Option.some.injEq] at he; subst he
        refine ⟨_, rfl, fun w => ?_⟩
        rw [e2]
        simp [Op.equal, Op.maxDepth, aequal_run 100 10000 (by omega) t x y x' y' b hx hy hb w]
      · simp at he
    · simp at he

theorem abin_run {op : BinOp} {t : Nat} {x y v : AV} {x' y' : Value} (hx : VR ι x x') (hy : VR ι y y') (he : abin P op t x y = some v) :
    ∃ v', VR ι v v' ∧ ∀ w : World, (binOp op t x' y').run P w = .ok v' w := by
  unfold abin at he
  split at he
  · split at he
    · obtain rfl := VR_int hx; obtain rfl := VR_int hy; exact aints_run he
    · simp at he
  · split at he
    · obtain rfl := VR_str hx; obtain rfl := VR_str hy; exact astr_run he
    · simp at he
  · simp at he
  · rename_i h1 h2 h3
    refine aothers_run hx hy ?_ he
    cases x <;> first | rfl | exact absurd rfl (h1 _ _) | exact absurd rfl (h2 _) | exact absurd rfl (h3 _)

theorem aun_run {op : UnOp} {x v : AV} {x' : Value} (hx : VR ι x x') (he : aun op x = some v) :
    ∃ v', VR ι v v' ∧ ∀ w : World, (Op.unary op x').run P w = .ok v' w := by
  unfold aun at he
  split at he
  · obtain rfl := VR_int hx
    cases op <;> simp only [Option.some.injEq, reduceCtorEq] at he <;> subst he
    · exact ⟨_, rfl, fun w => by simp [Op.unary, Op.intArith, wrapA_eq]⟩
    · exact ⟨_, rfl, fun w => by simp [Op.unary, Op.intBits]⟩
  · obtain rfl := VR_bool hx
    cases op <;> simp only [Option.some.injEq, reduceCtorEq] at he <;> subst he
    exact ⟨_, rfl, fun w => by simp [Op.unary]⟩
  · simp at he

end Go.AM

namespace Go.AM
variable {P : Program} {ι : Inj} {h : AHeap} {w : World}

/-! eqGuard -/
theorem eqGuard_plain {op : BinOp} {t : Nat} {x y : Operand} {a b : Value} (hn : a ≠ .nilIface) (ha : ∀ cs, a ≠ .agg cs) (w : World) : (eqGuard op t x y a b).run P w = .ok () w := by
  cases op <;> first
    | rfl
    | (simp only [eqGuard, Bool.not_true, Bool.false_eq_true, if_false]
       split
       · exact absurd rfl hn
       · exact absurd rfl (ha _)
       · rfl)

theorem eqGuard_agg {op : BinOp} {t : Nat} {x y : Operand} {a : Array Value} {b : Value} (hg : P.eqGuardType P.depth t = false) (w : World) : (eqGuard op t x y (.agg a) b).run P w = .ok () w := by
  cases op <;> first
    | rfl
    | (simp only [eqGuard, Bool.not_true, Bool.false_eq_true, if_false]
       split
       · rename_i e; cases e
       · simp [hg]
       · rfl)

theorem aequal_niface (d t : Nat) (y : AV) : aequal P d t .niface y = none := by
  cases d with
  | zero => rfl
  | succ d =>
    show aeqAs P (aequal P d) t .niface y (P.underlying t) = none
    unfold aeqAs
    split <;> rfl

theorem eqGuard_run {op : BinOp} {t : Nat} {xo yo : Operand} {x y v : AV} {x' y' : Value} (hx : VR ι x x') (he : abin P op t x y = some v) (w : World) : (eqGuard op t xo yo x' y').run P w = .ok () w := by
  have key : other x = false ∨ (other x = true ∧ aothers P op t x y = some v) := by
    unfold abin at he
    split at he
    · exact .inl rfl
    · exact .inl rfl
    · exact .inl rfl
    · rename_i h1 h2 h3
      refine .inr ⟨?_, he⟩
      cases x <;> first | rfl | exact absurd rfl (h1 _ _) | exact absurd rfl (h2 _) | exact absurd rfl (h3 _)
  rcases key with ho | ⟨ho, he⟩
  · cases x <;> simp [other] at ho
    · obtain rfl := VR_int hx; exact eqGuard_plain (by simp) (by simp) w
    · obtain rfl := VR_str hx; exact eqGuard_plain (by simp) (by simp) w
    · obtain ⟨n, rfl⟩ := hx; exact eqGuard_plain (by simp) (by simp) w
  · unfold aothers at he
    split at he
    · simp at he
    · rename_i hg
      cases x <;> simp only [VR] at hx
      case agg l =>
        obtain ⟨l', hl, rfl⟩ := hx
        exact eqGuard_agg (by simpa [unguarded] using hg) w
      case niface =>
        rw [aequal_niface] at he
        split at he <;> simp [aeqOut] at he
      case int => simp [other] at ho
      case any => simp [other] at ho
      case str => simp [other] at ho
      case bool => subst hx; exact eqGuard_plain (by simp) (by simp) w
      case nilp => subst hx; exact eqGuard_plain (by simp) (by simp) w
      case ptr => obtain ⟨_, _, rfl⟩ := hx; exact eqGuard_plain (by simp) (by simp) w
      case nils => subst hx; exact eqGuard_plain (by simp) (by simp) w
      case slice => obtain ⟨_, _, _, _, _, _, _, rfl⟩ := hx; exact eqGuard_plain (by simp) (by simp) w
      case nilm => subst hx; exact eqGuard_plain (by simp) (by simp) w
      case map => obtain ⟨_, _, rfl⟩ := hx; exact eqGuard_plain (by simp) (by simp) w
      case nilf => subst hx; exact eqGuard_plain (by simp) (by simp) w
      case fn => obtain ⟨_, _, _, _, rfl⟩ := hx; exact eqGuard_plain (by simp) (by simp) w
      case yield => obtain ⟨_, _, rfl⟩ := hx; exact eqGuard_plain (by simp) (by simp) w
      case iface => obtain ⟨_, _, rfl⟩ := hx; exact eqGuard_plain (by simp) (by simp) w
      case tup => obtain ⟨_, _, rfl⟩ := hx; exact eqGuard_plain (by simp) (by simp) w

end Go.AM

namespace Go.AM
variable {P : Program} {ι : Inj} {h : AHeap} {w : World}

/-! build -/
def PartsR (ι : Inj) : List (Nat × AV) → List (Nat × Value) → Prop
  | [], l => l = []
  | a :: r, l => ∃ v l', VR ι a.2 v ∧ PartsR ι r l' ∧ l = (a.1, v) :: l'

theorem layAt_VRs {vs cells r : List AV} {vs' cells' : List Value} {n : Nat} (hv : VRs ι vs vs') (hc : VRs ι cells cells') (he : layAt vs n cells = some r) :
    ∃ r', VRs ι r r' ∧ r' = cells'.take n ++ vs' ++ cells'.drop (n + vs'.length) ∧ n + vs'.length ≤ cells'.length := by
  obtain ⟨e, hl⟩ := layAt_spec vs he
  have h1 := hv.length
  have h2 := hc.length
  refine ⟨_, ?_, rfl, by omega⟩
  subst e
  rw [← h1]
  exact ((hc.take n).append hv).append (hc.drop _)

theorem foldl_get (off : Nat) : ∀ (vs : List Value) (k : Nat) (cells : Array Value) (i : Nat), off + k + vs.length ≤ cells.size →
    ((vs.zipIdx k).foldl (fun cs (c, j) => cs.setIfInBounds (off + j) c) cells)[i]? = if off + k ≤ i ∧ i < off + k + vs.length then vs[i - (off + k)]? else cells[i]?
  | [], k, cells, i, h => by simp; intro h1 h2; omega
  | v :: vs, k, cells, i, h => by
    simp only [List.length_cons] at h
    simp only [List.zipIdx_cons, List.foldl_cons, List.length_cons]
    rw [foldl_get off vs (k + 1) (cells.setIfInBounds (off + k) v) i (by simp; omega)]
    by_cases h1 : off + (k + 1) ≤ i ∧ i < off + (k + 1) + vs.length
    · rw [if_pos h1, if_pos ⟨by omega, by omega⟩, show i - (off + k) = (i - (off + (k + 1))) + 1 from by omega, List.getElem?_cons_succ]
    · rw [if_neg h1]
      by_cases h2 : i = off + k
      · subst h2
        rw [if_pos ⟨by omega, by omega⟩]
        simp [show off + k < cells.size from by omega]
      · rw [if_neg (by omega), Array.getElem?_setIfInBounds_ne (by omega)]

theorem foldl_set (cells : Array Value) (off : Nat) (vs : List Value) (h : off + vs.length ≤ cells.size) :
    (vs.zipIdx.foldl (fun cs (c, j) => cs.setIfInBounds (off + j) c) cells) = (cells.toList.take off ++ vs ++ cells.toList.drop (off + vs.length)).toArray := by
  apply Array.ext_getElem?
  intro i
  rw [foldl_get off vs 0 cells i (by omega)]
  simp only [Nat.add_zero, List.getElem?_toArray, List.append_assoc]
  have hlen : (cells.toList.take off).length = off := by simp; omega
  by_cases h1 : i < off
  · rw [if_neg (by omega), List.getElem?_append_left (by omega)]
    simp [h1]
  · rw [List.getElem?_append_right (by omega), hlen]
    by_cases h2 : i < off + vs.length
    · rw [if_pos ⟨by omega, h2⟩, List.getElem?_append_left (by omega)]
    · rw [if_neg (by omega), List.getElem?_append_right (by omega), List.getElem?_drop]
      simp only [Array.getElem?_toList]
      congr 1; omega

theorem afill_run {place : Nat → Option (Nat × Nat)} : ∀ {parts : List (Nat × AV)} {parts' : List (Nat × Value)} {cells r : List AV} {cells' : List Value}, PartsR ι parts parts' → VRs ι cells cells' →
    afill place cells parts = some r → ∃ r', VRs ι r r' ∧ Instr.fill place cells'.toArray parts' = some r'.toArray
  | [], _, cells, r, cells', hp, hc, he => by
    subst hp
    simp only [afill, Option.some.injEq] at he; subst he
    exact ⟨cells', hc, rfl⟩
  | (i, v) :: rest, _, cells, r, cells', ⟨v', l', hv, hl, e⟩, hc, he => by
    subst e
    simp only [afill] at he
    split at he
    · simp at he
    · rename_i off size hpl
      split at he
      · rename_i cs hcs
        unfold afillAt at hcs
        split at hcs
        · rename_i hlen
          obtain ⟨vc, hvc, hce⟩ := hv.cells
          obtain ⟨r1, hr1, e1, hb⟩ := layAt_VRs hvc hc hcs
          obtain ⟨r', hr', hf⟩ := afill_run hl hr1 he
          refine ⟨r', hr', ?_⟩
          have hsz : v'.cells.size = size := by rw [hce]; simp [← hvc.length, hasLen_spec hlen]
          have hsz' : vc.length = size := by rw [← hvc.length, hasLen_spec hlen]
          simp only [Instr.fill, hpl]
          rw [if_neg (by simp [hsz]; omega)]
          rw [← hf]
          congr 1
          rw [hce, ← Array.foldl_toList]
          have := foldl_set cells'.toArray off vc (by simp; omega)
          rw [e1]
          rw [← this]
          simp
        · simp at hcs
      · simp at he

theorem PartsR.map {ρ : Operand → Value} {regs : Tr AV} (hρ : ∀ x a, aeval P regs x = some a → VR ι a (ρ x)) : ∀ {l : List (Nat × Operand)} {r : List (Nat × AV)}, aparts P regs l = some r →
    PartsR ι r (l.map fun (i, x) => (i, ρ x))
  | [], r, h => by simp only [aparts, Option.some.injEq] at h; subst h; rfl
  | (i, x) :: l, r, h => by
    simp only [aparts] at h
    split at h
    · rename_i v hv
      split at h
      · rename_i vs hvs
        simp only [Option.some.injEq] at h; subst h
        exact ⟨_, _, hρ x v hv, PartsR.map hρ hvs, rfl⟩
      · simp at h
    · simp at h

theorem fieldsSized_run : ∀ {l : List Field}, fieldsSized P l = true → ∀ w : World,
    (l.mapM fun f => (do pure (f.offset, ← sizeOf f.type) : Sem (Nat × Nat))).run P w = .ok (l.map fun f => (f.offset, (tySize P f.type).getD 0)) w
  | [], _, _ => rfl
  | f :: l, h, w => by
    simp only [fieldsSized] at h
    split at h
    · rename_i n hn
      have ih := fieldsSized_run h w
      simp only [List.mapM_cons, Sem.run_bind, tySize_run hn, Result.andThen_ok, Sem.run_pure, ih, List.map_cons, hn, Option.getD_some]
    · simp at h

theorem fieldsSized_get : ∀ {l : List Field}, fieldsSized P l = true → ∀ (i : Nat), fieldSpot P l[i]? = (l.map fun f => (f.offset, (tySize P f.type).getD 0))[i]?
  | [], _, i => by simp [fieldSpot]
  | f :: l, h, i => by
    simp only [fieldsSized] at h
    split at h
    · rename_i n hn
      cases i with
      | zero => simp [fieldSpot, hn]
      | succ i => simpa using fieldsSized_get h i
    · simp at h

theorem aggOf_spec {o : Option (List AV)} {v : AV} (h : aggOf o = some v) : ∃ l, o = some l ∧ v = .agg l := by
  cases o with
  | none => simp [aggOf] at h
  | some l => simp only [aggOf, Option.some.injEq] at h; exact ⟨l, rfl, h.symm⟩

theorem build_run {t : Nat} {ps : List (Nat × AV)} {ps' : List (Nat × Value)} {v : AV} (hp : PartsR ι ps ps') (he : abuild P t ps = some v) :
    ∃ v', VR ι v v' ∧ ∀ w : World, (Instr.build t ps'.toArray).run P w = .ok v' w := by
  unfold abuild at he
  split at he
  · simp at he
  · rename_i z hz
    obtain ⟨z', hz', _, hrz⟩ := tyZero_run hz ι
    obtain ⟨zc, hzc, ez⟩ := hz'.cells
    unfold buildAs at he
    split at he
    · rename_i fields hu
      split at he
      · rename_i hs
        obtain ⟨l, hl, rfl⟩ := aggOf_spec he
        obtain ⟨r', hr', hf⟩ := afill_run hp hzc hl
        refine ⟨.agg r'.toArray, ⟨r', hr', rfl⟩, fun w => ?_⟩
        have hpl : (fun i : Nat => fieldSpot P fields[i]?) = fun i => (fields.toList.map fun f => (f.offset, (tySize P f.type).getD 0)).toArray[i]? := by
          funext i
          rw [← Array.getElem?_toList, fieldsSized_get hs]
          simp
        rw [hpl] at hf
        simp only [Instr.build, Sem.run_bind, hrz, Result.andThen_ok, und_run hu, ez, Array.mapM_eq_mapM_toList, Sem.run_map, fieldsSized_run hs]
        simp only [hf]
        rfl
      · simp at he
    · rename_i len e hu
      split at he
      · rename_i n hn
        obtain ⟨l, hl, rfl⟩ := aggOf_spec he
        obtain ⟨r', hr', hf⟩ := afill_run hp hzc hl
        refine ⟨.agg r'.toArray, ⟨r', hr', rfl⟩, fun w => ?_⟩
        simp only [Instr.build, Sem.run_bind, hrz, Result.andThen_ok, und_run hu, ez, tySize_run hn, hf]
        rfl
      · simp at he
    · simp at he

end Go.AM

namespace Go.AM
variable {P : Program} {ι : Inj} {h : AHeap} {w : World}

theorem aslot_spec {x : AV} {n : Nat} {x' : Value} (hx : VR ι x x') (h : aslot x = some n) : ∃ k, x' = .int k (n : Int) := by
  unfold aslot at h
  split at h
  · rename_i k m
    simp only [Option.some.injEq] at h; subst h
    exact ⟨k, hx⟩
  · simp at h

theorem asIntOf_run (k : IntKind) (n : Int) (w : World) : (asIntOf (.int k n)).run P w = .ok (k, n) w := rfl

theorem indexAddr_run {t : Nat} {x i v : AV} {x' i' : Value} (hx : VR ι x x') (hi : VR ι i i') (he : aindexAddr P t x i = some v) :
    ∃ v', VR ι v v' ∧ ∀ w : World, (Instr.indexAt t x' i').run P w = .ok v' w := by
  unfold aindexAddr at he
  split at he
  · simp at he
  · rename_i n hn
    obtain ⟨k, rfl⟩ := aslot_spec hi hn
    unfold indexAddrAs at he
    split at he
    · rename_i len e hu
      split at he
      · rename_i b o
        split at he
        · rename_i hlt
          unfold elemAt at he
          split at he
          · rename_i sz hsz
            simp only [Option.some.injEq] at he; subst he
            obtain ⟨L, hL, rfl⟩ := hx
            refine ⟨_, ⟨L, hL, rfl⟩, fun w => ?_⟩
            have h1 : (0 : Int) ≤ (n : Int) ∧ (n : Int) < (len : Int) := ⟨by omega, by omega⟩
            simp only [Instr.indexAt, asIntOf_run, Sem.run_bind, und_run hu, Result.andThen_ok, Instr.sureAddr, Sem.run_pure, Sem.run_ite]
            rw [if_pos h1]
            simp [tySize_run hsz, add_plain, Nat.add_assoc]
          · simp at he
        · simp at he
      · simp at he
    · rename_i e hu
      split at he
      · rename_i b o len cap es
        split at he
        · rename_i hlt
          unfold elemAt at he
          split at he
          · rename_i sz hsz
            simp only [Option.some.injEq] at he; subst he
            obtain ⟨L, ex, off, hL, hle, _, ho, rfl⟩ := hx
            obtain rfl : off = L.base + o := by rcases ho with ho | ho; (· omega); exact ho
            refine ⟨_, ⟨L, hL, rfl⟩, fun w => ?_⟩
            have h1 : (0 : Int) ≤ (n : Int) ∧ (n : Int) < (len : Int) := ⟨by omega, by omega⟩
            simp only [Instr.indexAt, asIntOf_run, Sem.run_bind, und_run hu, Result.andThen_ok, Sem.run_pure, Sem.run_ite]
            rw [if_pos h1]
            simp [tySize_run hsz, add_plain, Nat.add_assoc]
          · simp at he
        · simp at he
      · simp at he
    · simp at he

theorem index_run {t : Nat} {x i v : AV} {x' i' : Value} (hx : VR ι x x') (hi : VR ι i i') (he : aindex P t x i = some v) :
    ∃ v', VR ι v v' ∧ ∀ w : World, (Instr.index t x' i').run P w = .ok v' w := by
  unfold aindex at he
  split at he
  · simp at he
  · rename_i n hn
    obtain ⟨k, rfl⟩ := aslot_spec hi hn
    unfold indexAs at he
    split at he
    · rename_i len e hu
      split at he
      · rename_i cs
        split at he
        · rename_i hlt
          split at he
          · rename_i sz hsz
            obtain ⟨l', hl, rfl⟩ := hx
            obtain ⟨v', hv, hr⟩ := part_run hl he
            refine ⟨v', hv, fun w => ?_⟩
            have h1 : (0 : Int) ≤ (n : Int) ∧ (n : Int) < (len : Int) := ⟨by omega, by omega⟩
            simp only [Instr.index, asIntOf_run, Sem.run_bind, und_run hu, Result.andThen_ok, Sem.run_ite]
            rw [if_pos h1]
            simp [tySize_run hsz, hr]
          · simp at he
        · simp at he
      · simp at he
    · rename_i hu
      split at he
      · rename_i s
        unfold byteAt at he
        split at he
        · rename_i c r hd
          simp only [Option.some.injEq] at he; subst he
          obtain rfl := VR_str hx
          refine ⟨_, rfl, fun w => ?_⟩
          have hg := drop_cons hd
          have hb : s[n]? = some c := by
            have hlt : n < s.data.toList.length := (List.getElem?_eq_some_iff.1 hg).1
            have hlt' : n < s.size := by show n < s.data.size; rw [← Array.length_toList]; exact hlt
            have e2 := (List.getElem?_eq_some_iff.1 hg).2
            rw [getElem?_pos s n hlt', ← e2]
            rfl
          have hn0 : (0 : Int) ≤ (n : Int) := by omega
          simp only [Instr.index, asIntOf_run, Sem.run_bind, und_run hu, Result.andThen_ok, hn0, if_true, Int.toNat_natCast, hb, Sem.run_pure]
        · simp at he
      · simp at he
    · simp at he

theorem field_run {t f : Nat} {x v : AV} {x' : Value} (hx : VR ι x x') (he : afield P t x f = some v) :
    ∃ v', VR ι v v' ∧ ∀ w : World, (Instr.field t x' f).run P w = .ok v' w := by
  unfold afield fieldAs at he
  split at he
  · rename_i fields hu
    split at he
    · rename_i cs
      unfold partOf at he
      split at he
      · rename_i fd hf
        obtain ⟨l', hl, rfl⟩ := hx
        obtain ⟨v', hv, hr⟩ := part_run hl he
        refine ⟨v', hv, fun w => ?_⟩
        simp [Instr.field, und_run hu, hf, asAgg, hr]
      · simp at he
    · simp at he
  · simp at he

theorem fieldAddr_run {t f : Nat} {x v : AV} {x' : Value} (hx : VR ι x x') (he : afieldAddr P t x f = some v) :
    ∃ v', VR ι v v' ∧ ∀ w : World, (Instr.fieldAt t x' f).run P w = .ok v' w := by
  unfold afieldAddr fieldAddrAs at he
  split at he
  · rename_i fields hu
    split at he
    · rename_i b o
      unfold fieldPtr at he
      split at he
      · rename_i fd hf
        split at he
        · rename_i n hn
          simp only [Option.some.injEq] at he; subst he
          obtain ⟨L, hL, rfl⟩ := hx
          refine ⟨_, ⟨L, hL, rfl⟩, fun w => ?_⟩
          simp [Instr.fieldAt, und_run hu, hf, Instr.sureAddr, fieldPlace, tySize_run hn, add_plain, Nat.add_assoc]
        · simp at he
      · simp at he
    · simp at he
  · simp at he

/-! Slices of slices. -/
theorem atMost_spec {m : Nat} {o : Option AV} {n : Nat} (h : atMost m o = some n) : ∃ x, o = some x ∧ aslot x = some n ∧ n ≤ m := by
  unfold atMost at h
  split at h
  · rename_i v
    split at h
    · rename_i k hk
      split at h
      · rename_i hle; simp only [Option.some.injEq] at h; subst h; exact ⟨v, rfl, hk, hle⟩
      · simp at h
    · simp at h
  · simp at h

def OR (ι : Inj) : Option AV → Option Value → Prop
  | none, o => o = none
  | some a, o => ∃ v, VR ι a v ∧ o = some v

theorem sliceBound_run {x : AV} {x' : Value} {n y : Nat} {c : BoundsCode} (hx : VR ι x x') (hs : aslot x = some n) (hle : n ≤ y) (w : World) :
    (Instr.sliceBound x' y c).run P w = .ok n w := by
  obtain ⟨k, rfl⟩ := aslot_spec hx hs
  have h1 : (0 : Int) ≤ (n : Int) ∧ (n : Int) ≤ (y : Int) := ⟨by omega, by omega⟩
  simp only [Instr.sliceBound, asIntOf_run, Sem.run_bind, Result.andThen_ok, Sem.run_ite]
  rw [if_pos h1]; simp

/-- The bounds, where the true capacity may be greater than the one that is known. -/
theorem bounds_run {len cap e l hh m : Nat} {lo hi mx : Option AV} {lo' hi' mx' : Option Value} (isSlice : Bool) (hlo : OR ι lo lo') (hhi : OR ι hi hi') (hmx : OR ι mx mx')
    (he : abounds len cap lo hi mx = some (l, hh, m)) (w : World) :
    (Instr.sliceBounds isSlice len (cap + e) lo' hi' mx').run P w = .ok (l, hh, if mx = none then cap + e else m) w ∧
      m ≤ cap ∧ (mx = none → m = cap) ∧ (len ≤ cap → l ≤ hh ∧ hh ≤ m ∨ (hi = none ∧ l ≤ hh ∧ hh = len)) ∧ l ≤ hh := by
  unfold abounds at he
  split at he
  · simp at he
  · rename_i m' hm
    split at he
    · simp at he
    · rename_i h' hh'
      split at he
      · simp at he
      · rename_i l' hl'
        simp only [Option.some.injEq, Prod.mk.injEq] at he
        obtain ⟨rfl, rfl, rfl⟩ := he
        have hlle : l' ≤ h' := by
          split at hl'
          · obtain ⟨_, _, _, h3⟩ := atMost_spec hl'; exact h3
          · simp only [Option.some.injEq] at hl'; omega
        have hmcap : m' ≤ cap ∧ (mx = none → m' = cap) := by
          split at hm
          · obtain ⟨_, _, _, h3⟩ := atMost_spec hm; exact ⟨h3, fun h => by simp at h⟩
          · simp only [Option.some.injEq] at hm; exact ⟨by omega, fun _ => hm.symm⟩
        have hhm : (len ≤ cap → l' ≤ h' ∧ h' ≤ m' ∨ (hi = none ∧ l' ≤ h' ∧ h' = len)) := by
          intro _
          split at hh'
          · obtain ⟨_, _, _, h3⟩ := atMost_spec hh'; exact .inl ⟨hlle, h3⟩
          · split at hh'
            · simp only [Option.some.injEq] at hh'; exact .inr ⟨rfl, hlle, hh'.symm⟩
            · simp at hh'
        refine ⟨?_, hmcap.1, hmcap.2, hhm, hlle⟩
        cases mx with
        | none =>
          obtain rfl := hmx
          simp only [Option.some.injEq] at hm; subst hm
          cases hi with
          | none =>
            obtain rfl := hhi
            simp only [Option.some.injEq] at hh'; subst hh'
            cases lo with
            | none =>
              obtain rfl := hlo
              simp only [Option.some.injEq] at hl'; subst hl'
              simp [Instr.sliceBounds]
            | some x =>
              obtain ⟨x', hx, rfl⟩ := hlo
              obtain ⟨y, e1, h2, h3⟩ := atMost_spec hl'
              cases e1
              simp [Instr.sliceBounds, sliceBound_run hx h2 h3]
          | some z =>
            obtain ⟨z', hz, rfl⟩ := hhi
            obtain ⟨y, e1, h2, h3⟩ := atMost_spec hh'
            cases e1
            have hb : h' ≤ cap + e := by omega
            cases lo with
            | none =>
              obtain rfl := hlo
              simp only [Option.some.injEq] at hl'; subst hl'
              simp [Instr.sliceBounds, sliceBound_run hz h2 hb]
            | some x =>
              obtain ⟨x', hx, rfl⟩ := hlo
              obtain ⟨y, e1, h4, h5⟩ := atMost_spec hl'
              cases e1
              simp [Instr.sliceBounds, sliceBound_run hz h2 hb, sliceBound_run hx h4 h5]
        | some q =>
          obtain ⟨q', hq, rfl⟩ := hmx
          obtain ⟨y, e1, h6, h7⟩ := atMost_spec hm
          cases e1
          have hb7 : m' ≤ cap + e := by omega
          cases hi with
          | none => simp at hh'
          | some z =>
            obtain ⟨z', hz, rfl⟩ := hhi
            obtain ⟨y, e1, h2, h3⟩ := atMost_spec hh'
            cases e1
            cases lo with
            | none =>
              obtain rfl := hlo
              simp only [Option.some.injEq] at hl'; subst hl'
              simp [Instr.sliceBounds, sliceBound_run hq h6 hb7, sliceBound_run hz h2 h3]
            | some x =>
              obtain ⟨x', hx, rfl⟩ := hlo
              obtain ⟨y, e1, h4, h5⟩ := atMost_spec hl'
              cases e1
              simp [Instr.sliceBounds, sliceBound_run hq h6 hb7, sliceBound_run hz h2 h3, sliceBound_run hx h4 h5]

end Go.AM

namespace Go.AM
variable {P : Program} {ι : Inj} {h : AHeap} {w : World}

theorem sliceAt_VR {b o l hh m n : Nat} {L : Loc} {off e : Nat} {cap : Nat} {mx : Option AV} (hL : ι b = some L) (hle : l ≤ hh)
    (hlm : hh ≤ m) (hmc : m ≤ cap) (hmx : mx = none → m = cap)
    (he : e = 0 ∨ (o + cap * n = L.size ∧ e * n ≤ L.extra)) (ho : cap + e = 0 ∨ off = L.base + o) :
    VR ι (.slice b (o + l * n) (hh - l) (m - l) n)
      (.slice (some ⟨L.blk, if (if mx = none then cap + e else m) = l then off else off + l * n, none⟩) (hh - l) ((if mx = none then cap + e else m) - l)) := by
  by_cases hm : mx = none
  · simp only [hm, if_true]
    have hm' := hmx hm
    subst hm'
    refine ⟨L, e, if m + e = l then off else off + l * n, hL, by omega, ?_, ?_, ?_⟩
    · rcases he with he | ⟨h1, h2⟩
      · exact .inl he
      · refine .inr ⟨?_, h2⟩
        have : l * n + (m - l) * n = m * n := by rw [← Nat.add_mul]; congr 1; omega
        omega
    · by_cases hz : m + e = l
      · exact .inl (by omega)
      · rw [if_neg hz]
        refine .inr ?_
        rcases ho with ho | ho <;> omega
    · congr 1; omega
  · simp only [hm, if_false]
    refine ⟨L, 0, if m = l then off else off + l * n, hL, by omega, .inl rfl, ?_, rfl⟩
    by_cases hz : m = l
    · exact .inl (by omega)
    · rw [if_neg hz]
      refine .inr ?_
      rcases ho with ho | ho <;> omega

theorem abounds_le {len cap l hh m : Nat} {lo hi mx : Option AV} (he : abounds len cap lo hi mx = some (l, hh, m)) (hlc : len ≤ cap) : l ≤ hh ∧ hh ≤ m ∧ m ≤ cap ∧ (mx = none → m = cap) := by
  unfold abounds at he
  split at he
  · simp at he
  · rename_i m' hm
    split at he
    · simp at he
    · rename_i h' hh'
      split at he
      · simp at he
      · rename_i l' hl'
        simp only [Option.some.injEq, Prod.mk.injEq] at he
        obtain ⟨rfl, rfl, rfl⟩ := he
        refine ⟨?_, ?_, ?_, ?_⟩
        · split at hl'
          · obtain ⟨_, _, _, h3⟩ := atMost_spec hl'; exact h3
          · simp only [Option.some.injEq] at hl'; omega
        · split at hh'
          · obtain ⟨_, _, _, h3⟩ := atMost_spec hh'; exact h3
          · split at hh'
            · simp only [Option.some.injEq] at hh' hm; omega
            · simp at hh'
        · split at hm
          · obtain ⟨_, _, _, h3⟩ := atMost_spec hm; exact h3
          · simp only [Option.some.injEq] at hm; omega
        · intro h; subst h
          simp only [Option.some.injEq] at hm; omega

theorem slice_run {t : Nat} {x v : AV} {x' : Value} {lo hi mx : Option AV} {lo' hi' mx' : Option Value} (hx : VR ι x x') (hlo : OR ι lo lo') (hhi : OR ι hi hi') (hmx : OR ι mx mx')
    (he : aslice P t x lo hi mx = some v) : ∃ v', VR ι v v' ∧ ∀ w : World, (Instr.sliceAt t x' lo' hi' mx').run P w = .ok v' w := by
  unfold aslice sliceAs at he
  split at he
  · rename_i hu
    split at he
    · rename_i s
      split at he
      · simp at he
      · unfold sliceStr at he
        split at he
        · rename_i l hh m hb
          simp only [Option.some.injEq] at he; subst he
          obtain rfl := VR_str hx
          obtain rfl := hmx
          refine ⟨_, rfl, fun w => ?_⟩
          have hr := (bounds_run (P := P) (e := 0) false hlo hhi (show OR ι none none from rfl) hb w).1
          simp only [Instr.sliceAt, Sem.run_bind, und_run hu, Result.andThen_ok, Instr.slice, Option.isSome_none, Bool.false_eq_true, if_false]
          simp only [Nat.add_zero] at hr
          simp only [Sem.run_pure, Result.andThen_ok, hr]
        · simp at he
    · simp at he
  · rename_i e hu
    split at he
    · rename_i b o len cap es
      unfold sliceAt at he
      split at he
      · rename_i l hh m n hb hn
        split at he
        · rename_i hes
          obtain rfl : n = es := Nat.eq_of_beq_eq_true hes
          simp only [Option.some.injEq] at he; subst he
          obtain ⟨L, ex, off, hL, hle, hex, ho, rfl⟩ := hx
          obtain ⟨h1, h2, h3, h4⟩ := abounds_le hb hle
          refine ⟨_, sliceAt_VR hL h1 h2 h3 h4 hex ho, fun w => ?_⟩
          have hr := (bounds_run (P := P) (e := ex) true hlo hhi hmx hb w).1
          simp only [Instr.sliceAt, Sem.run_bind, und_run hu, Result.andThen_ok, Instr.slice, hr, tySize_run hn, Sem.run_pure]
          generalize (if mx = none then cap + ex else m) = q
          by_cases hq : q = l <;> simp [hq, add_plain]
        · simp at he
      · simp at he
    · unfold sliceNil at he
      split at he
      · rename_i y n hb hn
        simp only [Option.some.injEq] at he; subst he
        obtain rfl : x' = .slice none 0 0 := hx
        obtain ⟨l, hh, m⟩ := y
        obtain ⟨h1, h2, h3, h4⟩ := abounds_le hb (Nat.le_refl _)
        refine ⟨_, rfl, fun w => ?_⟩
        have hr := (bounds_run (P := P) (e := 0) true hlo hhi hmx hb w).1
        simp only [Instr.sliceAt, Sem.run_bind, und_run hu, Result.andThen_ok, Instr.slice]
        simp only [Nat.add_zero] at hr
        obtain rfl : m = 0 := by omega
        obtain rfl : hh = 0 := by omega
        obtain rfl : l = 0 := by omega
        simp only [ite_self] at hr
        simp [hr, tySize_run hn]
      · simp at he
    · simp at he
  · rename_i len e hu
    split at he
    · rename_i b o
      unfold sliceVar at he
      split at he
      · rename_i l hh m n hb hn
        simp only [Option.some.injEq] at he; subst he
        obtain ⟨L, hL, rfl⟩ := hx
        obtain ⟨h1, h2, h3, h4⟩ := abounds_le hb (Nat.le_refl _)
        refine ⟨_, sliceAt_VR (e := 0) (off := L.base + o) (cap := len) hL h1 h2 h3 h4 (.inl rfl) (.inr rfl), fun w => ?_⟩
        have hr := (bounds_run (P := P) (e := 0) false hlo hhi hmx hb w).1
        simp only [Nat.add_zero] at hr
        simp only [Instr.sliceAt, Sem.run_bind, und_run hu, Result.andThen_ok, Instr.sureAddr, Sem.run_pure, hr, tySize_run hn]
        simp only [Nat.add_zero]
        have hm' : (if mx = none then len else m) = m := by split <;> simp_all
        rw [hm']
        by_cases hq : m = l <;> simp [hq, add_plain]
      · simp at he
    · simp at he
  · simp at he

/-! The others that look at nothing but their operands. -/
theorem nil_run {x v : AV} {o : Oper} {ρ : Operand → Value} {xo : Operand} (ho : o.op = .nilCheck xo) (hx : VR ι x (ρ xo)) (he : anil x = some v) (w : World) :
    (execOp ρ o).run P w = .ok (.value (ρ xo)) w ∧ VR ι v (ρ xo) := by
  unfold anil at he
  split at he <;> simp only [Option.some.injEq, reduceCtorEq] at he <;> subst he
  · obtain ⟨L, hL, e⟩ := hx
    exact ⟨by simp only [execOp, ho, e]; rfl, L, hL, e⟩
  · obtain ⟨a', c', ha, hc, e⟩ := hx
    exact ⟨by simp only [execOp, ho, e]; rfl, a', c', ha, hc, e⟩
  · obtain ⟨L, hL, e⟩ := hx
    exact ⟨by simp only [execOp, ho, e]; rfl, L, hL, e⟩
  · obtain ⟨y, hy, e⟩ := hx
    exact ⟨by simp only [execOp, ho, e]; rfl, y, hy, e⟩

end Go.AM

namespace Go.AM
variable {P : Program} {ι : Inj} {h : AHeap} {w : World}

/-! A block that is new. -/
def Inj.upd (ι : Inj) (b : Nat) (L : Loc) : Inj := fun c => if c = b then some L else ι c

theorem Inj.upd_le {ι : Inj} {b : Nat} {L : Loc} (hb : ι b = none) : ι.le (ι.upd b L) := fun c M hc => by
  unfold Inj.upd
  rw [if_neg (fun e => by rw [e, hb] at hc; cases hc)]; exact hc

theorem Inj.upd_same (ι : Inj) (b : Nat) (L : Loc) : ι.upd b L b = some L := by simp [Inj.upd]

/-- Nothing but the memory differs, and that has one row more. -/
def Pushed (w u : World) (o : Obj) : Prop :=
  ((∀ c, c < w.heap.size → u.heap[c]? = w.heap[c]?) ∧ u.heap[w.heap.size]? = some o ∧ u.heap.size = w.heap.size + 1) ∧ u.os = w.os ∧ u.output = w.output ∧ u.tape = w.tape

theorem pushed_push {w u : World} {o : Obj} (h : u.heap = w.heap.push o) (h1 : u.os = w.os) (h2 : u.output = w.output) (h3 : u.tape = w.tape) : Pushed w u o :=
  ⟨⟨fun c hc => by rw [h, Array.getElem?_push_lt hc, Array.getElem?_eq_getElem hc], by rw [h]; simp, by rw [h]; simp⟩, h1, h2, h3⟩

theorem heap_none (hh : HR ι h w) : h.get h.next = none := by
  cases hg : h.get h.next with
  | none => rfl
  | some k => exact absurd (hh.next _ _ hg) (Nat.lt_irrefl _)

theorem new_ext {k : ABlk} {o : Obj} {u : World} {size extra : Nat} (hh : HR ι h w) (hu : Pushed w u o)
    (hk : BR (ι.upd h.next ⟨w.heap.size, 0, size, extra⟩) ⟨w.heap.size, 0, size, extra⟩ (some o) k) :
    HR (ι.upd h.next ⟨w.heap.size, 0, size, extra⟩) (h.new k) u ∧ Ext ι h w (ι.upd h.next ⟨w.heap.size, 0, size, extra⟩) (h.new k) u := by
  obtain ⟨⟨hold, hnew, hsize⟩, h2, h3, h4⟩ := hu
  have hle : ι.le (ι.upd h.next ⟨w.heap.size, 0, size, extra⟩) := Inj.upd_le (hh.fresh _ (Nat.le_refl _))
  have hcase : ∀ b L, ι.upd h.next ⟨w.heap.size, 0, size, extra⟩ b = some L → (b = h.next ∧ L = ⟨w.heap.size, 0, size, extra⟩) ∨ (b ≠ h.next ∧ ι b = some L) := by
    intro b L hb
    unfold Inj.upd at hb
    split at hb
    · rename_i e; simp only [Option.some.injEq] at hb; exact .inl ⟨e, hb.symm⟩
    · rename_i e; exact .inr ⟨e, hb⟩
  refine ⟨⟨?_, ?_, ?_, ?_, ?_⟩, ⟨hle, ?_, by simp [AHeap.next_new], by omega, ?_, ?_, ?_, ?_, h2, h3, h4⟩⟩
  · intro b k' L hg hb
    rw [AHeap.get_new] at hg
    rcases hcase b L hb with ⟨rfl, rfl⟩ | ⟨hne, hb⟩
    · rw [if_pos rfl] at hg; cases hg
      simp only [hnew]; exact hk
    · rw [if_neg hne] at hg
      have := hh.blocks b k' L hg hb
      rw [hold _ (hh.bound b L hb)]
      exact this.mono hle
  · intro b L hb
    rcases hcase b L hb with ⟨rfl, rfl⟩ | ⟨hne, hb⟩
    · simp only; omega
    · have := hh.bound b L hb; omega
  · intro b b' L L' k1 k2 hne hb hb' hg hg' hw hl
    rw [AHeap.get_new] at hg hg'
    rcases hcase b L hb with ⟨rfl, rfl⟩ | ⟨hn1, hb⟩
    · rcases hcase b' L' hb' with ⟨rfl, rfl⟩ | ⟨hn2, hb'⟩
      · exact absurd rfl hne
      · have := hh.bound b' L' hb'; simp only; omega
    · rcases hcase b' L' hb' with ⟨rfl, rfl⟩ | ⟨hn2, hb'⟩
      · have := hh.bound b L hb; simp only; omega
      · rw [if_neg hn1] at hg; rw [if_neg hn2] at hg'
        exact hh.apart b b' L L' k1 k2 hne hb hb' hg hg' hw hl
  · intro b k' hg
    rw [AHeap.get_new] at hg
    rw [AHeap.next_new]
    split at hg
    · omega
    · have := hh.next b k' hg; omega
  · intro b hb
    rw [AHeap.next_new] at hb
    unfold Inj.upd
    rw [if_neg (by omega)]
    exact hh.fresh b (by omega)
  · intro b L hb
    rcases hcase b L hb with ⟨rfl, rfl⟩ | ⟨hn1, hb⟩
    · exact .inr ⟨Nat.le_refl _, by simp [AHeap.next_new]⟩
    · exact .inl hb
  · intro c hc _; exact hold c hc
  · rintro c hc ⟨b, L, k', hb, hg, hp, rfl⟩
    rw [AHeap.get_new] at hg
    rcases hcase b L hb with ⟨rfl, rfl⟩ | ⟨hn1, hb⟩
    · exact absurd hc (Nat.lt_irrefl _)
    · rw [if_neg hn1] at hg; exact ⟨b, L, k', hb, hg, hp, rfl⟩
  · rintro c hc ⟨b, L, k', hb, hg, hp, rfl⟩
    rw [AHeap.get_new] at hg
    rcases hcase b L hb with ⟨rfl, rfl⟩ | ⟨hn1, hb⟩
    · exact absurd hc (Nat.lt_irrefl _)
    · rw [if_neg hn1] at hg; exact ⟨b, L, k', hb, hg, hp, rfl⟩
  · intro b hb _
    rw [AHeap.get_new, if_neg (by omega)]

/-- A row of cells that is new. -/
theorem BR_row {ι : Inj} {cs : List AV} {cs' : List Value} {e extra blk : Nat} {rest : List Value} {ex : Bool} (hv : VRs ι cs cs') (hex : ex = true → extra = 0) (hr : rest.length = extra) :
    BR ι ⟨blk, 0, cs.length, extra⟩ (some (.cells (cs' ++ rest).toArray e)) (.cells cs false ex) := by
  refine ⟨(cs' ++ rest).toArray, e, (0, 0), rfl, rfl, hex, ?_, fun _ => ⟨?_, ?_⟩⟩
  · intro i v hi
    obtain ⟨v', h1, h2⟩ := hv.get i v hi
    refine ⟨v', ?_, h2⟩
    have hlt : i < cs'.length := (List.getElem?_eq_some_iff.1 h1).1
    simp only [Nat.zero_add, List.getElem?_toArray]
    rw [List.getElem?_append_left hlt]; exact h1
  · simp [hv.length, hr]
  · intro i _ _; simp

/-! Cells that are set. -/
theorem setCells_spec (g : Nat) : ∀ (vs : List Value) (o : Nat) (w : World) (c : Array Value) (e : Nat) (fz : Nat × Nat), w.heap[g]? = some (.cells c e fz) → o + vs.length ≤ c.size →
    ∃ c', (w.setCells g o vs).heap[g]? = some (.cells c' e fz) ∧ c'.size = c.size ∧ (∀ i, c'[i]? = if o ≤ i ∧ i < o + vs.length then vs[i - o]? else c[i]?) ∧
      (∀ j, j ≠ g → (w.setCells g o vs).heap[j]? = w.heap[j]?) ∧ (w.setCells g o vs).heap.size = w.heap.size ∧
      (w.setCells g o vs).os = w.os ∧ (w.setCells g o vs).output = w.output ∧ (w.setCells g o vs).tape = w.tape
  | [], o, w, c, e, fz, hg, _ => ⟨c, hg, rfl, fun i => by simp; intro h1 h2; omega, fun _ _ => rfl, rfl, rfl, rfl, rfl⟩
  | v :: r, o, w, c, e, fz, hg, hl => by
    simp only [List.length_cons] at hl
    have hlt : g < w.heap.size := (Array.getElem?_eq_some_iff.1 hg).1
    have hg1 : (w.setCell ⟨g, o, none⟩ v).heap[g]? = some (.cells (c.setIfInBounds o v) e fz) := by
      simp [World.setCell, Array.getElem?_modify, hg]
    obtain ⟨c', h1, h2, h3, h4, h5, h6, h7, h8⟩ := setCells_spec g r (o + 1) (w.setCell ⟨g, o, none⟩ v) _ e fz hg1 (by simp; omega)
    refine ⟨c', h1, by simpa using h2, ?_, ?_, ?_, h6, h7, h8⟩
    · intro i
      rw [h3]
      simp only [List.length_cons]
      by_cases e1 : o + 1 ≤ i ∧ i < o + 1 + r.length
      · rw [if_pos e1, if_pos ⟨by omega, by omega⟩, show i - o = (i - (o + 1)) + 1 from by omega, List.getElem?_cons_succ]
      · rw [if_neg e1]
        by_cases e2 : i = o
        · subst e2
          rw [if_pos ⟨by omega, by omega⟩]
          simp [show i < c.size from by omega]
        · rw [if_neg (by omega), Array.getElem?_setIfInBounds_ne (by omega)]
    · intro j hj
      rw [World.setCells, h4 j hj]
      simp [World.setCell, Array.getElem?_modify, Ne.symm hj]
    · rw [World.setCells, h5]; simp [World.setCell]

theorem write_spec {b o : Nat} {vs : List AV} {g : AHeap} (he : h.write b o vs = some g) :
    ∃ cs ex r, vs.all AV.scalar = true ∧ h.get b = some (.cells cs false ex) ∧ layAt vs o cs = some r ∧ g = h.set b (.cells r false ex) := by
  unfold AHeap.write at he
  split at he
  · rename_i hs
    split at he
    · rename_i cs ex hg
      unfold writeIn at he
      split at he
      · rename_i r hr
        simp only [Option.some.injEq] at he
        exact ⟨cs, ex, r, hs, hg, hr, he.symm⟩
      · simp at he
    · simp at he
  · simp at he

theorem write_run {b o : Nat} {vs : List AV} {vs' : List Value} {g : AHeap} {L : Loc} (hh : HR ι h w) (hL : ι b = some L) (hv : VRs ι vs vs') (he : h.write b o vs = some g) :
    (storeCells ⟨L.blk, L.base + o, none⟩ vs').run P w = .ok () (w.setCells L.blk (L.base + o) vs') ∧
      HR ι g (w.setCells L.blk (L.base + o) vs') ∧ Ext ι h w ι g (w.setCells L.blk (L.base + o) vs') := by
  obtain ⟨cs, ex, r, hs, hg, hr, rfl⟩ := write_spec he
  obtain ⟨c, elem, fz, h1, h2, h4, h5, h6⟩ := hh.blocks b _ L hg hL
  obtain ⟨h7, h8⟩ := h6 rfl
  obtain ⟨hre, hrl⟩ := layAt_spec vs hr
  have hlen := hv.length
  have hcell : ∀ j, L.base + j < c.size → (w.cell? ⟨L.blk, L.base + j, none⟩).isSome = true := by
    intro j hj; simp [World.cell?, h1, hj]
  have hfro : ∀ j, j < L.size → w.frozen? ⟨L.blk, L.base + j, none⟩ = false := by
    intro j hj
    have := h8 (L.base + j) (by omega) (by omega)
    simp only [World.frozen?, h1]
    simp; omega
  have hrun := run_storeCells_cells (P := P) L.blk (L.base + o) vs' 0 w
    (fun j hj => by rw [show L.base + o + 0 + j = L.base + (o + j) from by omega]; exact hcell _ (by omega))
    (fun j hj => by rw [show L.base + o + 0 + j = L.base + (o + j) from by omega]; exact hfro _ (by omega))
    (hv.oneCells hs)
  obtain ⟨c', g1, g2, g3, g4, g5, g6, g7, g8⟩ := setCells_spec L.blk vs' (L.base + o) w c elem fz h1 (by omega)
  refine ⟨hrun, ⟨?_, ?_, ?_, ?_, ?_⟩, ⟨ι.le_refl, fun _ _ e => .inl e, Nat.le_refl _, by omega, ?_, ?_, ?_, ?_, g6, g7, g8⟩⟩
  · intro b' k L' hk hL'
    rw [AHeap.get_set] at hk
    by_cases hbb : b' = b
    · subst hbb
      rw [if_pos rfl] at hk; cases hk
      rw [hL] at hL'; cases hL'
      refine ⟨c', elem, fz, g1, by rw [layAt_length hr]; exact h2, h4, ?_, fun _ => ⟨by rw [g2]; exact h7, h8⟩⟩
      intro i v hi
      rw [layAt_get hr] at hi
      rw [g3]
      by_cases hin : o ≤ i ∧ i < o + vs.length
      · rw [if_pos hin] at hi
        rw [if_pos ⟨by omega, by omega⟩]
        obtain ⟨v', a1, a2⟩ := hv.get _ v hi
        exact ⟨v', by rw [show L.base + i - (L.base + o) = i - o from by omega]; exact a1, a2⟩
      · rw [if_neg hin] at hi
        rw [if_neg (by omega)]
        exact h5 i v hi
    · rw [if_neg hbb] at hk
      have hb := hh.blocks b' k L' hk hL'
      by_cases hlv : k.live = true
      · have hne : L.blk ≠ L'.blk := hh.apart b b' L L' _ k (Ne.symm hbb) hL hL' hg hk rfl hlv
        rw [g4 _ (Ne.symm hne)]; exact hb
      · cases k with
        | dead => trivial
        | cells => simp [ABlk.live] at hlv
        | map => simp [ABlk.live] at hlv
        | loop => simp [ABlk.live] at hlv
        | deferred => simp [ABlk.live] at hlv
        | iter => simp [ABlk.live] at hlv
  · intro b' L' hL'; rw [g5]; exact hh.bound b' L' hL'
  · intro b1 b2 L1 L2 k1 k2 hne hb1 hb2 hk1 hk2 hw hl
    rw [AHeap.get_set] at hk1 hk2
    have e1 : ∃ k1', h.get b1 = some k1' ∧ k1'.writable = true := by
      split at hk1
      · rename_i e; subst e; exact ⟨_, hg, rfl⟩
      · exact ⟨k1, hk1, hw⟩
    have e2 : ∃ k2', h.get b2 = some k2' ∧ k2'.live = true := by
      split at hk2
      · rename_i e; subst e; exact ⟨_, hg, rfl⟩
      · exact ⟨k2, hk2, hl⟩
    obtain ⟨k1', a1, a2⟩ := e1
    obtain ⟨k2', a3, a4⟩ := e2
    exact hh.apart b1 b2 L1 L2 k1' k2' hne hb1 hb2 a1 a3 a2 a4
  · intro b' k hk
    rw [AHeap.get_set] at hk
    rw [AHeap.next_set]
    split at hk
    · rename_i e; subst e; exact hh.next _ _ hg
    · exact hh.next b' k hk
  · intro b' hb'; exact hh.fresh b' hb'
  · intro c0 hc0 hn
    refine g4 c0 (fun e => hn ?_)
    subst e
    exact ⟨b, L, _, hL, hg, rfl, rfl⟩
  · rintro c0 hc0 ⟨b', L', k', hb', hk', hp, rfl⟩
    rw [AHeap.get_set] at hk'
    split at hk'
    · rename_i e; subst e; rw [hL] at hb'; cases hb'; exact ⟨_, _, _, hL, hg, rfl, rfl⟩
    · exact ⟨b', L', k', hb', hk', hp, rfl⟩
  · rintro c0 hc0 ⟨b', L', k', hb', hk', hp, rfl⟩
    rw [AHeap.get_set] at hk'
    split at hk'
    · rename_i e; subst e; rw [hL] at hb'; cases hb'; exact ⟨_, _, _, hL, hg, rfl, rfl⟩
    · exact ⟨b', L', k', hb', hk', hp, rfl⟩
  · intro b' hb' hn
    rw [AHeap.get_set, if_neg (fun e => by subst e; rw [hL] at hn; cases hn)]

end Go.AM

namespace Go.AM
variable {P : Program} {ι : Inj} {h : AHeap} {w : World}

/-- One row of memory is another. -/
def RowSet (w u : World) (g : Nat) (o : Obj) : Prop :=
  u.heap[g]? = some o ∧ (∀ j, j ≠ g → u.heap[j]? = w.heap[j]?) ∧ u.heap.size = w.heap.size ∧ u.os = w.os ∧ u.output = w.output ∧ u.tape = w.tape

theorem set_ext {b : Nat} {L : Loc} {k k' : ABlk} {o : Obj} {u : World} (hh : HR ι h w) (hL : ι b = some L) (hg : h.get b = some k) (hw : k.writable = true) (hu : RowSet w u L.blk o)
    (hk : BR ι L (some o) k') : HR ι (h.set b k') u ∧ Ext ι h w ι (h.set b k') u := by
  obtain ⟨g1, g4, g5, g6, g7, g8⟩ := hu
  refine ⟨⟨?_, ?_, ?_, ?_, ?_⟩, ⟨ι.le_refl, fun _ _ e => .inl e, Nat.le_refl _, by omega, ?_, ?_, ?_, ?_, g6, g7, g8⟩⟩
  · intro b' k2 L' hk2 hL'
    rw [AHeap.get_set] at hk2
    by_cases hbb : b' = b
    · subst hbb
      rw [if_pos rfl] at hk2; cases hk2
      rw [hL] at hL'; cases hL'
      rw [g1]; exact hk
    · rw [if_neg hbb] at hk2
      have hb := hh.blocks b' k2 L' hk2 hL'
      by_cases hlv : k2.live = true
      · have hne : L.blk ≠ L'.blk := hh.apart b b' L L' _ k2 (Ne.symm hbb) hL hL' hg hk2 hw hlv
        rw [g4 _ (Ne.symm hne)]; exact hb
      · cases k2 <;> first | trivial | simp [ABlk.live] at hlv
  · intro b' L' hL'; rw [g5]; exact hh.bound b' L' hL'
  · intro b1 b2 L1 L2 k1 k2 hne hb1 hb2 hk1 hk2 hw1 hl
    rw [AHeap.get_set] at hk1 hk2
    have e1 : ∃ k1', h.get b1 = some k1' ∧ k1'.writable = true := by
      split at hk1
      · rename_i e; subst e; exact ⟨_, hg, hw⟩
      · exact ⟨k1, hk1, hw1⟩
    have e2 : ∃ k2', h.get b2 = some k2' ∧ k2'.live = true := by
      split at hk2
      · rename_i e; subst e; exact ⟨_, hg, ABlk.live_of_writable hw⟩
      · exact ⟨k2, hk2, hl⟩
    obtain ⟨k1', a1, a2⟩ := e1
    obtain ⟨k2', a3, a4⟩ := e2
    exact hh.apart b1 b2 L1 L2 k1' k2' hne hb1 hb2 a1 a3 a2 a4
  · intro b' k2 hk2
    rw [AHeap.get_set] at hk2
    rw [AHeap.next_set]
    split at hk2
    · rename_i e; subst e; exact hh.next _ _ hg
    · exact hh.next b' k2 hk2
  · intro b' hb'; exact hh.fresh b' hb'
  · intro c0 hc0 hn
    refine g4 c0 (fun e => hn ?_)
    subst e
    exact ⟨b, L, _, hL, hg, hw, rfl⟩
  · rintro c0 hc0 ⟨b', L', k2, hb', hk2, hp, rfl⟩
    rw [AHeap.get_set] at hk2
    split at hk2
    · rename_i e; subst e; rw [hL] at hb'; cases hb'; exact ⟨_, _, _, hL, hg, ABlk.live_of_writable hw, rfl⟩
    · exact ⟨b', L', k2, hb', hk2, hp, rfl⟩
  · rintro c0 hc0 ⟨b', L', k2, hb', hk2, hp, rfl⟩
    rw [AHeap.get_set] at hk2
    split at hk2
    · rename_i e; subst e; rw [hL] at hb'; cases hb'; exact ⟨_, _, _, hL, hg, hw, rfl⟩
    · exact ⟨b', L', k2, hb', hk2, hp, rfl⟩
  · intro b' hb' hn
    rw [AHeap.get_set, if_neg (fun e => by subst e; rw [hL] at hn; cases hn)]

/-- A row that is let go: nothing is known of it any more. -/
theorem dead_hr {b : Nat} {L : Loc} {k : ABlk} (hh : HR ι h w) (hL : ι b = some L) (hg : h.get b = some k) (hw : k.writable = true) :
    HR ι (h.set b .dead) w ∧ Ext ι h w ι (h.set b .dead) w := by
  have hlt := hh.bound b L hL
  exact set_ext (o := w.heap[L.blk]) hh hL hg hw ⟨Array.getElem?_eq_getElem hlt, fun _ _ => rfl, rfl, rfl, rfl, rfl⟩ trivial

theorem rowSet_setObj (w : World) {g : Nat} (o : Obj) (hg : g < w.heap.size) : RowSet w { w with heap := w.heap.setIfInBounds g o } g o :=
  ⟨by simp [hg], fun j hj => by simp [Array.getElem?_setIfInBounds_ne (Ne.symm hj)], by simp, rfl, rfl, rfl⟩

/-! Zeros. -/
theorem rep_length (n : Nat) (z : List AV) : (rep n z).length = n * z.length := by simp [rep, List.length_flatten]

theorem VRs.rep {z : List AV} {z' : List Value} (hz : VRs ι z z') : ∀ n : Nat, VRs ι (AM.rep n z) (List.replicate n z').flatten
  | 0 => rfl
  | n + 1 => by
    have : AM.rep (n + 1) z = z ++ AM.rep n z := by simp [AM.rep, List.replicate_succ]
    rw [this, List.replicate_succ, List.flatten_cons]
    exact hz.append (VRs.rep hz n)

theorem replicate_flatten_get (z : List Value) : ∀ (n i : Nat), i < n * z.length → (List.replicate n z).flatten[i]? = z[i % z.length]?
  | 0, i, h => by simp at h
  | n + 1, i, h => by
    rw [List.replicate_succ, List.flatten_cons]
    by_cases hi : i < z.length
    · rw [List.getElem?_append_left hi, Nat.mod_eq_of_lt hi]
    · rw [List.getElem?_append_right (by omega), replicate_flatten_get z n (i - z.length) (by rw [Nat.add_mul] at h; omega)]
      rw [← Nat.mod_eq_sub_mod (by omega)]

theorem zeros_eq (z : List Value) (n : Nat) : ((Array.range (n * z.length)).map fun i => z.toArray[i % z.toArray.size]!) = (List.replicate n z).flatten.toArray := by
  apply Array.ext_getElem?
  intro i
  by_cases hi : i < n * z.length
  · rw [Array.getElem?_map, Array.getElem?_range, if_pos hi, Option.map_some, List.getElem?_toArray, replicate_flatten_get z n i hi]
    have hz : 0 < z.length := by
      rcases Nat.eq_zero_or_pos z.length with h0 | h0
      · rw [h0] at hi; omega
      · exact h0
    have hm : i % z.length < z.length := Nat.mod_lt _ hz
    simp [hm]
  · rw [Array.getElem?_eq_none (by simp; omega), Array.getElem?_eq_none (by simp; omega)]

theorem cells_size {z : AV} {zc : List Value} (hz : VRs ι z.cells zc) : zc.length = z.cells.length := hz.length.symm

end Go.AM
