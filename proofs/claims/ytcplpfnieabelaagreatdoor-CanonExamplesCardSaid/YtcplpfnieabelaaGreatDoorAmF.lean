/- A call of which the evaluator says that it returns true, does so in every world in which the package's variables are as they are laid, and leaves the memory that was there. -/
import Derived.Test.YtcplpfnieabelaaGreatDoorAmE
import GoSem.ClaimJoined
import Derived.ChangeBears2
import Derived.DataReads
import Derived.Handed
import GoSem.ClaimGoes
namespace Go.AM
variable {P : Program} {ι : Inj} {w : World}

/-- What the evaluator says of a call, holds of the machine. -/
theorem calls_of_ev (hm : P.follows .mixedOrders = true) {n : Nat} {f : FuncId} {args : List AV} {h0 : AHeap} {v : AV} {s' : ASt} (he : ev P n (.call f args) ⟨.nil, 0, [], .none, h0⟩ = some (.norm, v, s'))
    {args' : List Value} (ha : VRs ι args args') (hh : HR ι h0 w) (hg : GR P ι) :
    Calls P f args'.toArray w fun e u => ∃ κ v', e = .returned v' ∧ VR κ v v' ∧ HR κ s'.h u ∧ Ext ι h0 w κ s'.h u := by
  intro cs
  obtain ⟨_, hc⟩ := (ev_sound hm n).call f args _ _ he
  obtain ⟨κ, u, h1, h2, h3, fr, v', e1, e2, e3, e4, e5, e6, e7⟩ := hc .normal cs args' ι w ha hh hg (panInv_normal cs)
  have hp := h3.normal
  simp only at hp h1 h2
  rw [show (AEx.norm, v, s').2.2.pan = s'.pan from rfl, hp] at e7
  exact ⟨.returned v', u, fr, ⟨κ, v', rfl, e5, h1, h2⟩, e7, e1, e3, e4, e2, e6⟩

end Go.AM

namespace Go.AM
open Go

section lay
variable (P : Program)

/-! The abstract cells of a datum, and the blocks that lie behind it. -/
noncomputable def layL (f : DataW Unit → Nat → Option (List AV × List ABlk)) (size : Nat) : List (DataW Unit) → Nat → Option (List AV × List ABlk)
  | [], _ => some ([], [])
  | d :: l, b => match f d b with
    | some (as, ks) => match Nat.beq as.length size with
      | true => match layL f size l (b + ks.length) with
        | some (as', ks') => some (as ++ as', ks ++ ks')
        | none => none
      | false => none
    | none => none

noncomputable def layF (f : TypeId → DataW Unit → Nat → Option (List AV × List ABlk)) : List Field → Nat → List (DataW Unit) → Nat → Option (List AV × List ABlk)
  | [], _, [], _ => some ([], [])
  | fd :: fs, pos, d :: ds, b => match Nat.beq fd.offset pos with
    | true => match f fd.type d b with
      | some (as, ks) => match Nat.beq as.length (P.cellsOf fd.type) with
        | true => match layF f fs (pos + as.length) ds (b + ks.length) with
          | some (as', ks') => some (as ++ as', ks ++ ks')
          | none => none
        | false => none
      | none => none
    | false => none
  | _, _, _, _ => none

noncomputable def layS (b n es : Nat) : Option (List AV × List ABlk) → Option (List AV × List ABlk)
  | some (a :: as, ks) => some ([.slice b 0 n n es], .cells (a :: as) true true :: ks)
  | _ => none

noncomputable def layC (n : Nat) : Option (List AV × List ABlk) → Option (List AV × List ABlk)
  | some (as, ks) => match Nat.beq as.length n with
    | true => some (as, ks)
    | false => none
  | none => none

noncomputable def lay : Nat → TypeId → DataW Unit → Nat → Option (List AV × List ABlk)
  | 0, _, _, _ => none
  | n + 1, t, d, b => match P.underlying t with
    | some .bool => match d with
      | .lit (.bool c) => some ([.bool c], [])
      | _ => none
    | some (.int _) => match d with
      | .lit (.int k' z) => some ([.int k' z], [])
      | _ => none
    | some .string => match d with
      | .lit (.string l) => some ([.str ⟨⟨l⟩⟩], [])
      | _ => none
    | some (.slice e) => match d with
      | .nil => some ([.nils], [])
      | .slice es [] => layS b es.length (P.cellsOf e) (layL (lay n e) (P.cellsOf e) es (b + 1))
      | _ => none
    | some (.struct fs) => match d with
      | .agg ds => layC (P.cellsOf t) (layF P (lay n) fs.toList 0 ds b)
      | _ => none
    | some (.array m e) => match d with
      | .agg ds => match Nat.beq ds.length m with
        | true => layC (P.cellsOf t) (layL (lay n e) (P.cellsOf e) ds b)
        | false => none
      | _ => none
    | _ => none
end lay

variable {P : Program} {w : World}

/-- These cells hold what was said, wherever the blocks behind lie. -/
def LayOk (w : World) (b : Nat) (cs : List Value) (as : List AV) (ks : List ABlk) : Prop :=
  ∃ locs : List Loc, locs.length = ks.length ∧ ∀ ι : Inj, (∀ (i : Nat) (L : Loc), locs[i]? = some L → ι (b + i) = some L) →
    VRs ι as cs ∧ ∀ (i : Nat) (k : ABlk) (L : Loc), ks[i]? = some k → locs[i]? = some L → BR ι L w.heap[L.blk]? k ∧ L.blk < w.heap.size

theorem layOk_nil (b : Nat) : LayOk w b [] [] [] := ⟨[], rfl, fun _ _ => ⟨rfl, fun i k L h => by simp at h⟩⟩

theorem layOk_one {b : Nat} {a : AV} {v : Value} (h : ∀ ι, VR ι a v) : LayOk w b [v] [a] [] := ⟨[], rfl, fun ι _ => ⟨⟨v, [], h ι, rfl, rfl⟩, fun i k L h => by simp at h⟩⟩

theorem LayOk.append {b : Nat} {cs cs' : List Value} {as as' : List AV} {ks ks' : List ABlk} (h : LayOk w b cs as ks) (h' : LayOk w (b + ks.length) cs' as' ks') : LayOk w b (cs ++ cs') (as ++ as') (ks ++ ks') := by
  obtain ⟨l, h1, h2⟩ := h
  obtain ⟨l', h3, h4⟩ := h'
  refine ⟨l ++ l', by simp [h1, h3], fun ι hι => ?_⟩
  obtain ⟨a1, a2⟩ := h2 ι (fun i L hL => hι i L (by rw [List.getElem?_append_left (List.getElem?_eq_some_iff.1 hL).1]; exact hL))
  obtain ⟨b1, b2⟩ := h4 ι (fun i L hL => by
    have := hι (l.length + i) L (by rw [List.getElem?_append_right (by omega)]; simpa using hL)
    rw [Nat.add_assoc, ← h1]; exact this)
  refine ⟨a1.append b1, fun i k L hk hL => ?_⟩
  by_cases hi : i < ks.length
  · rw [List.getElem?_append_left hi] at hk
    rw [List.getElem?_append_left (by omega)] at hL
    exact a2 i k L hk hL
  · rw [List.getElem?_append_right (by omega)] at hk
    rw [List.getElem?_append_right (by omega), h1] at hL
    exact b2 _ k L hk hL

section
variable {enc : TypeId × Value → Unit}

/-- A reader of data, and what is laid for it. -/
def Reads (enc : TypeId × Value → Unit) (P : Program) (w : World) (t : TypeId) (f : DataW Unit → Nat → Option (List AV × List ABlk)) : Prop :=
  ∀ (m : Nat) (cs : List Value) (d : DataW Unit) (p : List MemPlace) (b : Nat) (as : List AV) (ks : List ABlk), DataW.trod enc P w 0 (fun _ => true) false m t cs = some (d, p) → f d b = some (as, ks) → LayOk w b cs as ks

theorem layL_length {f : DataW Unit → Nat → Option (List AV × List ABlk)} {size : Nat} : ∀ {ds : List (DataW Unit)} {b : Nat} {as : List AV} {ks : List ABlk}, layL f size ds b = some (as, ks) → as.length = ds.length * size
  | [], b, as, ks, h => by
    simp only [layL, Option.some.injEq, Prod.mk.injEq] at h
    rw [← h.1]; simp
  | d :: ds, b, as, ks, h => by
    simp only [layL] at h
    split at h
    · split at h
      · rename_i hb
        split at h
        · rename_i h2
          simp only [Option.some.injEq, Prod.mk.injEq] at h
          rw [← h.1, List.length_append, layL_length h2, Nat.eq_of_beq_eq_true hb, List.length_cons, Nat.add_mul]
          omega
        · cases h
      · cases h
    · cases h

/-- Elements that lie one behind the other. -/
theorem layL_sound {t : TypeId} {f : DataW Unit → Nat → Option (List AV × List ABlk)} (hf : Reads enc P w t f) {size : Nat} :
    ∀ (ds : List (DataW Unit)) (b : Nat) (as : List AV) (ks : List ABlk) (css : List (List Value)), layL f size ds b = some (as, ks) →
      css.length = ds.length → (∀ (i : Nat) cs d, css[i]? = some cs → ds[i]? = some d → ∃ m p, DataW.trod enc P w 0 (fun _ => true) false m t cs = some (d, p)) → LayOk w b css.flatten as ks
  | [], b, as, ks, [], h, _, _ => by
    simp only [layL, Option.some.injEq, Prod.mk.injEq] at h
    obtain ⟨rfl, rfl⟩ := h
    exact layOk_nil b
  | [], _, _, _, _ :: _, _, hl, _ => by simp at hl
  | _ :: _, _, _, _, [], _, hl, _ => by simp at hl
  | d :: ds, b, as, ks, cs :: css, h, hl, ht => by
    simp only [layL] at h
    split at h
    · rename_i as1 ks1 h1
      split at h
      · split at h
        · rename_i as2 ks2 h2
          simp only [Option.some.injEq, Prod.mk.injEq] at h
          obtain ⟨rfl, rfl⟩ := h
          obtain ⟨m, p, hd⟩ := ht 0 cs d rfl rfl
          rw [List.flatten_cons]
          refine LayOk.append (hf m cs d p b as1 ks1 hd h1) ?_
          exact layL_sound hf ds _ as2 ks2 css h2 (by simpa using hl) (fun i cs d h3 h4 => ht (i + 1) cs d (by simpa using h3) (by simpa using h4))
        · cases h
      · cases h
    · cases h

theorem mapM_at {β : Type} {g : Nat → Option β} {n : Nat} {l : List β} (h : (List.range n).mapM g = some l) : l.length = n ∧ ∀ i, i < n → g i = l[i]? := by
  have h1 := mapM_some_length h
  rw [List.length_range] at h1
  refine ⟨h1, fun i hi => mapM_some_get h i i (by simp [hi])⟩

theorem chunks_flatten {α : Type} (size : Nat) : ∀ (n : Nat) (l : List α), l.length = n * size → ((List.range n).map fun i => (l.drop (i * size)).take size).flatten = l
  | 0, l, h => by
    have : l = [] := List.length_eq_zero_iff.1 (by simpa using h)
    subst this; simp
  | n + 1, l, h => by
    rw [List.range_succ_eq_map, List.map_cons, List.flatten_cons, List.map_map]
    have e : (List.map ((fun i => (l.drop (i * size)).take size) ∘ Nat.succ) (List.range n)) = (List.range n).map fun i => ((l.drop size).drop (i * size)).take size := by
      refine List.map_congr_left fun i _ => ?_
      simp only [Function.comp, List.drop_drop, Nat.succ_eq_add_one, Nat.add_mul, Nat.one_mul]
      rw [Nat.add_comm size]
    rw [e, chunks_flatten size n (l.drop size) (by rw [List.length_drop, h, Nat.add_mul]; omega)]
    simp

theorem layF_sound {f : TypeId → DataW Unit → Nat → Option (List AV × List ABlk)} (hf : ∀ t, Reads enc P w t (f t)) {m : Nat} {cs : List Value} :
    ∀ (fs : List Field) (pos : Nat) (ds : List (DataW Unit)) (b : Nat) (as : List AV) (ks : List ABlk) (xs : List (DataW Unit × List MemPlace)), layF P f fs pos ds b = some (as, ks) →
      fs.mapM (fun fd => DataW.trod enc P w 0 (fun _ => true) false m fd.type ((cs.drop fd.offset).take (P.cellsOf fd.type))) = some xs → xs.map (·.1) = ds → pos + as.length ≤ cs.length → LayOk w b ((cs.drop pos).take as.length) as ks
  | [], pos, [], b, as, ks, xs, h, _, _, _ => by
    simp only [layF, Option.some.injEq, Prod.mk.injEq] at h
    obtain ⟨rfl, rfl⟩ := h
    simp only [List.length_nil, List.take_zero]
    exact layOk_nil b
  | [], _, _ :: _, _, _, _, _, h, _, _, _ => by simp [layF] at h
  | _ :: _, _, [], _, _, _, _, h, _, _, _ => by simp [layF] at h
  | fd :: fs, pos, d :: ds, b, as, ks, xs, h, hx, hm, hle => by
    simp only [layF] at h
    split at h
    · rename_i ho
      have ho := Nat.eq_of_beq_eq_true ho
      split at h
      · rename_i as1 ks1 h1
        split at h
        · rename_i hl
          have hl := Nat.eq_of_beq_eq_true hl
          split at h
          · rename_i as2 ks2 h2
            simp only [Option.some.injEq, Prod.mk.injEq] at h
            obtain ⟨rfl, rfl⟩ := h
            rw [List.mapM_cons] at hx
            cases hd : DataW.trod enc P w 0 (fun _ => true) false m fd.type ((cs.drop fd.offset).take (P.cellsOf fd.type)) with
            | none => rw [hd] at hx; simp at hx
            | some y =>
              cases hr : fs.mapM (fun fd => DataW.trod enc P w 0 (fun _ => true) false m fd.type ((cs.drop fd.offset).take (P.cellsOf fd.type))) with
              | none => rw [hd, hr] at hx; simp at hx
              | some ys =>
                rw [hd, hr] at hx
                simp only [Option.pure_def, Option.bind_eq_bind, Option.bind_some, Option.some.injEq] at hx
                subst hx
                simp only [List.map_cons, List.cons.injEq] at hm
                obtain ⟨rfl, hm⟩ := hm
                rw [List.length_append] at hle ⊢
                have e : (cs.drop pos).take (as1.length + as2.length) = (cs.drop pos).take as1.length ++ (cs.drop (pos + as1.length)).take as2.length := by
                  rw [List.take_add, List.drop_drop]
                rw [e]
                refine LayOk.append (hf fd.type m _ y.1 y.2 b as1 ks1 (by rw [hl, ← ho]; exact hd) h1) ?_
                exact layF_sound hf fs (pos + as1.length) ds _ as2 ks2 ys h2 hr hm (by omega)
          · cases h
        · cases h
      · cases h
    · cases h

end
end Go.AM

namespace Go.AM
open Go
variable {P : Program} {w : World} {enc : TypeId × Value → Unit}

theorem layC_spec {n : Nat} {r : Option (List AV × List ABlk)} {as : List AV} {ks : List ABlk} (h : layC n r = some (as, ks)) : r = some (as, ks) ∧ as.length = n := by
  unfold layC at h
  split at h
  · split at h
    · rename_i hb
      simp only [Option.some.injEq, Prod.mk.injEq] at h
      obtain ⟨rfl, rfl⟩ := h
      exact ⟨rfl, Nat.eq_of_beq_eq_true hb⟩
    · cases h
  · cases h

theorem layS_spec {b n es : Nat} {r : Option (List AV × List ABlk)} {as : List AV} {ks : List ABlk} (h : layS b n es r = some (as, ks)) :
    ∃ as' ks', r = some (as', ks') ∧ as' ≠ [] ∧ as = [.slice b 0 n n es] ∧ ks = .cells as' true true :: ks' := by
  unfold layS at h
  split at h
  · simp only [Option.some.injEq, Prod.mk.injEq] at h
    exact ⟨_, _, rfl, by simp, h.1.symm, h.2.symm⟩
  · cases h

theorem trod_bool {t : TypeId} {m : Nat} {cs : List Value} {c : Bool} {p : List MemPlace} (hu : P.underlying t = some .bool) (h : DataW.trod enc P w 0 (fun _ => true) false m t cs = some (.lit (.bool c), p)) : cs = [.bool c] := by
  cases m with
  | zero => simp [DataW.trod] at h
  | succ m =>
    match cs with
    | [] => simp [DataW.trod, hu] at h
    | _ :: _ :: _ => simp [DataW.trod, hu] at h
    | [v] =>
      cases v <;> simp [DataW.trod, hu] at h
      rw [h.1]

theorem trod_int {t : TypeId} {m : Nat} {cs : List Value} {k k' : IntKind} {z : Int} {p : List MemPlace} (hu : P.underlying t = some (.int k)) (h : DataW.trod enc P w 0 (fun _ => true) false m t cs = some (.lit (.int k' z), p)) : cs = [.int k' z] := by
  cases m with
  | zero => simp [DataW.trod] at h
  | succ m =>
    match cs with
    | [] => simp [DataW.trod, hu] at h
    | _ :: _ :: _ => simp [DataW.trod, hu] at h
    | [v] =>
      cases v <;> simp [DataW.trod, hu] at h
      obtain ⟨⟨h1, _⟩, ⟨h2, h3⟩, _⟩ := h
      rw [h1, h2, h3]

theorem trod_str {t : TypeId} {m : Nat} {cs : List Value} {l : List UInt8} {p : List MemPlace} (hu : P.underlying t = some .string) (h : DataW.trod enc P w 0 (fun _ => true) false m t cs = some (.lit (.string l), p)) : cs = [.string ⟨⟨l⟩⟩] := by
  cases m with
  | zero => simp [DataW.trod] at h
  | succ m =>
    match cs with
    | [] => simp [DataW.trod, hu] at h
    | _ :: _ :: _ => simp [DataW.trod, hu] at h
    | [v] =>
      cases v <;> simp [DataW.trod, hu] at h
      rw [← h.2.1]

theorem trod_nils {t e : TypeId} {m : Nat} {cs : List Value} {p : List MemPlace} (hu : P.underlying t = some (.slice e)) (h : DataW.trod enc P w 0 (fun _ => true) false m t cs = some (.nil, p)) : cs = [.slice none 0 0] := by
  cases m with
  | zero => simp [DataW.trod] at h
  | succ m =>
    match cs with
    | [] => simp [DataW.trod, hu] at h
    | _ :: _ :: _ => simp [DataW.trod, hu] at h
    | [v] =>
      cases v with
      | slice a len cap =>
        cases a with
        | none =>
          cases len <;> cases cap <;> simp [DataW.trod, hu] at h
          rfl
        | some a =>
          simp only [DataW.trod, hu] at h
          split at h
          · simp only [Option.bind_eq_some_iff, Option.map_eq_some_iff, Prod.mk.injEq] at h
            obtain ⟨_, _, _, _, h, _⟩ := h
            cases h
          · cases h
      | _ => simp [DataW.trod, hu] at h

/-- A slice whose capacity is its length. -/
theorem trod_slice {t e : TypeId} {m : Nat} {cs : List Value} {es : List (DataW Unit)} {p : List MemPlace} (hu : P.underlying t = some (.slice e)) (h : DataW.trod enc P w 0 (fun _ => true) false (m + 1) t cs = some (.slice es [], p)) :
    ∃ a, cs = [.slice (some a) es.length es.length] ∧
      ∀ i d, es[i]? = some d → ∃ ci q, w.cells? 0 (a.add (i * P.cellsOf e)) (P.cellsOf e) = some ci ∧ DataW.trod enc P w 0 (fun _ => true) false m e ci = some (d, q) := by
  match cs with
  | [] => simp [DataW.trod, hu] at h
  | _ :: _ :: _ => simp [DataW.trod, hu] at h
  | [v] =>
    cases v with
    | slice a len cap =>
      cases a with
      | none => cases len <;> cases cap <;> simp [DataW.trod, hu] at h
      | some a =>
        simp only [DataW.trod, hu] at h
        split at h
        · rename_i hc
          simp only [Option.bind_eq_some_iff, Option.map_eq_some_iff, Prod.mk.injEq, if_true, DataW.slice.injEq, List.map_eq_nil_iff] at h
          obtain ⟨elems, h1, rest, h2, ⟨h3, h4⟩, _⟩ := h
          subst h4
          have l2 := (mapM_at h2).1
          obtain ⟨l1, g1⟩ := mapM_at h1
          have hcap : cap = len := by
            have := hc.2.1
            simp at l2
            omega
          have hes : es.length = len := by rw [← h3, List.length_map, l1]
          refine ⟨a, by rw [hcap, hes], fun i d hd => ?_⟩
          have hi : i < len := by
            have := (List.getElem?_eq_some_iff.1 hd).1; omega
          have g := g1 i hi
          rw [← h3, List.getElem?_map] at hd
          cases hx : elems[i]? with
          | none => rw [hx] at hd; cases hd
          | some y =>
            rw [hx] at hd g
            simp only [Option.map_some, Option.some.injEq] at hd
            subst hd
            obtain ⟨ci, g2, g3⟩ := Option.bind_eq_some_iff.1 g
            exact ⟨ci, y.2, g2, g3⟩
        · cases h
    | _ => simp [DataW.trod, hu] at h

theorem trod_struct {t : TypeId} {fs : Array Field} {m : Nat} {cs : List Value} {ds : List (DataW Unit)} {p : List MemPlace} (hu : P.underlying t = some (.struct fs)) (h : DataW.trod enc P w 0 (fun _ => true) false (m + 1) t cs = some (.agg ds, p)) :
    cs.length = P.cellsOf t ∧ ∃ xs, fs.toList.mapM (fun fd => DataW.trod enc P w 0 (fun _ => true) false m fd.type ((cs.drop fd.offset).take (P.cellsOf fd.type))) = some xs ∧ xs.map (·.1) = ds := by
  have h' : (if cs.length = P.cellsOf t then (fs.toList.mapM fun f => DataW.trod enc P w 0 (fun _ => true) false m f.type ((cs.drop f.offset).take (P.cellsOf f.type))).map fun xs => ((.agg (xs.map (·.1)) : DataW Unit), xs.flatMap (·.2)) else none) = some (.agg ds, p) := by
    rw [← h]
    match cs with
    | [] => simp [DataW.trod, hu]
    | _ :: _ :: _ => simp [DataW.trod, hu]
    | [v] => cases v <;> simp [DataW.trod, hu]
  split at h'
  · rename_i hl
    simp only [Option.map_eq_some_iff, Prod.mk.injEq, DataW.agg.injEq] at h'
    obtain ⟨xs, h1, h2, _⟩ := h'
    exact ⟨hl, xs, h1, h2⟩
  · cases h'

theorem trod_array {t e : TypeId} {n m : Nat} {cs : List Value} {ds : List (DataW Unit)} {p : List MemPlace} (hu : P.underlying t = some (.array n e)) (h : DataW.trod enc P w 0 (fun _ => true) false (m + 1) t cs = some (.agg ds, p)) :
    cs.length = P.cellsOf t ∧ ∃ xs, (List.range n).mapM (fun i => DataW.trod enc P w 0 (fun _ => true) false m e ((cs.drop (i * P.cellsOf e)).take (P.cellsOf e))) = some xs ∧ xs.map (·.1) = ds := by
  have h' : (if cs.length = P.cellsOf t then ((List.range n).mapM fun i => DataW.trod enc P w 0 (fun _ => true) false m e ((cs.drop (i * P.cellsOf e)).take (P.cellsOf e))).map fun xs => ((.agg (xs.map (·.1)) : DataW Unit), xs.flatMap (·.2)) else none) = some (.agg ds, p) := by
    rw [← h]
    match cs with
    | [] => simp [DataW.trod, hu]
    | _ :: _ :: _ => simp [DataW.trod, hu]
    | [v] => cases v <;> simp [DataW.trod, hu]
  split at h'
  · rename_i hl
    simp only [Option.map_eq_some_iff, Prod.mk.injEq, DataW.agg.injEq] at h'
    obtain ⟨xs, h1, h2, _⟩ := h'
    exact ⟨hl, xs, h1, h2⟩
  · cases h'

theorem cell_row {a : Addr} {v : Value} (h : w.cell? a = some v) : a.spot = none ∧ ∃ c t fz, w.heap[a.block]? = some (.cells c t fz) ∧ c[a.off]? = some v := by
  unfold World.cell? at h
  split at h
  · rename_i c t fz hb
    split at h
    · cases h
    · rename_i hs
      exact ⟨by simpa using hs, c, t, fz, hb, h⟩
  · cases h

theorem add_spot {a : Addr} (hs : a.spot = none) (n : Nat) : a.add n = ⟨a.block, a.off + n, none⟩ := by
  obtain ⟨b, o, s⟩ := a
  simp only at hs
  subst hs
  unfold Addr.add
  split
  · rename_i e; subst e; rfl
  · rfl

theorem cells_at {a : Addr} {n : Nat} {ci : List Value} (h : w.cells? 0 a n = some ci) : ci.length = n ∧ ∀ j, j < n → w.cell? (a.add j) = ci[j]? := by
  unfold World.cells? at h
  rw [if_pos (Nat.zero_le _)] at h
  exact mapM_at h

theorem flat_cells {blk off size : Nat} : ∀ (css : List (List Value)) (start : Nat), (∀ (i : Nat) cs, css[i]? = some cs → cs.length = size ∧ ∀ j, j < size → cs[j]? = w.cell? ⟨blk, off + (start + i) * size + j, none⟩) →
    ∀ (x : Nat) (y : Value), css.flatten[x]? = some y → w.cell? ⟨blk, off + start * size + x, none⟩ = some y
  | [], _, _, x, y, h => by simp at h
  | cs :: css, start, hc, x, y, h => by
    obtain ⟨h1, h2⟩ := hc 0 cs rfl
    rw [List.flatten_cons] at h
    by_cases hx : x < size
    · rw [List.getElem?_append_left (by omega), h2 x hx] at h
      exact h
    · rw [List.getElem?_append_right (by omega), h1] at h
      have := flat_cells css (start + 1) (fun i cs hi => by
        have := hc (i + 1) cs (by simpa using hi)
        rw [show start + (i + 1) = start + 1 + i from by omega] at this
        exact this) (x - size) y h
      rw [show off + (start + 1) * size + (x - size) = off + start * size + x from by rw [Nat.add_mul]; omega] at this
      exact this

/-- What is laid for a datum stands for what is read as it. -/
theorem lay_sound : ∀ (n : Nat) (t : TypeId), Reads enc P w t (lay P n t)
  | 0, t => by intro m cs d p b as ks _ h; simp [lay] at h
  | n + 1, t => by
    intro m cs d p b as ks ht h
    cases m with
    | zero => simp [DataW.trod] at ht
    | succ m =>
      simp only [lay] at h
      split at h
      · rename_i hu
        split at h
        · simp only [Option.some.injEq, Prod.mk.injEq] at h
          obtain ⟨rfl, rfl⟩ := h
          rw [trod_bool hu ht]
          exact layOk_one fun _ => rfl
        · cases h
      · rename_i hu
        split at h
        · simp only [Option.some.injEq, Prod.mk.injEq] at h
          obtain ⟨rfl, rfl⟩ := h
          rw [trod_int hu ht]
          exact layOk_one fun _ => rfl
        · cases h
      · rename_i hu
        split at h
        · simp only [Option.some.injEq, Prod.mk.injEq] at h
          obtain ⟨rfl, rfl⟩ := h
          rw [trod_str hu ht]
          exact layOk_one fun _ => rfl
        · cases h
      · rename_i e hu
        split at h
        · simp only [Option.some.injEq, Prod.mk.injEq] at h
          obtain ⟨rfl, rfl⟩ := h
          rw [trod_nils hu ht]
          exact layOk_one fun _ => rfl
        · rename_i es
          obtain ⟨as', ks', h1, hne, rfl, rfl⟩ := layS_spec h
          obtain ⟨a, rfl, hel⟩ := trod_slice hu ht
          have hlen := layL_length h1
          have hpos : 0 < es.length ∧ 0 < P.cellsOf e := by
            have : 0 < as'.length := List.length_pos_iff.2 hne
            rw [hlen] at this
            exact ⟨Nat.pos_of_mul_pos_right this |> fun h => (by
              rcases Nat.eq_zero_or_pos es.length with h0 | h0
              · rw [h0] at this; simp at this
              · exact h0), (by
              rcases Nat.eq_zero_or_pos (P.cellsOf e) with h0 | h0
              · rw [h0] at this; simp at this
              · exact h0)⟩
          -- the row
          obtain ⟨c0, q0, g1, g2⟩ := hel 0 es[0] (by simp [hpos.1])
          obtain ⟨g3, g4⟩ := cells_at g1
          have g5 := g4 0 hpos.2
          have hc0 : ∃ v, c0[0]? = some v := ⟨c0[0]'(by omega), by simp⟩
          obtain ⟨v0, hv0⟩ := hc0
          rw [hv0] at g5
          have e0 : ∀ x : Addr, x.add 0 = x := fun x => by unfold Addr.add; simp
          rw [Nat.zero_mul, e0, e0] at g5
          obtain ⟨hs, c, tt, fz, hrow, _⟩ := cell_row g5
          let css : List (List Value) := (List.range es.length).map fun i => (w.cells? 0 (a.add (i * P.cellsOf e)) (P.cellsOf e)).getD []
          have hcss : ∀ i, i < es.length → ∃ ci q, css[i]? = some ci ∧ w.cells? 0 (a.add (i * P.cellsOf e)) (P.cellsOf e) = some ci ∧ ∀ d, es[i]? = some d → DataW.trod enc P w 0 (fun _ => true) false m e ci = some (d, q) := by
            intro i hi
            obtain ⟨ci, q, k1, k2⟩ := hel i es[i] (by simp [hi])
            refine ⟨ci, q, by simp [css, hi, k1], k1, fun d hd => ?_⟩
            simp only [hi, List.getElem?_eq_getElem, Option.some.injEq] at hd
            rw [← hd]; exact k2
          have hlcss : css.length = es.length := by simp [css]
          have hL := layL_sound (lay_sound n e) es (b + 1) as' ks' css h1 hlcss (fun i cs d hi hd => by
            obtain ⟨ci, q, k1, _, k3⟩ := hcss i (List.getElem?_eq_some_iff.1 hd).1
            rw [hi] at k1; cases k1
            exact ⟨m, q, k3 d hd⟩)
          have hflat := flat_cells (w := w) (blk := a.block) (off := a.off) (size := P.cellsOf e) css 0 (fun i cs hi => by
            have hi' : i < es.length := by rw [← hlcss]; exact (List.getElem?_eq_some_iff.1 hi).1
            obtain ⟨ci, q, k1, k2, _⟩ := hcss i hi'
            rw [hi] at k1; cases k1
            obtain ⟨k4, k5⟩ := cells_at k2
            refine ⟨k4, fun j hj => ?_⟩
            rw [← k5 j hj, add_spot hs, add_spot rfl, Nat.zero_add])
          obtain ⟨locs, l1, l2⟩ := hL
          refine ⟨⟨a.block, a.off, es.length * P.cellsOf e, 0⟩ :: locs, by simp [l1], fun ι hι => ?_⟩
          have hb0 : ι b = some ⟨a.block, a.off, es.length * P.cellsOf e, 0⟩ := hι 0 _ rfl
          obtain ⟨m1, m2⟩ := l2 ι (fun i L hL => by
            have := hι (i + 1) L (by simpa using hL)
            rw [show b + (i + 1) = b + 1 + i from by omega] at this
            exact this)
          refine ⟨⟨_, [], ⟨_, 0, a.off, hb0, Nat.le_refl _, .inl rfl, .inr rfl, ?_⟩, rfl, rfl⟩, fun i k L hk hL => ?_⟩
          · obtain ⟨ab, ao, as2⟩ := a
            simp only at hs
            subst hs
            rfl
          · cases i with
            | zero =>
              simp only [List.getElem?_cons_zero, Option.some.injEq] at hk hL
              subst hk; subst hL
              refine ⟨⟨c, tt, fz, hrow, hlen.symm, fun _ => rfl, fun i v hv => ?_, fun h => by cases h⟩, (Array.getElem?_eq_some_iff.1 hrow).1⟩
              obtain ⟨y, n1, n2⟩ := m1.get i v hv
              have n3 := hflat i y n1
              obtain ⟨_, c', t', fz', n4, n5⟩ := cell_row n3
              simp only at n4 n5
              rw [hrow] at n4
              cases n4
              rw [Nat.zero_mul, Nat.add_zero] at n5
              exact ⟨y, n5, n2⟩
            | succ i => exact m2 i k L (by simpa using hk) (by simpa using hL)
        · cases h
      · rename_i fs hu
        split at h
        · obtain ⟨h1, h2⟩ := layC_spec h
          obtain ⟨h3, xs, h4, h5⟩ := trod_struct hu ht
          have := layF_sound (cs := cs) (m := m) (fun t => lay_sound n t) fs.toList 0 _ b as ks xs h1 h4 h5 (by omega)
          rw [List.drop_zero, List.take_of_length_le (by omega)] at this
          exact this
        · cases h
      · rename_i k e hu
        split at h
        · rename_i ds
          split at h
          · rename_i hb
            have hb := Nat.eq_of_beq_eq_true hb
            obtain ⟨h1, h2⟩ := layC_spec h
            obtain ⟨h3, xs, h4, h5⟩ := trod_array hu ht
            obtain ⟨h6, h7⟩ := mapM_at h4
            have hlen := layL_length h1
            have := layL_sound (lay_sound n e) ds b as ks ((List.range k).map fun i => (cs.drop (i * P.cellsOf e)).take (P.cellsOf e)) h1 (by simp [hb]) (fun i ci d hi hd => by
              have hik : i < k := by
                have := (List.getElem?_eq_some_iff.1 hi).1
                simpa using this
              simp only [List.getElem?_map, List.getElem?_range hik, Option.map_some, Option.some.injEq] at hi
              subst hi
              have h8 := h7 i hik
              rw [← h5, List.getElem?_map] at hd
              cases hx : xs[i]? with
              | none => rw [hx] at hd; cases hd
              | some y =>
                rw [hx] at hd h8
                simp only [Option.map_some, Option.some.injEq] at hd
                subst hd
                exact ⟨m, y.2, h8⟩)
            rw [chunks_flatten (P.cellsOf e) k cs (by rw [h3, ← h2, hlen, hb])] at this
            exact this
          · cases h
        · cases h
      · cases h

end Go.AM

namespace Go.AM
open Go

section start
variable (P : Program)

/-! The memory in which a call begins: the package's variables, as they are laid. -/
noncomputable def layG (N : Nat) : List (String × DataW Unit) → Nat → Option (List (Nat × List AV) × List ABlk)
  | [], _ => some ([], [])
  | (n, d) :: r, b => match P.globalNamed n with
    | some g => match (P.globals[g]?).map (·.type) with
      | some t => match lay P N t d b with
        | some (as, ks) => match layG N r (b + ks.length) with
          | some (gs, ks') => some ((g, as) :: gs, ks ++ ks')
          | none => none
        | none => none
      | none => none
    | none => none

/-- The block of a variable that is not listed: some number, or nothing is known of it. -/
noncomputable def unlisted (un : List (Nat × IntKind)) (g : Nat) : ABlk := match un.find? (fun x => Nat.beq x.1 g) with
  | some x => .cells [.any x.2] true true
  | none => .dead

/-- The blocks of the variables. -/
noncomputable def rowsFrom (un : List (Nat × IntKind)) (gs : List (Nat × List AV)) : Nat → Nat → List ABlk
  | 0, _ => []
  | n + 1, g => (match gs.find? (fun x => Nat.beq x.1 g) with
    | some x => .cells x.2 true true
    | none => unlisted un g) :: rowsFrom un gs n (g + 1)

noncomputable def startOf (un : List (Nat × IntKind)) (N : Nat) (laid : List (String × DataW Unit)) : Option (List ABlk) := match layG P N laid P.globals.size with
  | some (gs, ks) => match gs.find? (fun x => Nat.beq (x.1 + 1) P.globals.size) with
    | some _ => some (rowsFrom un gs P.globals.size 0 ++ ks)
    | none => none
  | none => none
end start

variable {P : Program} {w : World}

theorem layG_sound {N : Nat} : ∀ (laid : List (String × DataW Unit)) (b : Nat) (ps : List MemPlace) (gs : List (Nat × List AV)) (ks : List ABlk), layG P N laid b = some (gs, ks) → DataW.LaidVars P w laid ps →
    ∃ locs : List Loc, locs.length = ks.length ∧ ∀ ι : Inj, (∀ (i : Nat) (L : Loc), locs[i]? = some L → ι (b + i) = some L) →
      (∀ x ∈ gs, ∃ cs tt fz, w.heap[x.1]? = some (.cells cs tt fz) ∧ VRs ι x.2 cs.toList) ∧ ∀ (i : Nat) (k : ABlk) (L : Loc), ks[i]? = some k → locs[i]? = some L → BR ι L w.heap[L.blk]? k ∧ L.blk < w.heap.size
  | [], b, ps, gs, ks, h, _ => by
    simp only [layG, Option.some.injEq, Prod.mk.injEq] at h
    obtain ⟨rfl, rfl⟩ := h
    exact ⟨[], rfl, fun _ _ => ⟨fun x hx => (by cases hx), fun i k L hk => (by simp at hk)⟩⟩
  | (n, d) :: r, b, ps, gs, ks, h, hl => by
    obtain ⟨g, t, cs, fuel, p, q, h1, h2, h3, h4, h5, _⟩ := hl
    simp only [layG, h1, h2] at h
    split at h
    · rename_i as ks1 hlay
      split at h
      · rename_i gs2 ks2 hrest
        simp only [Option.some.injEq, Prod.mk.injEq] at h
        obtain ⟨rfl, rfl⟩ := h
        obtain ⟨l1, a1, a2⟩ := lay_sound N t fuel cs.toList d p b as ks1 h4 hlay
        obtain ⟨l2, b1, b2⟩ := layG_sound r (b + ks1.length) q gs2 ks2 hrest h5
        refine ⟨l1 ++ l2, by simp [a1, b1], fun ι hι => ?_⟩
        obtain ⟨c1, c2⟩ := a2 ι (fun i L hL => hι i L (by rw [List.getElem?_append_left (List.getElem?_eq_some_iff.1 hL).1]; exact hL))
        obtain ⟨d1, d2⟩ := b2 ι (fun i L hL => by
          have := hι (l1.length + i) L (by rw [List.getElem?_append_right (by omega)]; simpa using hL)
          rw [Nat.add_assoc, ← a1]; exact this)
        refine ⟨fun x hx => ?_, fun i k L hk hL => ?_⟩
        · rcases List.mem_cons.1 hx with rfl | hx
          · have h3' := h3
            simp only [World.var?, h1, Option.bind_some] at h3'
            split at h3'
            · rename_i c tt fz hb
              cases h3'
              exact ⟨cs, tt, fz, hb, c1⟩
            · cases h3'
          · exact d1 x hx
        · by_cases hi : i < ks1.length
          · rw [List.getElem?_append_left hi] at hk
            rw [List.getElem?_append_left (by omega)] at hL
            exact c2 i k L hk hL
          · rw [List.getElem?_append_right (by omega)] at hk
            rw [List.getElem?_append_right (by omega), a1] at hL
            exact d2 _ k L hk hL
      · cases h
    · cases h

theorem unlisted_spec {un : List (Nat × IntKind)} {g : Nat} : unlisted un g = .dead ∨ ∃ x ∈ un, x.1 = g ∧ unlisted un g = .cells [.any x.2] true true := by
  unfold unlisted
  cases h : un.find? (fun x => Nat.beq x.1 g) with
  | none => exact .inl rfl
  | some x =>
    have h3 := List.find?_some h
    exact .inr ⟨x, List.mem_of_find?_eq_some h, Nat.eq_of_beq_eq_true h3, rfl⟩

theorem rowsFrom_spec {un : List (Nat × IntKind)} {gs : List (Nat × List AV)} : ∀ (n g : Nat), (rowsFrom un gs n g).length = n ∧ ∀ (i : Nat) k, (rowsFrom un gs n g)[i]? = some k → k = .dead ∨ (∃ x ∈ un, x.1 = g + i ∧ k = .cells [.any x.2] true true) ∨ ∃ x ∈ gs, x.1 = g + i ∧ k = .cells x.2 true true
  | 0, g => ⟨rfl, fun i k hk => by simp [rowsFrom] at hk⟩
  | n + 1, g => by
    obtain ⟨h1, h2⟩ := rowsFrom_spec (un := un) (gs := gs) n (g + 1)
    refine ⟨by simp [rowsFrom, h1], fun i k hk => ?_⟩
    cases i with
    | zero =>
      simp only [rowsFrom, List.getElem?_cons_zero, Option.some.injEq] at hk
      split at hk
      · rename_i x hx
        have h3 := List.find?_some hx
        exact .inr (.inr ⟨x, List.mem_of_find?_eq_some hx, by rw [Nat.add_zero]; exact Nat.eq_of_beq_eq_true h3, hk.symm⟩)
      · rcases unlisted_spec (un := un) (g := g) with e | ⟨x, x1, x2, e⟩
        · exact .inl (hk.symm.trans e)
        · exact .inr (.inl ⟨x, x1, by rw [Nat.add_zero]; exact x2, hk.symm.trans e⟩)
    | succ i =>
      rcases h2 i k (by simpa [rowsFrom] using hk) with h | ⟨y, y1, y2, y3⟩ | ⟨y, y1, y2, y3⟩
      · exact .inl h
      · exact .inr (.inl ⟨y, y1, by omega, y3⟩)
      · exact .inr (.inr ⟨y, y1, by omega, y3⟩)

/-- The memory that is laid stands for the world's. -/
theorem start_sound {un : List (Nat × IntKind)} {N : Nat} {laid : List (String × DataW Unit)} {ps : List MemPlace} {bs : List ABlk} (hs : startOf P un N laid = some bs) (hl : DataW.LaidVars P w laid ps)
    (hun : ∀ x ∈ un, ∃ z, w.cell? ⟨x.1, 0, none⟩ = some (.int x.2 z)) (hw : (bs.all fun k : ABlk => !k.writable) = true) :
    ∃ ι : Inj, HR ι ⟨Tr.ofList bs, bs.length⟩ w ∧ GR P ι ∧ ∀ c, ¬ Img ABlk.writable ι ⟨Tr.ofList bs, bs.length⟩ c := by
  unfold startOf at hs
  split at hs
  case h_2 => cases hs
  rename_i gs ks hg
  split at hs
  case h_2 => cases hs
  rename_i y hy
  cases hs
  obtain ⟨locs, h1, h2⟩ := layG_sound laid P.globals.size ps gs ks hg hl
  obtain ⟨h3, h4⟩ := rowsFrom_spec (un := un) (gs := gs) P.globals.size 0
  generalize rowsFrom un gs P.globals.size 0 = l at h3 h4 hw
  let sz : Nat → Nat := fun b => match (l ++ ks)[b]? with
    | some (.cells cs _ _) => cs.length
    | _ => 0
  let ι : Inj := fun b => if b < P.globals.size then some ⟨b, 0, sz b, 0⟩ else locs[b - P.globals.size]?
  have hι : ∀ (i : Nat) (L : Loc), locs[i]? = some L → ι (P.globals.size + i) = some L := fun i L hL => by
    simp only [ι]
    rw [if_neg (by omega)]
    simpa using hL
  obtain ⟨h5, h6⟩ := h2 ι hι
  have hsize : P.globals.size ≤ w.heap.size := by
    obtain ⟨cs, tt, fz, e1, _⟩ := h5 y (List.mem_of_find?_eq_some hy)
    have h7 := (Array.getElem?_eq_some_iff.1 e1).1
    have h9 := List.find?_some hy
    have h8 := Nat.eq_of_beq_eq_true h9
    omega
  have hget : ∀ b, (⟨Tr.ofList (l ++ ks), (l ++ ks).length⟩ : AHeap).get b = (l ++ ks)[b]? := fun b => Tr.get_ofList _ _
  have hnow : ∀ (b : Nat) (k : ABlk), (l ++ ks)[b]? = some k → k.writable = false := fun b k hk => by
    have := List.all_eq_true.1 hw k (List.mem_of_getElem? hk)
    simpa using this
  refine ⟨ι, ⟨?_, ?_, ?_, ?_, ?_⟩, ?_, ?_⟩
  · intro b k L hk hL
    rw [hget] at hk
    by_cases hb : b < P.globals.size
    · have hk' := hk
      rw [List.getElem?_append_left (by omega)] at hk'
      rcases h4 b k hk' with rfl | ⟨x, x1, x2, rfl⟩ | ⟨x, x1, x2, rfl⟩
      · trivial
      · have hL' : some (⟨b, 0, sz b, 0⟩ : Loc) = some L := by simpa [ι, hb] using hL
        cases hL'
        obtain ⟨z, hz⟩ := hun x x1
        obtain ⟨_, c, tt, fz, e1, e2⟩ := cell_row hz
        simp only [x2, Nat.zero_add] at e1 e2
        refine ⟨c, tt, fz, e1, by simp only [sz, hk], fun _ => rfl, fun i v hv => ?_, fun h => by cases h⟩
        cases i with
        | zero =>
          simp only [List.getElem?_cons_zero, Option.some.injEq] at hv
          subst hv
          exact ⟨_, e2, z, rfl⟩
        | succ i => simp at hv
      · have hL' : some (⟨b, 0, sz b, 0⟩ : Loc) = some L := by simpa [ι, hb] using hL
        cases hL'
        obtain ⟨cs, tt, fz, e1, e2⟩ := h5 x x1
        rw [x2, Nat.zero_add] at e1
        refine ⟨cs, tt, fz, e1, by simp only [sz, hk], fun _ => rfl, fun i v hv => ?_, fun h => by cases h⟩
        obtain ⟨y, y1, y2⟩ := e2.get i v hv
        exact ⟨y, by rw [Nat.zero_add]; simpa using y1, y2⟩
    · have hL' : locs[b - P.globals.size]? = some L := by simpa [ι, hb] using hL
      rw [List.getElem?_append_right (by omega), h3] at hk
      exact (h6 _ k L hk hL').1
  · intro b L hL
    by_cases hb : b < P.globals.size
    · have hL' : some (⟨b, 0, sz b, 0⟩ : Loc) = some L := by simpa [ι, hb] using hL
      cases hL'
      exact Nat.lt_of_lt_of_le hb hsize
    · have hL' : locs[b - P.globals.size]? = some L := by simpa [ι, hb] using hL
      have hlt := (List.getElem?_eq_some_iff.1 hL').1
      exact (h6 _ (ks[b - P.globals.size]'(by omega)) L (by simp [h1 ▸ hlt]) hL').2
  · intro b b' L L' k k' _ _ _ hk _ hwr
    rw [hget] at hk
    rw [hnow b k hk] at hwr; cases hwr
  · intro b k hk
    rw [hget] at hk
    exact (List.getElem?_eq_some_iff.1 hk).1
  · intro b hb
    simp only [List.length_append] at hb
    simp only [ι]
    rw [if_neg (by omega)]
    simp
    omega
  · intro g hg'
    exact ⟨⟨g, 0, sz g, 0⟩, by simp [ι, hg'], rfl, rfl⟩
  · rintro c ⟨b, L, k, _, hk, hwr, _⟩
    rw [hget] at hk
    rw [hnow b k hk] at hwr; cases hwr

noncomputable def saysTrue (r : Option Ans) : Bool := match r with
  | some (.norm, .bool true, _) => true
  | _ => false

theorem saysTrue_spec {r : Option Ans} (h : saysTrue r = true) : ∃ s, r = some (.norm, .bool true, s) := by
  unfold saysTrue at h
  split at h
  · exact ⟨_, rfl⟩
  · cases h

/-- A closed law: evaluated once, it is true in every world in which the variables are as they are laid; memory that was there is as it was. -/
theorem closed_calls (hm : P.follows .mixedOrders = true) {un : List (Nat × IntKind)} {N n : Nat} {f : FuncId} {laid : List (String × DataW Unit)} {bs : List ABlk} (hs : startOf P un N laid = some bs) (hun : ∀ x ∈ un, ∃ z, w.cell? ⟨x.1, 0, none⟩ = some (.int x.2 z)) (hw : (bs.all fun k : ABlk => !k.writable) = true)
    (he : saysTrue (ev P n (.call f []) ⟨.nil, 0, [], .none, ⟨Tr.ofList bs, bs.length⟩⟩) = true) (hl : laidMet P laid w) :
    Calls P f #[] w fun e u => e = .returned (.bool true) ∧ ∀ may, w.keptBut u may := by
  obtain ⟨ps, hl, _⟩ := hl
  obtain ⟨ι, h1, h2, h3⟩ := start_sound hs hl hun hw
  obtain ⟨s, hs⟩ := saysTrue_spec he
  refine (calls_of_ev hm hs (args' := []) rfl h1 h2).mono fun e u ⟨κ, v', e1, e2, _, e4⟩ => ?_
  have e2' : v' = .bool true := e2
  subst e2'
  refine ⟨e1, fun may => ⟨e4.env.1, e4.env.2.1, fun i hi => ?_⟩⟩
  have hk := e4.kept i hi (h3 i)
  rw [hk]
  cases hx : w.heap[i]? with
  | none => trivial
  | some o => cases o <;> simp

end Go.AM

namespace Go.AM
open Go
variable {P : Program}

/-- No function starts a goroutine: so none is started, whatever the call reaches. -/
theorem goes_none (h : P.funcs.any Func.goes = false) (f : FuncId) : P.goes f = false := by
  have h1 : ∀ g : FuncId, (P.funcs[g]?).any Func.goes = false := fun g => by
    cases hg : P.funcs[g]? with
    | none => rfl
    | some fn =>
      have := Array.any_eq_false.1 h g (Array.getElem?_eq_some_iff.1 hg).1
      rw [(Array.getElem?_eq_some_iff.1 hg).2] at this
      simpa using this
  unfold Program.goes
  rw [h, Bool.and_false, Bool.or_false]
  rw [List.any_eq_false]
  intro g _
  rw [h1 g]
  exact Bool.false_ne_true

theorem goesBy_none (h : P.funcs.any Func.goes = false) {c : OpenClaim} (hs : c.start = .entering) : false = c.goesBy P := by
  unfold OpenClaim.goesBy Program.goesAt Program.goesFrom
  rw [hs]
  cases P.funcNamed c.func with
  | none => rfl
  | some f => simp [goes_none h f]

end Go.AM

namespace Go.AM
open Go
variable {P : Program} {ι κ : Inj} {w : World}

/-! Calls that were evaluated apart, from the memory in which the law begins. -/
mutual
/-- It refers to no block with a number from m on. -/
noncomputable def AV.under (m : Nat) : AV → Bool
  | .ptr b _ => Nat.blt b m
  | .slice b _ _ _ _ => Nat.blt b m
  | .map b => Nat.blt b m
  | .yield b => Nat.blt b m
  | .fn _ a c => match AV.unders m a with
    | true => AV.unders m c
    | false => false
  | .iface _ v => AV.under m v
  | .agg l => AV.unders m l
  | .tup l => AV.unders m l
  | _ => true
noncomputable def AV.unders (m : Nat) : List AV → Bool
  | [] => true
  | a :: r => match AV.under m a with
    | true => AV.unders m r
    | false => false
end

theorem below_some {m b : Nat} {L : Loc} (h : ι b = some L) (hb : Nat.blt b m = true) : below ι m b = some L := below_of (Nat.le_of_ble_eq_true hb) h

mutual
theorem VR.under {m : Nat} : ∀ (a : AV) {v : Value}, a.under m = true → VR ι a v → VR (below ι m) a v
  | .bool _, _, _, hv => hv
  | .int _ _, _, _, hv => hv
  | .str _, _, _, hv => hv
  | .nilp, _, _, hv => hv
  | .ptr _ _, _, hu, ⟨L, hL, e⟩ => ⟨L, below_some hL hu, e⟩
  | .nils, _, _, hv => hv
  | .slice _ _ _ _ _, _, hu, ⟨L, e, off, hL, r⟩ => ⟨L, e, off, below_some hL hu, r⟩
  | .nilm, _, _, hv => hv
  | .map _, _, hu, ⟨L, hL, e⟩ => ⟨L, below_some hL hu, e⟩
  | .nilf, _, _, hv => hv
  | .fn _ a c, _, hu, ⟨a', c', ha, hc, e⟩ => by
    have hu' : (match AV.unders m a with | true => AV.unders m c | false => false) = true := hu
    cases h : AV.unders m a with
    | false => rw [h] at hu'; cases hu'
    | true => rw [h] at hu'; exact ⟨a', c', VRs.under a h ha, VRs.under c hu' hc, e⟩
  | .yield _, _, hu, ⟨L, hL, e⟩ => ⟨L, below_some hL hu, e⟩
  | .niface, _, _, hv => hv
  | .iface _ x, _, hu, ⟨x', hx, e⟩ => ⟨x', VR.under x hu hx, e⟩
  | .agg l, _, hu, ⟨l', hl, e⟩ => ⟨l', VRs.under l hu hl, e⟩
  | .tup l, _, hu, ⟨l', hl, e⟩ => ⟨l', VRs.under l hu hl, e⟩
  | .any _, _, _, hv => hv
theorem VRs.under {m : Nat} : ∀ (a : List AV) {v : List Value}, AV.unders m a = true → VRs ι a v → VRs (below ι m) a v
  | [], _, _, hv => hv
  | a :: r, _, hu, ⟨v, l', hv, hl, e⟩ => by
    have hu' : (match AV.under m a with | true => AV.unders m r | false => false) = true := hu
    cases h : AV.under m a with
    | false => rw [h] at hu'; cases hu'
    | true => rw [h] at hu'; exact ⟨v, l', VR.under a h hv, VRs.under r hu' hl, e⟩
end

theorem below_zero : (below ι 0).le κ := fun b L h => by
  have := (below_lt h).1
  omega

theorem VR.anyhow {a : AV} {v : Value} (hu : a.under 0 = true) (h : VR ι a v) : VR κ a v := (VR.under a hu h).mono below_zero

theorem VRs.anyhow {a : List AV} {v : List Value} (hu : AV.unders 0 a = true) (h : VRs ι a v) : VRs κ a v := VRs.mono below_zero a (VRs.under a hu h)

noncomputable def sameBlk : Option ABlk → ABlk → Bool
  | some (.cells cs true true), .cells cs' true true => AV.beqs cs cs'
  | some .dead, .dead => true
  | _, _ => false

/-- The memory begins with these blocks. -/
noncomputable def sameFrom (h : AHeap) : List ABlk → Nat → Bool
  | [], _ => true
  | k :: l, b => match sameBlk (h.get b) k with
    | true => sameFrom h l (b + 1)
    | false => false

theorem sameBlk_spec {o : Option ABlk} {k : ABlk} (h : sameBlk o k = true) : o = some k ∧ k.writable = false := by
  unfold sameBlk at h
  split at h
  · rename_i cs cs'
    rw [AV.beqs_eq _ _ h]
    exact ⟨rfl, rfl⟩
  · exact ⟨rfl, rfl⟩
  · cases h

theorem sameFrom_spec {h : AHeap} : ∀ {l : List ABlk} {b : Nat}, sameFrom h l b = true → ∀ (i : Nat) k, l[i]? = some k → h.get (b + i) = some k ∧ k.writable = false
  | [], _, _, i, k, hk => by simp at hk
  | a :: l, b, hs, i, k, hk => by
    have hs' : (match sameBlk (h.get b) a with | true => sameFrom h l (b + 1) | false => false) = true := hs
    cases h1 : sameBlk (h.get b) a with
    | false => rw [h1] at hs'; cases hs'
    | true =>
      rw [h1] at hs'
      cases i with
      | zero =>
        simp only [List.getElem?_cons_zero, Option.some.injEq] at hk
        subst hk
        exact sameBlk_spec h1
      | succ i =>
        have := sameFrom_spec (l := l) hs' i k (by simpa using hk)
        rw [show b + (i + 1) = b + 1 + i from by omega]
        exact this

/-- The blocks of a beginning refer to nothing but one another. -/
noncomputable def shut (m : Nat) : List ABlk → Bool
  | [] => true
  | .cells cs _ _ :: l => match AV.unders m cs with
    | true => shut m l
    | false => false
  | .dead :: l => shut m l
  | _ :: _ => false

theorem shut_spec {m : Nat} : ∀ {l : List ABlk}, shut m l = true → ∀ (i : Nat) k, l[i]? = some k → k = .dead ∨ ∃ cs ro ex, k = .cells cs ro ex ∧ AV.unders m cs = true
  | [], _, i, k, hk => by simp at hk
  | a :: l, hs, i, k, hk => by
    cases a with
    | cells cs ro ex =>
      have hs' : (match AV.unders m cs with | true => shut m l | false => false) = true := hs
      cases h1 : AV.unders m cs with
      | false => rw [h1] at hs'; cases hs'
      | true =>
        rw [h1] at hs'
        cases i with
        | zero =>
          simp only [List.getElem?_cons_zero, Option.some.injEq] at hk
          subst hk
          exact .inr ⟨cs, ro, ex, rfl, h1⟩
        | succ i => exact shut_spec (l := l) hs' i k (by simpa using hk)
    | dead =>
      have hs' : shut m l = true := hs
      cases i with
      | zero =>
        simp only [List.getElem?_cons_zero, Option.some.injEq] at hk
        exact .inl hk.symm
      | succ i => exact shut_spec (l := l) hs' i k (by simpa using hk)
    | _ => cases hs

theorem AV.unders_get {m : Nat} : ∀ {l : List AV}, AV.unders m l = true → ∀ (i : Nat) a, l[i]? = some a → a.under m = true
  | [], _, i, a, ha => by simp at ha
  | x :: l, hu, i, a, ha => by
    have hu' : (match AV.under m x with | true => AV.unders m l | false => false) = true := hu
    cases h : AV.under m x with
    | false => rw [h] at hu'; cases hu'
    | true =>
      rw [h] at hu'
      cases i with
      | zero =>
        simp only [List.getElem?_cons_zero, Option.some.injEq] at ha
        subst ha; exact h
      | succ i => exact AV.unders_get (l := l) hu' i a (by simpa using ha)

/-- The evaluation returned this value, and nothing was recovered. -/
noncomputable def saysVal (v : AV) : Option Ans → Bool
  | some (.norm, v', s) => match s.pan with
    | .none => AV.beq v' v
    | _ => false
  | _ => false

theorem saysVal_spec {v : AV} {r : Option Ans} (h : saysVal v r = true) : ∃ s, r = some (.norm, v, s) ∧ s.pan = .none := by
  unfold saysVal at h
  split at h
  · rename_i v' s
    split at h
    · rename_i hp
      rw [AV.beq_eq _ _ h]
      exact ⟨s, rfl, hp⟩
    · cases h
  · cases h

/-- In whatever memory that begins so, the call returns this value, and changes nothing that is known. -/
def Valid (P : Program) (bs : List ABlk) (f : FuncId) (args : List AV) (v : AV) : Prop :=
  ∀ s : ASt, s.pan = .none → sameFrom s.h bs 0 = true → CallOk P f args s (.norm, v, s)

noncomputable def begins (bs : List ABlk) : ASt := ⟨.nil, 0, [], .none, ⟨Tr.ofList bs, bs.length⟩⟩

theorem valid_of {rec : Job → ASt → Option Ans} (hrec : RecOk P rec) {bs : List ABlk} {f : FuncId} {args : List AV} {v : AV} (hs : shut bs.length bs = true) (hg : P.globals.size ≤ bs.length)
    (ha : AV.unders 0 args = true) (hv : v.under 0 = true) (he : saysVal v (rec (.call f args) (begins bs)) = true) : Valid P bs f args v := by
  intro s hp hsame
  obtain ⟨s', hs', hp'⟩ := saysVal_spec he
  obtain ⟨h1, h2⟩ := hrec.call f args _ _ hs'
  refine ⟨h1, fun kind cs args' ι w hargs hh hgr hpan => ?_⟩
  have hfrom : ∀ (b : Nat) (k : ABlk), bs[b]? = some k → s.h.get b = some k ∧ k.writable = false := fun b k hk => by
    have := sameFrom_spec hsame b k hk
    rw [Nat.zero_add] at this
    exact this
  have hget : ∀ b, (begins bs).h.get b = bs[b]? := fun b => Tr.get_ofList _ _
  have hr : HR (below ι bs.length) (begins bs).h w := by
    refine hh.restrict rfl (fun b L hb _ => ?_) (fun b k hk => ?_) (fun b k L hb hk hL => ?_)
    · rw [hget, (hfrom b bs[b] (by simp [hb])).1]
      simp [hb]
    · rw [hget] at hk
      exact (List.getElem?_eq_some_iff.1 hk).1
    · rw [hget] at hk
      obtain ⟨e1, _⟩ := hfrom b k hk
      rcases shut_spec hs b k hk with rfl | ⟨cs, ro, ex, rfl, hu⟩
      · trivial
      obtain ⟨c, elem, fz, b1, b2, b3, b4, b5⟩ := hh.blocks b _ L e1 hL
      refine ⟨c, elem, fz, b1, b2, b3, fun i x hx => ?_, b5⟩
      obtain ⟨x', c1, c2⟩ := b4 i x hx
      exact ⟨x', c1, VR.under x (AV.unders_get hu i x hx) c2⟩
  have hgr' : GR P (below ι bs.length) := fun g hg' => by
    obtain ⟨L, g1, g2⟩ := hgr g hg'
    exact ⟨L, below_of (by omega) g1, g2⟩
  have hno : ∀ c, ¬ Img ABlk.writable (below ι bs.length) (begins bs).h c := by
    rintro c ⟨b, L, k, _, hk, hwr, _⟩
    rw [hget] at hk
    rw [(hfrom b k hk).2] at hwr
    cases hwr
  have hpan' : PanInv (below ι bs.length) kind cs (begins bs).pan := by
    rw [hp] at hpan
    exact hpan
  obtain ⟨κ, u, a1, a2, a3, a4⟩ := h2 kind cs args' (below ι bs.length) w (VRs.anyhow ha hargs) hr hgr' hpan'
  have hrow : ∀ c, c < w.heap.size → u.heap[c]? = w.heap[c]? := fun c hc => a2.kept c hc (hno c)
  refine ⟨ι, u, ⟨fun b k L hk hL => ?_, fun b L hL => Nat.lt_of_lt_of_le (hh.bound b L hL) a2.size, hh.apart, hh.next, hh.fresh⟩,
    ⟨ι.le_refl, fun _ _ e => .inl e, Nat.le_refl _, a2.size, fun c hc _ => hrow c hc, fun _ _ h => h, fun _ _ h => h, fun _ _ _ => rfl, a2.env⟩, hpan, ?_⟩
  · rw [hrow _ (hh.bound b L hL)]
    exact hh.blocks b k L hk hL
  · obtain ⟨fr, v', e1, e2, e3, e4, e5, e6, e7⟩ := a4
    rw [show (AEx.norm, v, s').2.2.pan = s'.pan from rfl, hp'] at e7
    rw [show (AEx.norm, v, s).2.2.pan = s.pan from rfl, hp]
    exact ⟨fr, v', e1, e2, e3, e4, VR.anyhow hv e5, e6, e7⟩

/-- A call that was evaluated apart: the function, its arguments, the value. -/
structure Known where
  f : FuncId
  args : List AV
  val : AV

noncomputable def findK (f : FuncId) (args : List AV) : List Known → Option AV
  | [] => none
  | e :: l => match Nat.beq e.f f with
    | true => match AV.beqs e.args args with
      | true => some e.val
      | false => findK f args l
    | false => findK f args l

theorem findK_spec {f : FuncId} {args : List AV} {v : AV} : ∀ {l : List Known}, findK f args l = some v → ∃ e ∈ l, e.f = f ∧ e.args = args ∧ e.val = v
  | [], h => by cases h
  | e :: l, h => by
    simp only [findK] at h
    split at h
    · rename_i h1
      split at h
      · rename_i h2
        cases h
        exact ⟨e, List.mem_cons_self, Nat.eq_of_beq_eq_true h1, AV.beqs_eq _ _ h2, rfl⟩
      · obtain ⟨x, x1, x2⟩ := findK_spec h
        exact ⟨x, List.mem_cons_of_mem _ x1, x2⟩
    · obtain ⟨x, x1, x2⟩ := findK_spec h
      exact ⟨x, List.mem_cons_of_mem _ x1, x2⟩

noncomputable def onKnown (bs : List ABlk) (s : ASt) (r : Option Ans) : Option AV → Option Ans
  | none => r
  | some v => match s.pan with
    | .none => match sameFrom s.h bs 0 with
      | true => some (.norm, v, s)
      | false => none
    | _ => none

/-- What is known of some functions, whatever the arguments: a value, and nothing is changed. -/
abbrev Cons := FuncId → List AV → AHeap → Option AV

def ConsOk (P : Program) (con : Cons) : Prop := ∀ f args h v, con f args h = some v → ∀ s : ASt, s.h = h → s.pan = .none → NCallOk P f args s (.norm, v, s)

noncomputable def onCon (s : ASt) (r : Option Ans) : Option AV → Option Ans
  | none => r
  | some v => match s.pan with
    | .none => some (.norm, v, s)
    | _ => none

/-- Whoever knows some calls. -/
noncomputable def knowing (bs : List ABlk) (es : List Known) (con : Cons) (rec : Job → ASt → Option Ans) (j : Job) (s : ASt) : Option Ans := match j with
  | .ncall f args => onCon s (onKnown bs s (rec (.ncall f args) s) (findK f args es)) (con f args s.h)
  | j => rec j s

theorem knowing_ok {bs : List ABlk} {es : List Known} {con : Cons} (hv : ∀ e ∈ es, Valid P bs e.f e.args e.val) (hcon : ConsOk P con) {rec : Job → ASt → Option Ans} (hrec : RecOk P rec) : RecOk P (knowing bs es con rec) where
  code := hrec.code
  loop := hrec.loop
  scope := hrec.scope
  call := hrec.call
  yield := hrec.yield
  defers := hrec.defers
  ncall := fun f args s r h => by
    have h' : onCon s (onKnown bs s (rec (.ncall f args) s) (findK f args es)) (con f args s.h) = some r := h
    cases hc : con f args s.h with
    | some v =>
      rw [hc] at h'
      simp only [onCon] at h'
      split at h'
      · rename_i hp
        cases h'
        exact hcon f args s.h v hc s rfl hp
      · cases h'
    | none =>
      rw [hc] at h'
      simp only [onCon] at h'
      cases hk : findK f args es with
      | none => rw [hk] at h'; exact hrec.ncall f args s r h'
      | some v =>
        rw [hk] at h'
        simp only [onKnown] at h'
        split at h'
        · rename_i hp
          split at h'
          · rename_i hs
            cases h'
            obtain ⟨e, e1, rfl, rfl, rfl⟩ := findK_spec hk
            exact (hv e e1 s hp hs).normal
          · cases h'
        · cases h'

/-- The evaluator that knows some calls. -/
noncomputable def evK (P : Program) (bs : List ABlk) (es : List Known) (con : Cons) (n : Nat) : Job → ASt → Option Ans :=
  Nat.rec (motive := fun _ => Job → ASt → Option Ans) (fun _ _ => none) (fun _ ih => evF P (knowing bs es con ih)) n

theorem evK_sound (hm : P.follows .mixedOrders = true) {bs : List ABlk} {es : List Known} {con : Cons} (hv : ∀ e ∈ es, Valid P bs e.f e.args e.val) (hcon : ConsOk P con) : ∀ n, RecOk P (evK P bs es con n)
  | 0 => ⟨fun _ _ _ _ _ h => (by cases h), fun _ _ _ _ _ h => (by cases h), fun _ _ _ _ _ _ h => (by cases h), fun _ _ _ _ h => (by cases h), fun _ _ _ _ h => (by cases h), fun _ _ _ _ h => (by cases h), fun _ _ _ h => (by cases h)⟩
  | n + 1 => evF_ok hm (knowing_ok hv hcon (evK_sound hm hv hcon n)) (drawnOk (knowing_ok hv hcon (evK_sound hm hv hcon n)))

theorem consOk_none : ConsOk P fun _ _ _ => none := fun _ _ _ _ h => by cases h

/-- A contract of the guide's kind: a value, and the world is as it was. -/
theorem ncall_same {f : FuncId} {args : List AV} {v : AV} {s : ASt} (hf : ∃ fn, P.funcs[f]? = some fn ∧ fn.body.isSome = true ∧ (fn.name == "runtime.NumGoroutine") = false)
    (h : ∀ (args' : List Value) (ι : Inj) (w : World), VRs ι args args' → HR ι s.h w → GR P ι → ∃ v', VR ι v v' ∧ Calls P f args'.toArray w fun e w' => e = .returned v' ∧ w' = w) : NCallOk P f args s (.norm, v, s) := by
  refine ⟨hf, fun cs args' ι w hv hh hg _ => ?_⟩
  obtain ⟨v', h1, h2⟩ := h args' ι w hv hh hg
  obtain ⟨e, w', fr, ⟨rfl, rfl⟩, hc, hfn, hl⟩ := h2 cs
  exact ⟨ι, w', hh, Ext.refl _ _ _, fr, v', hfn, hl.2.2.1, hl.1, hl.2.1, h1, hl.2.2.2, hc⟩

theorem calls_of_rec {rec : Job → ASt → Option Ans} (hrec : RecOk P rec) {f : FuncId} {args : List AV} {h0 : AHeap} {v : AV} {s' : ASt} (he : rec (.call f args) ⟨.nil, 0, [], .none, h0⟩ = some (.norm, v, s'))
    {args' : List Value} (ha : VRs ι args args') (hh : HR ι h0 w) (hg : GR P ι) :
    Calls P f args'.toArray w fun e u => ∃ κ v', e = .returned v' ∧ VR κ v v' ∧ HR κ s'.h u ∧ Ext ι h0 w κ s'.h u := by
  intro cs
  obtain ⟨_, hc⟩ := hrec.call f args _ _ he
  obtain ⟨κ, u, h1, h2, h3, fr, v', e1, e2, e3, e4, e5, e6, e7⟩ := hc .normal cs args' ι w ha hh hg (panInv_normal cs)
  have hp := h3.normal
  simp only at hp h1 h2
  rw [show (AEx.norm, v, s').2.2.pan = s'.pan from rfl, hp] at e7
  exact ⟨.returned v', u, fr, ⟨κ, v', rfl, e5, h1, h2⟩, e7, e1, e3, e4, e2, e6⟩

/-- A closed law, of which some calls were evaluated apart. -/
theorem closed_known {rec : Job → ASt → Option Ans} (hrec : RecOk P rec) {un : List (Nat × IntKind)} {N : Nat} {f : FuncId} {laid : List (String × DataW Unit)} {bs : List ABlk} (hs : startOf P un N laid = some bs) (hun : ∀ x ∈ un, ∃ z, w.cell? ⟨x.1, 0, none⟩ = some (.int x.2 z)) (hw : (bs.all fun k : ABlk => !k.writable) = true)
    (he : saysTrue (rec (.call f []) (begins bs)) = true) (hl : laidMet P laid w) :
    Calls P f #[] w fun e u => e = .returned (.bool true) ∧ ∀ may, w.keptBut u may := by
  obtain ⟨ps, hl, _⟩ := hl
  obtain ⟨ι, h1, h2, h3⟩ := start_sound hs hl hun hw
  obtain ⟨s, hs⟩ := saysTrue_spec he
  refine (calls_of_rec hrec hs (args' := []) rfl h1 h2).mono fun e u ⟨κ, v', e1, e2, _, e4⟩ => ?_
  have e2' : v' = .bool true := e2
  subst e2'
  refine ⟨e1, fun may => ⟨e4.env.1, e4.env.2.1, fun i hi => ?_⟩⟩
  have hk := e4.kept i hi (h3 i)
  rw [hk]
  cases hx : w.heap[i]? with
  | none => trivial
  | some o => cases o <;> simp

end Go.AM

namespace Go.AM
variable {P : Program}

/-! The evaluator without a bound. -/
abbrev Evals := Job → ASt → Option Ans

/-- It asks finitely often. -/
def Ct {α : Type} (G : Evals → Option α) : Prop :=
  ∀ (c : Nat → Evals), (∀ n m, n ≤ m → ∀ j s x, c n j s = some x → c m j s = some x) → ∀ ω : Evals, (∀ j s x, ω j s = some x → ∃ n, c n j s = some x) →
    ∀ x, G ω = some x → ∃ n, ∀ m, n ≤ m → G (c m) = some x

theorem Ct.const {α : Type} (a : Option α) : Ct (fun _ => a) := fun _ _ _ _ _ h => ⟨0, fun _ _ => h⟩

theorem Ct.ask (j : Job) (s : ASt) : Ct (fun rec => rec j s) := fun _ hc _ hω x h =>
  let ⟨n, hn⟩ := hω j s x h; ⟨n, fun m hm => hc n m hm j s x hn⟩

theorem Ct.strict {α β : Type} {F : Evals → Option β → Option α} {A : Evals → Option β} (h0 : ∀ rec, F rec none = none) (hA : Ct A) (hF : ∀ b, Ct (fun rec => F rec (some b))) : Ct (fun rec => F rec (A rec)) := by
  intro c hc ω hω x h
  have h' : F ω (A ω) = some x := h
  cases ha : A ω with
  | none => rw [ha, h0] at h'; cases h'
  | some b =>
    rw [ha] at h'
    obtain ⟨n1, h1⟩ := hA c hc ω hω b ha
    obtain ⟨n2, h2⟩ := hF b c hc ω hω x h'
    refine ⟨max n1 n2, fun m hm => ?_⟩
    show F (c m) (A (c m)) = some x
    rw [h1 m (by omega)]
    exact h2 m (by omega)

theorem Ct.mono {α : Type} {G : Evals → Option α} (h : Ct G) {a b : Evals} (hab : ∀ j s x, a j s = some x → b j s = some x) {x : α} (hx : G a = some x) : G b = some x := by
  obtain ⟨n, hn⟩ := h (fun n => match n with | 0 => a | _ + 1 => b) (fun n m hnm j s x hx => by
    cases n with
    | zero =>
      cases m with
      | zero => exact hx
      | succ m => exact hab j s x hx
    | succ n =>
      cases m with
      | zero => omega
      | succ m => exact hx) a (fun j s x hx => ⟨0, hx⟩) x hx
  exact hn (n + 1) (by omega)

section
variable {k : Evals → ASt → Option Ans} {pk : Evals → AV → ASt → Option Ans}

theorem Ct.putK (hk : ∀ s, Ct (fun rec => k rec s)) {regs : Tr AV} {size : Nat} {defs : List ADef} {pan : APan} {h : AHeap} {v : AV} {dst : Option Tmp} :
    Ct (fun rec => AM.putK (k rec) regs size defs pan h v dst) := by
  cases dst with
  | none => exact hk _
  | some d =>
    show Ct (fun rec => Bool.rec (motive := fun _ => Option Ans) none (k rec ⟨Tr.put (some v) regs d, size, defs, pan, h⟩) (Nat.ble (Nat.succ d) size))
    cases Nat.ble (Nat.succ d) size with
    | false => exact Ct.const _
    | true => exact hk _

theorem Ct.recover (hk : ∀ s, Ct (fun rec => k rec s)) {dst : Option Tmp} {s : ASt} {round : Option Nat} : Ct (fun rec => evRecover (k rec) dst s round) := by
  cases round with
  | some _ => exact Ct.const _
  | none =>
    unfold evRecover
    cases s.pan with
    | none => exact Ct.putK hk
    | live v => exact Ct.putK hk
    | recovered v => exact Ct.putK hk

theorem Ct.back (hk : ∀ s, Ct (fun rec => k rec s)) (hp : ∀ v s, Ct (fun rec => pk rec v s)) {dst : Option Tmp} {s : ASt} {A : Evals → Option Ans} (hA : Ct A) : Ct (fun rec => evBack (k rec) (pk rec) dst s (A rec)) := by
  refine Ct.strict (F := fun rec => evBack (k rec) (pk rec) dst s) (fun _ => rfl) hA fun b => ?_
  obtain ⟨e, v, s'⟩ := b
  cases e with
  | norm => exact Ct.putK hk
  | panic p => exact hp _ _
  | _ => exact Ct.const _

theorem Ct.defer (hk : ∀ s, Ct (fun rec => k rec s)) {d : ADef} {dst : Option Tmp} {s : ASt} {round : Option Nat} : Ct (fun rec => evDefer (k rec) d dst s round) := by
  cases round with
  | some _ => exact Ct.const _
  | none => exact Ct.putK hk

theorem Ct.op (hk : ∀ s, Ct (fun rec => k rec s)) (hp : ∀ v s, Ct (fun rec => pk rec v s)) {round : Option Nat} {o : Oper} {s : ASt} : Ct (fun rec => evOp P rec (k rec) (pk rec) round o s) := by
  unfold evOp evOut
  cases aexec o.op P s.regs s.h with
  | fail => exact Ct.const _
  | val v h => exact Ct.putK hk
  | skip h => exact Ct.putK hk
  | call f args => exact Ct.back hk hp (Ct.ask _ _)
  | yield l args => exact Ct.back hk hp (Ct.ask _ _)
  | defer d => exact Ct.defer hk
  | recover => exact Ct.recover hk
  | panic v => exact hp _ _

theorem Ct.whether {yes no : Evals → Option Ans} (h1 : Ct yes) (h2 : Ct no) (b : Option Bool) : Ct (fun rec => evWhether (yes rec) (no rec) b) := by
  cases b with
  | none => exact Ct.const _
  | some b => cases b with
    | true => exact h1
    | false => exact h2

theorem Ct.if_ {r : Evals → Option Ans} (h : Ct r) (b : Bool) : Ct (fun rec => evIf (r rec) b) := by
  cases b with
  | false => exact Ct.const _
  | true => exact h

theorem Ct.opsL {round : Option Nat} {ops : Array Oper} : ∀ (l : List Oper) (s : ASt), Ct (fun rec => evOpsL P rec round ops l s)
  | [], _ => Ct.const _
  | o :: l, s => by
    refine Ct.whether ?_ ?_ _
    · exact Ct.op (k := fun rec => evOpsL P rec round ops l) (pk := fun _ => panicked) (fun s => Ct.opsL l s) (fun _ _ => Ct.const _)
    · exact Ct.putK (k := fun rec => evOpsL P rec round ops l) (fun s => Ct.opsL l s)

theorem Ct.drawnNext {next : Evals → Nat → Done → ASt → Option Ans} (hn : ∀ i d s, Ct (fun rec => next rec i d s)) {bi i : Nat} {o : Op} {done : Done} {s s' : ASt} :
    Ct (fun rec => evDrawnNext P (next rec) bi i o done s s') := by
  unfold evDrawnNext
  cases opClass P o with
  | still => exact hn _ _ _
  | reads => exact Ct.if_ (hn _ _ _) _
  | acts => exact Ct.if_ (Ct.if_ (Ct.if_ (hn _ _ _) _) _) _

theorem Ct.drawnL {round : Option Nat} {ops : Array Oper} : ∀ (l : List (Oper × Nat)) (i : Nat) (done : Done) (s : ASt), Ct (fun rec => evDrawnL P rec round ops l i done s)
  | [], _, _, _ => Ct.const _
  | (o, b) :: l, i, done, s => by
    refine Ct.whether ?_ ?_ _
    · exact Ct.op (k := fun rec => evDrawnNext P (evDrawnL P rec round ops l) b i o.op done s) (pk := fun _ => noPanic) (fun s' => Ct.drawnNext (next := fun rec => evDrawnL P rec round ops l) (fun i d s => Ct.drawnL l i d s)) (fun _ _ => Ct.const _)
    · exact Ct.putK (k := fun rec => evDrawnL P rec round ops l (Nat.succ i) done) (fun s => Ct.drawnL l _ _ s)

theorem Ct.region {round : Option Nat} {ops : Array Oper} {s : ASt} {draw : Bool} : Ct (fun rec => evRegion P rec round ops s draw) := by
  cases draw with
  | false => exact Ct.opsL _ _
  | true => exact Ct.if_ (Ct.drawnL _ _ _ _) _

theorem Ct.then_ {f : Evals → ASt → Option Ans} {A : Evals → Option Ans} (hA : Ct A) (hf : ∀ s, Ct (fun rec => f rec s)) : Ct (fun rec => thenDo (f rec) (A rec)) := by
  refine Ct.strict (F := fun rec => thenDo (f rec)) (fun _ => rfl) hA fun b => ?_
  obtain ⟨e, v, s'⟩ := b
  cases e with
  | norm => exact hf _
  | _ => exact Ct.const _

theorem Ct.under {F : Option Ans → Option Ans} (h0 : F none = none) {A : Evals → Option Ans} (hA : Ct A) : Ct (fun rec => F (A rec)) :=
  Ct.strict (F := fun _ => F) (fun _ => h0) hA fun _ => Ct.const _

theorem Ct.cond {a b : Evals → ASt → Option Ans} {s : ASt} (ha : Ct (fun rec => a rec s)) (hb : Ct (fun rec => b rec s)) (v : Option AV) : Ct (fun rec => evCond (a rec) (b rec) s v) := by
  unfold evCond
  split
  · rename_i c
    cases c with
    | true => exact ha
    | false => exact hb
  · exact Ct.const _

theorem Ct.loopFrom {f : FuncId} {first captured : List AV} {fn : FuncId} {params : List Tmp} {assign body : Code} (o : Option (Nat × ASt)) : Ct (fun rec => evLoopFrom rec f first captured fn params assign body o) := by
  cases o with
  | none => exact Ct.const _
  | some x =>
    obtain ⟨d, s⟩ := x
    exact Ct.under (F := evLoopBack s.h.next s) rfl (Ct.ask _ _)

theorem Ct.range {fn : FuncId} {round : Option Nat} {params : List Tmp} {assign body : Code} {s : ASt} (v : Option AV) : Ct (fun rec => evRange rec fn round params assign body s v) := by
  unfold evRange
  split
  · exact Ct.loopFrom _
  · exact Ct.const _

theorem Ct.code (c : Code) : ∀ (fn : FuncId) (round : Option Nat) (s : ASt), Ct (fun rec => evCode P rec c fn round s) := by
  induction c with
  | skip => intro _ _ _; exact Ct.const _
  | region id ops draw => intro _ _ _; exact Ct.region
  | seq x y ihx ihy => intro fn round s; exact Ct.then_ (f := fun rec => evCode P rec y fn round) (ihx fn round s) (fun s => ihy fn round s)
  | cond c x y ihx ihy => intro fn round s; exact Ct.cond (a := fun rec => evCode P rec x fn round) (b := fun rec => evCode P rec y fn round) (ihx fn round s) (ihy fn round s) _
  | block id b ih => intro fn round s; exact Ct.under (F := evBlock id) rfl (ih fn round s)
  | loop b ih => intro _ _ _; exact Ct.ask _ _
  | rangeFunc f params assign body ih1 ih2 => intro _ _ _; exact Ct.range _
  | exit id => intro _ _ _; exact Ct.const _
  | scope b ih => intro _ _ _; exact Ct.ask _ _
  | label l => intro _ _ _; exact Ct.const _
  | goto l => intro _ _ _; exact Ct.const _
  | ret => intro _ _ _; exact Ct.const _
  | _ => intros; exact Ct.const _

theorem Ct.scope {fn : FuncId} {round : Option Nat} {body : Code} {A : Evals → Option Ans} (hA : Ct A) : Ct (fun rec => evScope rec fn round body (A rec)) := by
  refine Ct.strict (F := fun rec => evScope rec fn round body) (fun _ => rfl) hA fun b => ?_
  obtain ⟨e, v, s'⟩ := b
  cases e with
  | goto l =>
    show Ct (fun rec => match findLabel body l with | some rest => rec (.scope fn round rest body) s' | none => some (.goto l, v, s'))
    split
    · exact Ct.ask _ _
    · exact Ct.const _
  | _ => exact Ct.const _

theorem Ct.defers {v : Option AV} {s : ASt} (l : List ADef) : Ct (fun rec => evDefers rec v s l) := by
  cases l with
  | nil => cases v <;> exact Ct.const _
  | cons a l => exact Ct.ask _ _

theorem Ct.left {fn : Func} {A : Evals → Option Ans} (hA : Ct A) : Ct (fun rec => evLeft P rec fn (A rec)) := by
  refine Ct.strict (F := fun rec => evLeft P rec fn) (fun _ => rfl) hA fun b => ?_
  obtain ⟨e, v, s'⟩ := b
  cases e with
  | norm => exact Ct.under (F := evResults P fn) rfl (Ct.defers _)
  | ret => exact Ct.under (F := evResults P fn) rfl (Ct.defers _)
  | panic p => exact Ct.under (F := evResults P fn) rfl (Ct.defers _)
  | _ => exact Ct.const _

theorem Ct.body {f : FuncId} {fn : Func} {args : List AV} {s : ASt} (c : Option Code) : Ct (fun rec => evBody P rec f fn args s c) := by
  cases c with
  | none => exact Ct.const _
  | some body =>
    unfold evBody
    dsimp only
    split
    · exact Ct.const _
    · split
      · exact Ct.left (Ct.ask _ _)
      · exact Ct.const _

theorem Ct.call {f : FuncId} {args : List AV} {s : ASt} (o : Option Func) : Ct (fun rec => evCall P rec f args s o) := by
  cases o with
  | none => exact Ct.const _
  | some fn => exact Ct.body _

theorem Ct.busy {l : Nat} {fn : FuncId} {body : Code} {s s' : ASt} (o : Option ABlk) : Ct (fun rec => evBusy P rec l fn body s s' o) := by
  unfold evBusy
  split
  · split
    · exact Ct.under (F := evRoundEnd P l fn s) rfl (Ct.ask _ _)
    · exact Ct.const _
  · exact Ct.const _

theorem Ct.roundBegin {l : Nat} {fn : FuncId} {body : Code} {s : ASt} {A : Evals → Option Ans} (hA : Ct A) : Ct (fun rec => evRoundBegin P rec l fn body s (A rec)) := by
  refine Ct.strict (F := fun rec => evRoundBegin P rec l fn body s) (fun _ => rfl) hA fun b => ?_
  obtain ⟨e, v, s'⟩ := b
  cases e with
  | norm => exact Ct.busy _
  | _ => exact Ct.const _

theorem Ct.yield {l : Nat} {args : List AV} {s : ASt} (o : Option ABlk) : Ct (fun rec => evYield P rec l args s o) := by
  unfold evYield
  split
  · unfold evRound
    split
    · exact Ct.roundBegin (Ct.ask _ _)
    · exact Ct.const _
  · exact Ct.const _

theorem Ct.defersOf {v : Option AV} {s : ASt} (l : List ADef) : Ct (fun rec => evDefersOf rec v s l) := by
  cases l with
  | nil => cases v <;> exact Ct.const _
  | cons d ds =>
    cases d with
    | collected r =>
      show Ct (fun rec => evTake rec v r ds s (s.h.get r))
      unfold evTake
      split
      · exact Ct.ask _ _
      · exact Ct.const _
    | call f captured args =>
      refine Ct.strict (F := fun rec => evDeferred rec v ds s) (fun _ => rfl) (Ct.ask _ _) fun b => ?_
      obtain ⟨e, v', s'⟩ := b
      cases e with
      | norm => exact Ct.ask _ _
      | _ => exact Ct.const _

theorem Ct.job (j : Job) (s : ASt) : Ct (fun rec => evF P rec j s) := by
  cases j with
  | code fn round c => exact Ct.code _ _ _ _
  | loop fn round b => exact Ct.then_ (f := fun rec => rec (.loop fn round b)) (Ct.code _ _ _ _) (fun s => Ct.ask _ s)
  | scope fn round c body => exact Ct.scope (Ct.code _ _ _ _)
  | call f args => exact Ct.call _
  | ncall f args => exact Ct.call _
  | yield l args => exact Ct.yield _
  | defers v => exact Ct.defersOf _
end

theorem ev_step (n : Nat) : ∀ j s x, ev P n j s = some x → ev P (n + 1) j s = some x := by
  induction n with
  | zero => intro j s x h; cases h
  | succ n ih =>
    intro j s x h
    exact Ct.mono (Ct.job (P := P) j s) ih h

theorem ev_more {n m : Nat} (h : n ≤ m) : ∀ j s x, ev P n j s = some x → ev P m j s = some x := by
  induction m with
  | zero => intro j s x hx; obtain rfl : n = 0 := by omega
            exact hx
  | succ m ih =>
    intro j s x hx
    by_cases e : n = m + 1
    · subst e; exact hx
    · exact ev_step m j s x (ih (by omega) j s x hx)

open Classical in
/-- What the evaluator says, whatever the bound. -/
noncomputable def run (P : Program) (j : Job) (s : ASt) : Option Ans := if h : ∃ x, ∃ n, ev P n j s = some x then some (Classical.choose h) else none

theorem run_iff {j : Job} {s : ASt} {x : Ans} : run P j s = some x ↔ ∃ n, ev P n j s = some x := by
  unfold run
  constructor
  · intro h
    split at h
    · rename_i hx
      cases h
      exact Classical.choose_spec hx
    · cases h
  · rintro ⟨n, hn⟩
    have hx : ∃ x, ∃ n, ev P n j s = some x := ⟨x, n, hn⟩
    rw [dif_pos hx]
    obtain ⟨m, hm⟩ := Classical.choose_spec hx
    have a := ev_more (Nat.le_max_left n m) j s _ hn
    rw [ev_more (Nat.le_max_right n m) j s _ hm] at a
    exact a

/-- It is what one step makes of it. -/
theorem run_eq (j : Job) (s : ASt) : run P j s = evF P (run P) j s := by
  have h1 : ∀ x, run P j s = some x → evF P (run P) j s = some x := by
    intro x h
    obtain ⟨n, hn⟩ := run_iff.1 h
    have hn' := ev_step n j s x hn
    exact Ct.mono (Ct.job (P := P) j s) (fun j s x hx => run_iff.2 ⟨n, hx⟩) hn'
  have h2 : ∀ x, evF P (run P) j s = some x → run P j s = some x := by
    intro x h
    obtain ⟨n, hn⟩ := Ct.job (P := P) j s (ev P) (fun n m hnm => ev_more hnm) (run P) (fun j s x hx => run_iff.1 hx) x h
    exact run_iff.2 ⟨n + 1, hn n (Nat.le_refl _)⟩
  cases ha : run P j s with
  | none =>
    cases hb : evF P (run P) j s with
    | none => rfl
    | some x => rw [h2 x hb] at ha; cases ha
  | some x => rw [h1 x ha]

/-- What it says is so. -/
theorem run_sound (hm : P.follows .mixedOrders = true) : RecOk P (run P) where
  code := fun fn round c s r h => let ⟨n, hn⟩ := run_iff.1 h; (ev_sound hm n).code fn round c s r hn
  loop := fun fn round c s r h => let ⟨n, hn⟩ := run_iff.1 h; (ev_sound hm n).loop fn round c s r hn
  scope := fun fn round c body s r h => let ⟨n, hn⟩ := run_iff.1 h; (ev_sound hm n).scope fn round c body s r hn
  call := fun f args s r h => let ⟨n, hn⟩ := run_iff.1 h; (ev_sound hm n).call f args s r hn
  ncall := fun f args s r h => let ⟨n, hn⟩ := run_iff.1 h; (ev_sound hm n).ncall f args s r hn
  yield := fun l args s r h => let ⟨n, hn⟩ := run_iff.1 h; (ev_sound hm n).yield l args s r hn
  defers := fun v s r h => let ⟨n, hn⟩ := run_iff.1 h; (ev_sound hm n).defers v s r hn

end Go.AM
