/- Regions that draw their order: whatever the order, the machine comes to where the evaluator comes; so the evaluator is right, without a condition but that the model mixes orders. -/
import Derived.Test.YtcplpfnieabelaaGreatDoorAmD
namespace Go.AM
variable {P : Program} {ι : Inj} {h : AHeap} {w : World}

/-! Regions that draw their order. -/
noncomputable def mkTr (f : Nat → Option ABlk) : Nat → Tr ABlk
  | 0 => .nil
  | n + 1 => Tr.put (f n) (mkTr f n) n

theorem get_mkTr (f : Nat → Option ABlk) : ∀ (n b : Nat), (mkTr f n).get b = if b < n then f b else none
  | 0, b => by simp [mkTr, Tr.get_nil]
  | n + 1, b => by
    rw [mkTr, Tr.get_put, get_mkTr f n]
    by_cases e : b = n
    · subst e; simp
    · by_cases h : b < n
      · rw [if_neg e, if_pos h, if_pos (by omega)]
      · rw [if_neg e, if_neg h, if_neg (by omega)]

/-- A memory with a given content. -/
noncomputable def mkHeap (f : Nat → Option ABlk) (n : Nat) : AHeap := ⟨mkTr f n, n⟩

theorem get_mkHeap (f : Nat → Option ABlk) (n b : Nat) : (mkHeap f n).get b = if b < n then f b else none := get_mkTr f n b

/-- Only the blocks with a lesser number. -/
def below (ι : Inj) (m : Nat) : Inj := fun b => if b < m then ι b else none

theorem below_le (ι : Inj) (m : Nat) : (below ι m).le ι := fun b L h => by
  unfold below at h
  split at h
  · exact h
  · cases h

theorem below_mono {m n : Nat} (h : m ≤ n) : (below ι m).le (below ι n) := fun b L hb => by
  unfold below at hb ⊢
  split at hb
  · rw [if_pos (by omega)]; exact hb
  · cases hb

theorem below_of {m b : Nat} {L : Loc} (hb : b < m) (h : ι b = some L) : below ι m b = some L := by
  unfold below; rw [if_pos hb]; exact h

theorem below_lt {m b : Nat} {L : Loc} (h : below ι m b = some L) : b < m ∧ ι b = some L := by
  unfold below at h
  split at h
  · rename_i hb; exact ⟨hb, h⟩
  · cases h

theorem below_le_below {κ : Inj} {m : Nat} (h : ι.le κ) : (below ι m).le (below κ m) := fun b L hb => by
  obtain ⟨h1, h2⟩ := below_lt hb
  exact below_of h1 (h _ _ h2)

/-- From one state to a later one, whatever the numbers of the blocks. -/
structure ExtV (ι : Inj) (h : AHeap) (w : World) (κ : Inj) (g : AHeap) (u : World) : Prop where
  le : ι.le κ
  size : w.heap.size ≤ u.heap.size
  kept : ∀ c, c < w.heap.size → ¬ Img ABlk.writable ι h c → u.heap[c]? = w.heap[c]?
  imgL : ∀ c, c < w.heap.size → Img ABlk.live κ g c → Img ABlk.live ι h c
  imgW : ∀ c, c < w.heap.size → Img ABlk.writable κ g c → Img ABlk.writable ι h c
  env : u.os = w.os ∧ u.output = w.output ∧ u.tape = w.tape

theorem ExtV.refl (ι : Inj) (h : AHeap) (w : World) : ExtV ι h w ι h w := ⟨ι.le_refl, Nat.le_refl _, fun _ _ _ => rfl, fun _ _ h => h, fun _ _ h => h, rfl, rfl, rfl⟩

theorem ExtV.trans {ι κ μ : Inj} {h g f : AHeap} {w u v : World} (a : ExtV ι h w κ g u) (b : ExtV κ g u μ f v) : ExtV ι h w μ f v where
  le := Inj.le_trans a.le b.le
  size := Nat.le_trans a.size b.size
  kept := fun c hc hn => by
    rw [b.kept c (Nat.lt_of_lt_of_le hc a.size) (fun hi => hn (a.imgW c hc hi)), a.kept c hc hn]
  imgL := fun c hc hi => a.imgL c hc (b.imgL c (Nat.lt_of_lt_of_le hc a.size) hi)
  imgW := fun c hc hi => a.imgW c hc (b.imgW c (Nat.lt_of_lt_of_le hc a.size) hi)
  env := ⟨b.env.1.trans a.env.1, b.env.2.1.trans a.env.2.1, b.env.2.2.trans a.env.2.2⟩

/-- The relation looks at a memory's content, where blocks are mapped. -/
theorem HR.same {h' : AHeap} (hh : HR ι h w) (hg : ∀ b L, ι b = some L → h'.get b = h.get b) (hn : ∀ b k, h'.get b = some k → b < h'.next) (hf : ∀ b, h'.next ≤ b → ι b = none) : HR ι h' w where
  blocks := fun b k L hk hL => hh.blocks b k L (by rw [← hg b L hL]; exact hk) hL
  bound := hh.bound
  apart := fun b b' L L' k k' hne hL hL' hk hk' => hh.apart b b' L L' k k' hne hL hL' (by rw [← hg b L hL]; exact hk) (by rw [← hg b' L' hL']; exact hk')
  next := hn
  fresh := hf

theorem Img.same {p : ABlk → Bool} {h' : AHeap} {c : Nat} (hg : ∀ b L, ι b = some L → h'.get b = h.get b) (hi : Img p ι h' c) : Img p ι h c := by
  obtain ⟨b, L, k, h1, h2, h3, h4⟩ := hi
  exact ⟨b, L, k, h1, by rw [← hg b L h1]; exact h2, h3, h4⟩

theorem ExtV.same {h' : AHeap} (hg : ∀ b L, ι b = some L → h'.get b = h.get b) : ExtV ι h w ι h' w :=
  ⟨ι.le_refl, Nat.le_refl _, fun _ _ _ => rfl, fun _ _ hi => hi.same hg, fun _ _ hi => hi.same hg, rfl, rfl, rfl⟩

/-- A part of the blocks. -/
theorem HR.restrict {h' : AHeap} {m : Nat} (hh : HR ι h w) (hm : h'.next = m) (hg : ∀ b L, b < m → ι b = some L → h'.get b = h.get b) (hn : ∀ b k, h'.get b = some k → b < m)
    (hb : ∀ b k L, b < m → h'.get b = some k → ι b = some L → BR (below ι m) L w.heap[L.blk]? k) : HR (below ι m) h' w where
  blocks := fun b k L hk hL => by
    obtain ⟨h1, h2⟩ := below_lt hL
    exact hb b k L h1 hk h2
  bound := fun b L hL => hh.bound b L (below_lt hL).2
  apart := fun b b' L L' k k' hne hL hL' hk hk' => by
    obtain ⟨h1, h2⟩ := below_lt hL
    obtain ⟨h3, h4⟩ := below_lt hL'
    exact hh.apart b b' L L' k k' hne h2 h4 (by rw [← hg b L h1 h2]; exact hk) (by rw [← hg b' L' h3 h4]; exact hk')
  next := by rw [hm]; exact hn
  fresh := fun b hb => by
    unfold below
    rw [if_neg (by omega)]

/-- A block of which the number was kept free is made late. -/
theorem late_new {b : Nat} {k : ABlk} {o : Obj} {u : World} {size extra : Nat} (hh : HR ι h w) (hb : ι b = none) (hlt : b < h.next) (hk0 : h.get b = some k) (hu : Pushed w u o)
    (hk : BR (ι.upd b ⟨w.heap.size, 0, size, extra⟩) ⟨w.heap.size, 0, size, extra⟩ (some o) k) :
    HR (ι.upd b ⟨w.heap.size, 0, size, extra⟩) h u ∧ ExtV ι h w (ι.upd b ⟨w.heap.size, 0, size, extra⟩) h u := by
  obtain ⟨⟨h1, h2, h3⟩, h4, h5, h6⟩ := hu
  have hle : ι.le (ι.upd b ⟨w.heap.size, 0, size, extra⟩) := Inj.upd_le hb
  have hcase : ∀ c L, ι.upd b ⟨w.heap.size, 0, size, extra⟩ c = some L → (c = b ∧ L = ⟨w.heap.size, 0, size, extra⟩) ∨ (c ≠ b ∧ ι c = some L) := by
    intro c L hc
    unfold Inj.upd at hc
    split at hc
    · rename_i e; cases hc; exact .inl ⟨e, rfl⟩
    · rename_i e; exact .inr ⟨e, hc⟩
  refine ⟨⟨?_, ?_, ?_, hh.next, ?_⟩, ⟨hle, by omega, fun c hc _ => h1 c hc, ?_, ?_, h4, h5, h6⟩⟩
  · intro c k' L hk' hL
    rcases hcase c L hL with ⟨rfl, rfl⟩ | ⟨hne, hL⟩
    · rw [hk0] at hk'; cases hk'
      simp only [h2]; exact hk
    · rw [h1 _ (hh.bound c L hL)]
      exact (hh.blocks c k' L hk' hL).mono hle
  · intro c L hL
    rcases hcase c L hL with ⟨rfl, rfl⟩ | ⟨hne, hL⟩
    · simp only; omega
    · have := hh.bound c L hL; omega
  · intro c c' L L' k1 k2 hne hL hL' hk1 hk2 hw hl
    rcases hcase c L hL with ⟨e1, e2⟩ | ⟨hn1, hA⟩
    · rcases hcase c' L' hL' with ⟨e3, e4⟩ | ⟨hn2, hB⟩
      · exact absurd (e1.trans e3.symm) hne
      · have := hh.bound c' L' hB; rw [e2]; simp only; omega
    · rcases hcase c' L' hL' with ⟨e3, e4⟩ | ⟨hn2, hB⟩
      · have := hh.bound c L hA; rw [e4]; simp only; omega
      · exact hh.apart c c' L L' k1 k2 hne hA hB hk1 hk2 hw hl
  · intro c hc
    unfold Inj.upd
    rw [if_neg (by omega)]
    exact hh.fresh c hc
  · rintro c hc ⟨x, L, k', hx, hk', hp, rfl⟩
    rcases hcase x L hx with ⟨rfl, rfl⟩ | ⟨hne, hx⟩
    · simp only at hc; omega
    · exact ⟨x, L, k', hx, hk', hp, rfl⟩
  · rintro c hc ⟨x, L, k', hx, hk', hp, rfl⟩
    rcases hcase x L hx with ⟨rfl, rfl⟩ | ⟨hne, hx⟩
    · simp only at hc; omega
    · exact ⟨x, L, k', hx, hk', hp, rfl⟩

/-- An early part and what an act made of the rest. -/
def merged (κ ι : Inj) (m : Nat) : Inj := fun b => if b < m then κ b else ι b

theorem merge_act {κ : Inj} {h0 g g' : AHeap} {u : World} {m m' : Nat} (hh : HR ι h w) (hm : h0.next = m) (hm' : g.next = m') (hg0 : ∀ b L, b < m → ι b = some L → h0.get b = h.get b) (hfree : ∀ b, m ≤ b → b < m' → ι b = none)
    (hk : HR κ g u) (hx : Ext (below ι m) h0 w κ g u) (hg1 : ∀ b, b < m' → g'.get b = g.get b) (hg2 : ∀ b, m' ≤ b → g'.get b = h.get b) (hn : g'.next = h.next) (hmn : m' ≤ h.next) :
    HR (merged κ ι m') g' u ∧ ExtV ι h w (merged κ ι m') g' u := by
  have hmm : m ≤ m' := by rw [← hm, ← hm']; exact hx.next
  have hcase : ∀ b L, merged κ ι m' b = some L → (b < m' ∧ κ b = some L) ∨ (m' ≤ b ∧ ι b = some L) := by
    intro b L hb
    unfold merged at hb
    split at hb
    · rename_i e; exact .inl ⟨e, hb⟩
    · rename_i e; exact .inr ⟨by omega, hb⟩
  have hle : ι.le (merged κ ι m') := by
    intro b L hb
    unfold merged
    split
    · rename_i e
      by_cases h2 : b < m
      · exact hx.le b L (below_of h2 hb)
      · rw [hfree b (by omega) e] at hb; cases hb
    · exact hb
  have hle2 : κ.le (merged κ ι m') := by
    intro b L hb
    unfold merged
    split
    · exact hb
    · rename_i e
      rw [hk.fresh b (by omega)] at hb; cases hb
  -- rows of the early part are none of the rest's
  have himg : ∀ (p : ABlk → Bool) c, Img p (below ι m) h0 c → Img p ι h c := by
    rintro p c ⟨b, L, k, h1, h2, h3, h4⟩
    obtain ⟨h5, h6⟩ := below_lt h1
    exact ⟨b, L, k, h6, by rw [← hg0 b L h5 h6]; exact h2, h3, h4⟩
  have hlow : ∀ (p : ABlk → Bool) c, Img p (below ι m) h0 c → ∃ b L k, b < m ∧ ι b = some L ∧ h.get b = some k ∧ p k = true ∧ L.blk = c := by
    rintro p c ⟨b, L, k, h1, h2, h3, h4⟩
    obtain ⟨h5, h6⟩ := below_lt h1
    exact ⟨b, L, k, h5, h6, by rw [← hg0 b L h5 h6]; exact h2, h3, h4⟩
  have hkeep : ∀ b L k, m' ≤ b → ι b = some L → h.get b = some k → k.live = true → u.heap[L.blk]? = w.heap[L.blk]? := by
    intro b L k hb hL hkb hlv
    refine hx.kept _ (hh.bound b L hL) fun hi => ?_
    obtain ⟨b', L', k', h1, h2, h3, h4, h5⟩ := hlow _ _ hi
    exact hh.apart b' b L' L k' k (by omega) h2 hL h3 hkb h4 hlv h5
  refine ⟨⟨?_, ?_, ?_, ?_, ?_⟩, ⟨hle, hx.size, ?_, ?_, ?_, hx.env⟩⟩
  · intro b k L hb hL
    rcases hcase b L hL with ⟨h1, h2⟩ | ⟨h1, h2⟩
    · rw [hg1 b h1] at hb
      exact (hk.blocks b k L hb h2).mono hle2
    · rw [hg2 b h1] at hb
      cases hlv : k.live with
      | true => rw [hkeep b L k h1 h2 hb hlv]; exact (hh.blocks b k L hb h2).mono hle
      | false =>
        cases k with
        | dead => trivial
        | cells => simp [ABlk.live] at hlv
        | map => simp [ABlk.live] at hlv
        | loop => simp [ABlk.live] at hlv
        | deferred => simp [ABlk.live] at hlv
        | iter => simp [ABlk.live] at hlv
  · intro b L hL
    rcases hcase b L hL with ⟨h1, h2⟩ | ⟨h1, h2⟩
    · exact hk.bound b L h2
    · exact Nat.lt_of_lt_of_le (hh.bound b L h2) hx.size
  · intro b b' L L' k k' hne hL hL' hb hb' hw hl e
    rcases hcase b L hL with ⟨h1, h2⟩ | ⟨h1, h2⟩
    · rw [hg1 b h1] at hb
      rcases hcase b' L' hL' with ⟨h3, h4⟩ | ⟨h3, h4⟩
      · rw [hg1 b' h3] at hb'
        exact hk.apart b b' L L' k k' hne h2 h4 hb hb' hw hl e
      · rw [hg2 b' h3] at hb'
        obtain ⟨x, M, kx, y1, y2, y3, y4, y5⟩ := hlow _ _ (hx.imgW L.blk (by rw [e]; exact hh.bound b' L' h4) ⟨b, L, k, h2, hb, hw, rfl⟩)
        exact hh.apart x b' M L' kx k' (by omega) y2 h4 y3 hb' y4 hl (y5.trans e)
    · rw [hg2 b h1] at hb
      rcases hcase b' L' hL' with ⟨h3, h4⟩ | ⟨h3, h4⟩
      · rw [hg1 b' h3] at hb'
        obtain ⟨x, M, kx, y1, y2, y3, y4, y5⟩ := hlow _ _ (hx.imgL L'.blk (by rw [← e]; exact hh.bound b L h2) ⟨b', L', k', h4, hb', hl, rfl⟩)
        exact hh.apart b x L M k kx (by omega) h2 y2 hb y3 hw y4 (e.trans y5.symm)
      · rw [hg2 b' h3] at hb'
        exact hh.apart b b' L L' k k' hne h2 h4 hb hb' hw hl e
  · intro b k hb
    by_cases h1 : b < m'
    · rw [hn]; omega
    · rw [hg2 b (by omega)] at hb
      rw [hn]; exact hh.next b k hb
  · intro b hb
    unfold merged
    rw [if_neg (by omega)]
    exact hh.fresh b (by omega)
  · intro c hc hni
    exact hx.kept c hc fun hi => hni (himg _ _ hi)
  · rintro c hc ⟨b, L, k, hL, hb, hp, rfl⟩
    rcases hcase b L hL with ⟨h1, h2⟩ | ⟨h1, h2⟩
    · rw [hg1 b h1] at hb
      exact himg _ _ (hx.imgL _ hc ⟨b, L, k, h2, hb, hp, rfl⟩)
    · rw [hg2 b h1] at hb
      exact ⟨b, L, k, h2, hb, hp, rfl⟩
  · rintro c hc ⟨b, L, k, hL, hb, hp, rfl⟩
    rcases hcase b L hL with ⟨h1, h2⟩ | ⟨h1, h2⟩
    · rw [hg1 b h1] at hb
      exact himg _ _ (hx.imgW _ hc ⟨b, L, k, h2, hb, hp, rfl⟩)
    · rw [hg2 b h1] at hb
      exact ⟨b, L, k, h2, hb, hp, rfl⟩

end Go.AM

namespace Go.AM
variable {P : Program} {ι : Inj} {h : AHeap} {w : World}

/-! What a drawn region's evaluation tells. -/
theorem readApart_spec {bi : Nat} {o : Op} {s : ASt} : ∀ {l : List (Nat × ASt)}, readApart P bi o s l = true → ∀ x ∈ l, bi.testBit x.1 = false → sameRead P o s x.2.h = true
  | [], _, x, hx, _ => by cases hx
  | y :: l, he, x, hx, hb => by
    have he' : Bool.rec (motive := fun _ => Bool) (Bool.rec (motive := fun _ => Bool) false (readApart P bi o s l) (sameRead P o s y.2.h)) (readApart P bi o s l) (Nat.testBit bi y.1) = true := he
    cases hx with
    | head =>
      rw [hb] at he'
      cases hs : sameRead P o s y.2.h with
      | true => rfl
      | false => rw [hs] at he'; cases he'
    | tail _ hx =>
      refine readApart_spec (l := l) ?_ x hx hb
      cases hy : Nat.testBit bi y.1 with
      | true => rw [hy] at he'; exact he'
      | false =>
        rw [hy] at he'
        cases hs : sameRead P o s y.2.h with
        | true => rw [hs] at he'; exact he'
        | false => rw [hs] at he'; cases he'

theorem readsApart_spec {bi : Nat} {h : AHeap} : ∀ {l : List (Nat × Op × ASt)}, readsApart P bi h l = true → ∀ x ∈ l, bi.testBit x.1 = false → sameRead P x.2.1 x.2.2 h = true
  | [], _, x, hx, _ => by cases hx
  | y :: l, he, x, hx, hb => by
    have he' : Bool.rec (motive := fun _ => Bool) (Bool.rec (motive := fun _ => Bool) false (readsApart P bi h l) (sameRead P y.2.1 y.2.2 h)) (readsApart P bi h l) (Nat.testBit bi y.1) = true := he
    cases hx with
    | head =>
      rw [hb] at he'
      cases hs : sameRead P y.2.1 y.2.2 h with
      | true => rfl
      | false => rw [hs] at he'; cases he'
    | tail _ hx =>
      refine readsApart_spec (l := l) ?_ x hx hb
      cases hy : Nat.testBit bi y.1 with
      | true => rw [hy] at he'; exact he'
      | false =>
        rw [hy] at he'
        cases hs : sameRead P y.2.1 y.2.2 h with
        | true => rw [hs] at he'; exact he'
        | false => rw [hs] at he'; cases he'

theorem actsTied_spec {bi : Nat} : ∀ {l : List (Nat × ASt)}, actsTied bi l = true → ∀ x ∈ l, bi.testBit x.1 = true
  | [], _, x, hx => by cases hx
  | y :: l, he, x, hx => by
    have he' : Bool.rec (motive := fun _ => Bool) false (actsTied bi l) (Nat.testBit bi y.1) = true := he
    have hy : Nat.testBit bi y.1 = true := by
      cases hy : Nat.testBit bi y.1 with
      | true => rfl
      | false => rw [hy] at he'; cases he'
    rw [hy] at he'
    cases hx with
    | head => exact hy
    | tail _ hx => exact actsTied_spec (l := l) he' x hx

theorem evIf_spec {r : Option Ans} {b : Bool} {a : Ans} (h : evIf r b = some a) : b = true ∧ r = some a := by
  cases b with
  | false => cases h
  | true => exact ⟨rfl, h⟩

structure Step1 (P : Program) (ops : Array Oper) (round : Option Nat) (o : Oper) (s s' : ASt) (v : AV) (w : Bool) : Prop where
  want : awanted ops s.regs o.guard = some w
  regs : (o.dst = none ∧ s'.regs = s.regs) ∨ ∃ d, o.dst = some d ∧ d < s.size ∧ s'.regs = Tr.put (some v) s.regs d
  size : s'.size = s.size
  skip : w = false → v = undef ∧ s'.h = s.h ∧ s'.defs = s.defs ∧ s'.pan = s.pan
  calm : w = true → (opClass P o.op = .still ∨ opClass P o.op = .reads) → aexec o.op P s.regs s.h = .val v s'.h ∧ s'.defs = s.defs ∧ s'.pan = s.pan
  act : w = true → OpOk P o round s v s'.h s'.defs s'.pan

/-- How the record of what was done goes on. -/
def DoneStep (P : Program) (bi i : Nat) (o : Oper) (s s' : ASt) (w : Bool) (done done' : Done) : Prop :=
  match w, opClass P o.op with
  | false, _ => done' = done
  | true, .still => done' = done
  | true, .reads => done' = ⟨(i, o.op, s) :: done.reads, done.acts⟩ ∧ readApart P bi o.op s done.acts = true
  | true, .acts => done' = ⟨done.reads, (i, s) :: done.acts⟩ ∧ actsTied bi done.acts = true ∧ readsApart P bi s'.h done.reads = true ∧ s.h.next ≤ s'.h.next

theorem evDrawn_step {rec : Job → ASt → Option Ans} (hrec : RecOk P rec) {round : Option Nat} {ops : Array Oper} {o : Oper} {bi i : Nat} {next : Nat → Done → ASt → Option Ans} {done : Done} {s : ASt} {r : Ans}
    (he : evDrawn P rec round ops o bi next i done s = some r) :
    ∃ s' v w done', next (i + 1) done' s' = some r ∧ Step1 P ops round o s s' v w ∧ DoneStep P bi i o s s' w done done' := by
  unfold evDrawn evWhether at he
  cases haw : awanted ops s.regs o.guard with
  | none => rw [haw] at he; cases he
  | some c =>
    rw [haw] at he
    cases c with
    | false =>
      change evSkip (next (i + 1) done) o s = some r at he
      obtain ⟨regs', h1, h2⟩ := putK_spec he
      exact ⟨_, undef, false, done, h1, ⟨haw, h2, rfl, fun _ => ⟨rfl, rfl, rfl, rfl⟩, fun h => (by cases h), fun h => (by cases h)⟩, rfl⟩
    | true =>
      change evOp P rec (evDrawnNext P next bi i o.op done s) noPanic round o s = some r at he
      -- what the operation's class says
      have hcalm : (opClass P o.op = .still ∨ opClass P o.op = .reads) → ∃ v g, aexec o.op P s.regs s.h = .val v g := by
        intro hc
        rcases valR_still (regs := s.regs) (h := s.h) hc with hx | ⟨v, g, hx⟩
        · unfold evOp evOut at he
          rw [hx] at he
          cases he
        · exact ⟨v, g, hx⟩
      have key : ∃ v h' defs' pan', putK (evDrawnNext P next bi i o.op done s) s.regs s.size defs' pan' h' v o.dst = some r ∧ OpOk P o round s v h' defs' pan' ∧
          ((opClass P o.op = .still ∨ opClass P o.op = .reads) → aexec o.op P s.regs s.h = .val v h' ∧ defs' = s.defs ∧ pan' = s.pan) := by
        by_cases hc : opClass P o.op = .still ∨ opClass P o.op = .reads
        · obtain ⟨v, g, hx⟩ := hcalm hc
          have he2 := he
          unfold evOp evOut at he2
          rw [hx] at he2
          refine ⟨v, g, s.defs, s.pan, he2, ?_, fun _ => ⟨hx, rfl, rfl⟩⟩
          intro ops i rest b tm ds cs k ι w ha
          have nd : ∀ c, o.op ≠ .defer c := by
            intro c hcd
            rw [hcd] at hc
            rcases hc with hc | hc <;> cases hc
          have hs := aexec_sound' (w := w) o ha.operands ha.heap
          rw [hx] at hs
          obtain ⟨κ, u, v', h1, h2, h3, h4⟩ := hs
          exact ⟨κ, v', ds, u, h2, h3, h4, ha.defs.mono h4.le, ha.pan.mono h4.le, .one (on_value ha.op ha.wanted (.inr nd) h1)⟩
        · rcases evOp_sound hrec he with ⟨v, h', defs', pan', h1, h2⟩ | ⟨p, h', h1, _⟩
          · exact ⟨v, h', defs', pan', h1, h2, fun h => absurd h hc⟩
          · cases h1
      obtain ⟨v, h', defs', pan', h1, h2, h3⟩ := key
      obtain ⟨regs', h4, h5⟩ := putK_spec h1
      have hstep : Step1 P ops round o s ⟨regs', s.size, defs', pan', h'⟩ v true := ⟨haw, h5, rfl, fun h => (by cases h), fun _ => h3, fun _ => h2⟩
      unfold evDrawnNext at h4
      cases hc : opClass P o.op with
      | still =>
        rw [hc] at h4
        exact ⟨_, v, true, done, h4, hstep, by simp only [DoneStep, hc]⟩
      | reads =>
        rw [hc] at h4
        obtain ⟨h6, h7⟩ := evIf_spec h4
        exact ⟨_, v, true, _, h7, hstep, by simp only [DoneStep, hc]; exact ⟨trivial, h6⟩⟩
      | acts =>
        rw [hc] at h4
        obtain ⟨h6, h7⟩ := evIf_spec h4
        obtain ⟨h8, h9⟩ := evIf_spec h7
        obtain ⟨h10, h11⟩ := evIf_spec h9
        exact ⟨_, v, true, _, h11, hstep, by simp only [DoneStep, hc]; exact ⟨trivial, h8, h6, Nat.le_of_ble_eq_true h10⟩⟩

/-- What is known of the region's step at a place. -/
def TraceAt (P : Program) (ops : Array Oper) (round : Option Nat) (l : List (Oper × Nat)) (i : Nat) (done : Done) (S : Nat → ASt) (V : Nat → AV) (W : Nat → Bool) (k : Nat) (o : Oper) (bi : Nat) : Prop :=
  Step1 P ops round o (S (i + k)) (S (i + k + 1)) (V (i + k)) (W (i + k)) ∧
  (W (i + k) = true → opClass P o.op = .reads →
    (∀ x ∈ done.acts, bi.testBit x.1 = false → sameRead P o.op (S (i + k)) x.2.h = true) ∧
    ∀ k' o' b', k' < k → l[k']? = some (o', b') → W (i + k') = true → opClass P o'.op = .acts → bi.testBit (i + k') = false → sameRead P o.op (S (i + k)) (S (i + k')).h = true) ∧
  (W (i + k) = true → opClass P o.op = .acts →
    (∀ x ∈ done.acts, bi.testBit x.1 = true) ∧ (∀ k' o' b', k' < k → l[k']? = some (o', b') → W (i + k') = true → opClass P o'.op = .acts → bi.testBit (i + k') = true) ∧
    (∀ x ∈ done.reads, bi.testBit x.1 = false → sameRead P x.2.1 x.2.2 (S (i + k + 1)).h = true) ∧
    ∀ k' o' b', k' < k → l[k']? = some (o', b') → W (i + k') = true → opClass P o'.op = .reads → bi.testBit (i + k') = false → sameRead P o'.op (S (i + k')) (S (i + k + 1)).h = true) ∧
  (W (i + k) = true → opClass P o.op = .acts → (S (i + k)).h.next ≤ (S (i + k + 1)).h.next)

theorem trace_fun {rec : Job → ASt → Option Ans} (hrec : RecOk P rec) {round : Option Nat} {ops : Array Oper} : ∀ (l : List (Oper × Nat)) (i : Nat) (done : Done) (s : ASt) (r : Ans), evDrawnL P rec round ops l i done s = some r →
    ∃ (S : Nat → ASt) (V : Nat → AV) (W : Nat → Bool), S i = s ∧ r = (.norm, undef, S (i + l.length)) ∧ ∀ k o bi, l[k]? = some (o, bi) → TraceAt P ops round l i done S V W k o bi
  | [], i, done, s, r, he => by
    have he' : some (AEx.norm, undef, s) = some r := he
    cases he'
    exact ⟨fun _ => s, fun _ => undef, fun _ => false, rfl, rfl, fun k o bi hk => by simp at hk⟩
  | (o, bi) :: l, i, done, s, r, he => by
    obtain ⟨s', v, w, done', h1, h2, h3⟩ := evDrawn_step (next := evDrawnL P rec round ops l) hrec he
    obtain ⟨S, V, W, e1, e2, e3⟩ := trace_fun hrec l (i + 1) done' s' r h1
    refine ⟨fun j => if j = i then s else S j, fun j => if j = i then v else V j, fun j => if j = i then w else W j, by simp, ?_, ?_⟩
    · rw [e2]
      simp only [List.length_cons]
      rw [if_neg (by omega), show i + (l.length + 1) = i + 1 + l.length from by omega]
    · intro k o' bi' hk
      cases k with
      | zero =>
        simp only [List.getElem?_cons_zero, Option.some.injEq, Prod.mk.injEq] at hk
        obtain ⟨rfl, rfl⟩ := hk
        unfold TraceAt
        simp only [Nat.add_zero, if_true]
        rw [if_neg (show ¬ i + 1 = i from by omega), e1]
        refine ⟨h2, ?_, ?_, ?_⟩
        · intro hw hc
          subst hw
          simp only [DoneStep, hc] at h3
          exact ⟨readApart_spec h3.2, fun k' _ _ hk' => absurd hk' (by omega)⟩
        · intro hw hc
          subst hw
          simp only [DoneStep, hc] at h3
          exact ⟨actsTied_spec h3.2.1, fun k' _ _ hk' => absurd hk' (by omega), readsApart_spec h3.2.2.1, fun k' _ _ hk' => absurd hk' (by omega)⟩
        · intro hw hc
          subst hw
          simp only [DoneStep, hc] at h3
          exact h3.2.2.2
      | succ k =>
        simp only [List.getElem?_cons_succ] at hk
        obtain ⟨a1, a2, a3, a4⟩ := e3 k o' bi' hk
        have ej : ∀ j, i + (j + 1) = i + 1 + j := fun j => by omega
        -- what was recorded at the head
        have hacts : ∀ x ∈ done.acts, x ∈ done'.acts := by
          intro x hx
          unfold DoneStep at h3
          split at h3 <;> first
            | (rw [h3]; exact hx)
            | (rw [h3.1]; first | exact hx | exact List.mem_cons_of_mem _ hx)
        have hreads : ∀ x ∈ done.reads, x ∈ done'.reads := by
          intro x hx
          unfold DoneStep at h3
          split at h3 <;> first
            | (rw [h3]; exact hx)
            | (rw [h3.1]; first | exact hx | exact List.mem_cons_of_mem _ hx)
        have hact0 : w = true → opClass P o.op = .acts → (i, s) ∈ done'.acts := by
          intro hw hc
          subst hw
          simp only [DoneStep, hc] at h3
          rw [h3.1]; exact List.mem_cons_self
        have hread0 : w = true → opClass P o.op = .reads → (i, o.op, s) ∈ done'.reads := by
          intro hw hc
          subst hw
          simp only [DoneStep, hc] at h3
          rw [h3.1]; exact List.mem_cons_self
        unfold TraceAt
        rw [ej k]
        dsimp only
        rw [if_neg (show ¬ i + 1 + k = i from by omega), if_neg (show ¬ i + 1 + k + 1 = i from by omega), if_neg (show ¬ i + 1 + k = i from by omega), if_neg (show ¬ i + 1 + k = i from by omega)]
        refine ⟨a1, ?_, ?_, a4⟩
        · intro hw hc
          obtain ⟨b1, b2⟩ := a2 hw hc
          refine ⟨fun x hx => b1 x (hacts x hx), ?_⟩
          intro k' o2 b2' hk' hl hw' hc' hbit
          cases k' with
          | zero =>
            simp only [List.getElem?_cons_zero, Option.some.injEq, Prod.mk.injEq] at hl
            obtain ⟨rfl, rfl⟩ := hl
            simp only [Nat.add_zero, if_true] at hw' hbit ⊢
            exact b1 (i, s) (hact0 hw' hc') hbit
          | succ k' =>
            simp only [List.getElem?_cons_succ] at hl
            rw [ej k'] at hw' hbit ⊢
            rw [if_neg (show ¬ i + 1 + k' = i from by omega)] at hw' ⊢
            exact b2 k' o2 b2' (by omega) hl hw' hc' hbit
        · intro hw hc
          obtain ⟨b1, b2, b3, b4⟩ := a3 hw hc
          refine ⟨fun x hx => b1 x (hacts x hx), ?_, fun x hx => b3 x (hreads x hx), ?_⟩
          · intro k' o2 b2' hk' hl hw' hc'
            cases k' with
            | zero =>
              simp only [List.getElem?_cons_zero, Option.some.injEq, Prod.mk.injEq] at hl
              obtain ⟨rfl, rfl⟩ := hl
              simp only [Nat.add_zero, if_true] at hw' ⊢
              exact b1 (i, s) (hact0 hw' hc')
            | succ k' =>
              simp only [List.getElem?_cons_succ] at hl
              rw [ej k'] at hw' ⊢
              rw [if_neg (show ¬ i + 1 + k' = i from by omega)] at hw'
              exact b2 k' o2 b2' (by omega) hl hw' hc'
          · intro k' o2 b2' hk' hl hw' hc' hbit
            cases k' with
            | zero =>
              simp only [List.getElem?_cons_zero, Option.some.injEq, Prod.mk.injEq] at hl
              obtain ⟨rfl, rfl⟩ := hl
              simp only [Nat.add_zero, if_true] at hw' hbit ⊢
              exact b3 (i, o.op, s) (hread0 hw' hc') hbit
            | succ k' =>
              simp only [List.getElem?_cons_succ] at hl
              rw [ej k'] at hw' hbit ⊢
              rw [if_neg (show ¬ i + 1 + k' = i from by omega)] at hw' ⊢
              exact b4 k' o2 b2' (by omega) hl hw' hc' hbit

end Go.AM

namespace Go.AM
variable {P : Program} {ι : Inj} {h : AHeap} {w : World}

theorem bytes_eq {a b : ByteArray} (h : (a == b) = true) : a = b := by
  have : (a.data == b.data) = true := h
  exact ByteArray.ext (eq_of_beq this)

mutual
theorem AV.beq_eq : ∀ (a b : AV), a.beq b = true → a = b
  | .bool a, b, h => by cases b <;> simp [AV.beq] at h; rw [h]
  | .int k a, b, h => by cases b <;> simp [AV.beq] at h; rw [h.1, h.2]
  | .str a, b, h => by cases b <;> simp [AV.beq] at h; rw [bytes_eq h]
  | .nilp, b, h => by cases b <;> simp [AV.beq] at h; rfl
  | .ptr a c, b, h => by cases b <;> simp [AV.beq] at h; rw [h.1, h.2]
  | .nils, b, h => by cases b <;> simp [AV.beq] at h; rfl
  | .slice a c d e f, b, h => by
    cases b <;> simp [AV.beq] at h
    obtain ⟨⟨⟨⟨h1, h2⟩, h3⟩, h4⟩, h5⟩ := h
    rw [h1, h2, h3, h4, h5]
  | .nilm, b, h => by cases b <;> simp [AV.beq] at h; rfl
  | .map a, b, h => by cases b <;> simp [AV.beq] at h; rw [h]
  | .nilf, b, h => by cases b <;> simp [AV.beq] at h; rfl
  | .fn f x y, b, h => by
    cases b <;> simp [AV.beq] at h
    obtain ⟨⟨h1, h2⟩, h3⟩ := h
    rw [h1, AV.beqs_eq _ _ h2, AV.beqs_eq _ _ h3]
  | .yield a, b, h => by cases b <;> simp [AV.beq] at h; rw [h]
  | .any k, b, h => by cases b <;> simp [AV.beq] at h; rw [h]
  | .niface, b, h => by cases b <;> simp [AV.beq] at h; rfl
  | .iface t v, b, h => by
    cases b <;> simp [AV.beq] at h
    rw [h.1, AV.beq_eq _ _ h.2]
  | .agg a, b, h => by
    cases b <;> simp [AV.beq] at h
    rw [AV.beqs_eq _ _ h]
  | .tup a, b, h => by
    cases b <;> simp [AV.beq] at h
    rw [AV.beqs_eq _ _ h]
theorem AV.beqs_eq : ∀ (a b : List AV), AV.beqs a b = true → a = b
  | [], [], _ => rfl
  | [], _ :: _, h => by simp [AV.beqs] at h
  | _ :: _, [], h => by simp [AV.beqs] at h
  | a :: x, b :: y, h => by
    simp [AV.beqs] at h
    rw [AV.beq_eq _ _ h.1, AV.beqs_eq _ _ h.2]
end

theorem sameRead_spec {o : Op} {s : ASt} {g g' : AHeap} {v : AV} (hs : sameRead P o s g = true) (he : aexec o P s.regs s.h = .val v g') : ∃ g2, aexec o P s.regs g = .val v g2 := by
  unfold sameRead at hs
  rw [he] at hs
  simp only [sameVal] at hs
  split at hs
  · rename_i v' g2 hx
    rw [AV.beq_eq _ _ hs]
    exact ⟨g2, hx⟩
  · cases hs

/-! What must be done before: closed under its own grounds. -/
def stepBefore (acc : Array Nat) (o : Oper) : Array Nat :=
  acc.push (o.after.foldl (fun s e => if Region.binds .any e then s ||| 2 ^ e.on ||| acc.getD e.on 0 else s) 0)

theorem before_eq (ops : Array Oper) : Region.before ops = ops.toList.foldl stepBefore #[] := by
  unfold Region.before
  rw [← Array.foldl_toList]
  rfl

theorem bits_after (acc : Array Nat) : ∀ (l : List Edge) (s : Nat) (j : Nat),
    (l.foldl (fun s e => if Region.binds .any e then s ||| 2 ^ e.on ||| acc.getD e.on 0 else s) s).testBit j = true ↔
      s.testBit j = true ∨ ∃ e ∈ l, Region.binds .any e = true ∧ (j = e.on ∨ (acc.getD e.on 0).testBit j = true)
  | [], s, j => by simp
  | e :: l, s, j => by
    rw [List.foldl_cons, bits_after acc l]
    by_cases hb : Region.binds .any e = true
    · rw [if_pos hb]
      simp only [Nat.testBit_or, Nat.testBit_two_pow, Bool.or_eq_true, decide_eq_true_eq, List.mem_cons, exists_eq_or_imp, hb, true_and]
      constructor
      · rintro (((h | h) | h) | h)
        · exact .inl h
        · exact .inr (.inl (.inl h.symm))
        · exact .inr (.inl (.inr h))
        · exact .inr (.inr h)
      · rintro (h | (h | h) | h)
        · exact .inl (.inl (.inl h))
        · exact .inl (.inl (.inr h.symm))
        · exact .inl (.inr h)
        · exact .inr h
    · rw [if_neg hb]
      simp only [List.mem_cons, exists_eq_or_imp, hb, Bool.false_eq_true, false_and, false_or]

end Go.AM

namespace Go.AM
variable {P : Program} {ι : Inj} {h : AHeap} {w : World}

theorem stepBefore_size (acc : Array Nat) (o : Oper) : (stepBefore acc o).size = acc.size + 1 := by simp [stepBefore]

theorem foldBefore_size : ∀ (l : List Oper) (acc : Array Nat), (l.foldl stepBefore acc).size = acc.size + l.length
  | [], acc => by simp
  | o :: l, acc => by rw [List.foldl_cons, foldBefore_size l, stepBefore_size, List.length_cons]; omega

theorem foldBefore_old : ∀ (l : List Oper) (acc : Array Nat) (i : Nat), i < acc.size → (l.foldl stepBefore acc)[i]? = acc[i]?
  | [], _, _, _ => rfl
  | o :: l, acc, i, hi => by
    rw [List.foldl_cons, foldBefore_old l _ i (by rw [stepBefore_size]; omega)]
    simp only [stepBefore]
    rw [Array.getElem?_push_lt hi]
    simp [hi]

/-- A set that is closed under the grounds of its operations holds all that must be done before. -/
theorem foldBefore_closed (E : Nat → Prop) : ∀ (l : List Oper) (acc : Array Nat),
    (∀ k o, l[k]? = some o → E (acc.size + k) → ∀ e ∈ o.after, Region.binds .any e = true → E e.on) →
    (∀ i b, acc[i]? = some b → E i → ∀ j, b.testBit j = true → E j) →
    ∀ i b, (l.foldl stepBefore acc)[i]? = some b → E i → ∀ j, b.testBit j = true → E j
  | [], acc, _, h2, i, b, hb, hE, j, hj => h2 i b hb hE j hj
  | o :: l, acc, h1, h2, i, b, hb, hE, j, hj => by
    rw [List.foldl_cons] at hb
    refine foldBefore_closed E l (stepBefore acc o) ?_ ?_ i b hb hE j hj
    · intro k o' hk hE' e he hbe
      refine h1 (k + 1) o' (by simpa using hk) ?_ e he hbe
      rw [stepBefore_size] at hE'
      rw [show acc.size + (k + 1) = acc.size + 1 + k from by omega]
      exact hE'
    · intro i b hb hE j hj
      by_cases hi : i < acc.size
      · refine h2 i b ?_ hE j hj
        rw [← hb]
        simp only [stepBefore]
        rw [Array.getElem?_push_lt hi]
        simp [hi]
      · have hi2 : i = acc.size := by
          have := (Array.getElem?_eq_some_iff.1 hb).1
          rw [stepBefore_size] at this
          omega
        subst hi2
        simp only [stepBefore, Array.getElem?_push_size, Option.some.injEq] at hb
        subst hb
        rw [← Array.foldl_toList] at hj
        rcases (bits_after acc _ _ _).1 hj with h | ⟨e, he, hbe, h⟩
        · simp at h
        · have hon : E e.on := h1 0 o rfl (by simpa using hE) e (Array.mem_toList_iff.1 he) hbe
          rcases h with rfl | h
          · exact hon
          · cases hg : acc[e.on]? with
            | none => simp [hg] at h
            | some b2 => exact h2 e.on b2 hg hon j (by simpa [hg] using h)

theorem before_closed {ops : Array Oper} {E : Nat → Prop} (hE : ∀ k o, ops[k]? = some o → E k → ∀ e ∈ o.after, Region.binds .any e = true → E e.on) {i b j : Nat} (hb : (Region.before ops)[i]? = some b) (hi : E i)
    (hj : b.testBit j = true) : E j := by
  rw [before_eq] at hb
  exact foldBefore_closed E ops.toList #[] (fun k o hk hEk => hE k o (by simpa using hk) (by simpa using hEk)) (by simp) i b hb hi j hj

theorem before_size (ops : Array Oper) : (Region.before ops).size = ops.size := by
  rw [before_eq, foldBefore_size]; simp

/-- An operation's own grounds are among what must be done before. -/
theorem foldBefore_own : ∀ (l : List Oper) (acc : Array Nat) (k : Nat) (o : Oper), l[k]? = some o → ∃ b, (l.foldl stepBefore acc)[acc.size + k]? = some b ∧ ∀ e ∈ o.after, Region.binds .any e = true → b.testBit e.on = true
  | [], _, _, _, h => by simp at h
  | o :: l, acc, 0, o', h => by
    simp only [List.getElem?_cons_zero, Option.some.injEq] at h
    subst h
    rw [List.foldl_cons, foldBefore_old l _ _ (by rw [stepBefore_size]; omega)]
    refine ⟨_, by simp only [stepBefore, Nat.add_zero, Array.getElem?_push_size]; rfl, ?_⟩
    intro e he hb
    rw [← Array.foldl_toList]
    exact (bits_after acc _ _ _).2 (.inr ⟨e, Array.mem_toList_iff.2 he, hb, .inl rfl⟩)
  | o :: l, acc, k + 1, o', h => by
    rw [List.foldl_cons]
    obtain ⟨b, h1, h2⟩ := foldBefore_own l (stepBefore acc o) k o' (by simpa using h)
    rw [stepBefore_size, show acc.size + 1 + k = acc.size + (k + 1) from by omega] at h1
    exact ⟨b, h1, h2⟩

theorem before_own {ops : Array Oper} {k : Nat} {o : Oper} (ho : ops[k]? = some o) : ∃ b, (Region.before ops)[k]? = some b ∧ ∀ e ∈ o.after, Region.binds .any e = true → b.testBit e.on = true := by
  obtain ⟨b, h1, h2⟩ := foldBefore_own ops.toList #[] k o (by simpa using ho)
  rw [before_eq]
  exact ⟨b, by simpa using h1, h2⟩

end Go.AM

namespace Go.AM
variable {P : Program} {ι : Inj} {h : AHeap} {w : World}

theorem writersOf_spec : ∀ (l : List (Oper × Nat)) (i : Nat) (t w : Tr (Nat × Nat)), writersOf l i t = some w →
    (∀ d x, t.get d = some x → w.get d = some x) ∧ (∀ k o b d, l[k]? = some (o, b) → o.dst = some d → w.get d = some (i + k, b))
  | [], i, t, w, he => by
    have : some t = some w := he
    cases this
    exact ⟨fun _ _ h => h, fun k o b d hk => by simp at hk⟩
  | (o, b) :: l, i, t, w, he => by
    have he' : (match o.dst with
      | none => writersOf l (i + 1) t
      | some d => match t.get d with
        | none => writersOf l (i + 1) (Tr.put (some (i, b)) t d)
        | some _ => none) = some w := he
    cases hd : o.dst with
    | none =>
      rw [hd] at he'
      obtain ⟨h1, h2⟩ := writersOf_spec l (i + 1) t w he'
      refine ⟨h1, fun k o' b' d hk hd' => ?_⟩
      cases k with
      | zero =>
        simp only [List.getElem?_cons_zero, Option.some.injEq, Prod.mk.injEq] at hk
        obtain ⟨rfl, rfl⟩ := hk
        rw [hd] at hd'; cases hd'
      | succ k =>
        rw [h2 k o' b' d (by simpa using hk) hd', show i + 1 + k = i + (k + 1) from by omega]
    | some d0 =>
      rw [hd] at he'
      cases ht : t.get d0 with
      | some x => simp only [ht] at he'; cases he'
      | none =>
        simp only [ht] at he'
        obtain ⟨h1, h2⟩ := writersOf_spec l (i + 1) _ w he'
        refine ⟨fun d x hx => h1 d x ?_, fun k o' b' d hk hd' => ?_⟩
        · rw [Tr.get_put, if_neg (fun e => by subst e; rw [ht] at hx; cases hx)]
          exact hx
        · cases k with
          | zero =>
            simp only [List.getElem?_cons_zero, Option.some.injEq, Prod.mk.injEq] at hk
            obtain ⟨rfl, rfl⟩ := hk
            rw [hd] at hd'; cases hd'
            exact h1 d0 (i, b) (by rw [Tr.get_put, if_pos rfl])
          | succ k =>
            rw [h2 k o' b' d (by simpa using hk) hd', show i + 1 + k = i + (k + 1) from by omega]

theorem slotsTied_spec {w : Tr (Nat × Nat)} {i bi : Nat} : ∀ {l : List Tmp}, slotsTied w i bi l = true → ∀ t ∈ l, slotTied i bi (w.get t) = true
  | [], _, t, h => by cases h
  | a :: l, he, t, ht => by
    simp only [slotsTied] at he
    split at he
    · rename_i h1
      cases ht with
      | head => exact h1
      | tail _ ht => exact slotsTied_spec he t ht
    · cases he

/-- The slots at which an operation of a region looks. -/
noncomputable def looks (ops : Array Oper) (o : Oper) : List Tmp := tmpsOf o.op.operands.toList ++ guardSlot ops o.guard

theorem looksTied_spec {ops : Array Oper} {w : Tr (Nat × Nat)} : ∀ (l : List (Oper × Nat)) (i : Nat), looksTied ops w l i = true →
    ∀ k o b, l[k]? = some (o, b) → b < 2 ^ (i + k) ∧ ∀ t ∈ looks ops o, slotTied (i + k) b (w.get t) = true
  | [], _, _, k, o, b, hk => by simp at hk
  | (o, b) :: l, i, he, k, o', b', hk => by
    have he' : (match Nat.ble (Nat.succ b) (Nat.pow 2 i) with
      | true => match slotsTied w i b (looks ops o) with
        | true => looksTied ops w l (i + 1)
        | false => false
      | false => false) = true := he
    cases h1 : Nat.ble (Nat.succ b) (Nat.pow 2 i) with
    | false => rw [h1] at he'; cases he'
    | true =>
      rw [h1] at he'
      cases h2 : slotsTied w i b (looks ops o) with
      | false => simp only [h2] at he'; cases he'
      | true =>
        simp only [h2] at he'
        cases k with
        | zero =>
          simp only [List.getElem?_cons_zero, Option.some.injEq, Prod.mk.injEq] at hk
          obtain ⟨rfl, rfl⟩ := hk
          exact ⟨Nat.le_of_ble_eq_true h1, fun t ht => slotsTied_spec h2 t ht⟩
        | succ k =>
          have := looksTied_spec l (i + 1) he' k o' b' (by simpa using hk)
          rw [show i + 1 + k = i + (k + 1) from by omega] at this
          exact this

theorem slotTied_spec {i bi j bj : Nat} (h : slotTied i bi (some (j, bj)) = true) : j = i ∨ (j < i ∧ bi.testBit j = true) ∨ (i < j ∧ bj.testBit i = true) := by
  simp only [slotTied] at h
  split at h
  · rename_i he; exact .inl (Nat.eq_of_beq_eq_true he).symm
  · rename_i he
    have hne : i ≠ j := fun e => by subst e; rw [Nat.beq_refl] at he; cases he
    split at h
    · rename_i hle
      have := Nat.le_of_ble_eq_true hle
      exact .inr (.inl ⟨by omega, h⟩)
    · rename_i hle
      have : ¬ j ≤ i := fun hc => by rw [Nat.ble_eq_true_of_le hc] at hle; cases hle
      exact .inr (.inr ⟨by omega, h⟩)

theorem slotsOk_spec {ops : Array Oper} {l : List (Oper × Nat)} (he : slotsOk ops l = true) :
    (∀ (k : Nat) (o : Oper) (b : Nat), l[k]? = some (o, b) → b < 2 ^ k) ∧
    (∀ (k : Nat) (o : Oper) (b k' : Nat) (o' : Oper) (b' : Nat) (d : Tmp), l[k]? = some (o, b) → l[k']? = some (o', b') → o.dst = some d → o'.dst = some d → k = k') ∧
    (∀ (k : Nat) (o : Oper) (b j : Nat) (o' : Oper) (b' : Nat) (t : Tmp), l[k]? = some (o, b) → t ∈ looks ops o → l[j]? = some (o', b') → o'.dst = some t → j = k ∨ (j < k ∧ b.testBit j = true) ∨ (k < j ∧ b'.testBit k = true)) := by
  unfold slotsOk at he
  split at he
  case h_2 => cases he
  rename_i w hw
  obtain ⟨_, h1⟩ := writersOf_spec l 0 .nil w hw
  have h2 := looksTied_spec l 0 he
  refine ⟨fun k o b hk => by simpa using (h2 k o b hk).1, ?_, ?_⟩
  · intro k o b k' o' b' d hk hk' hd hd'
    have a := h1 k o b d hk hd
    rw [h1 k' o' b' d hk' hd'] at a
    simp only [Option.some.injEq, Prod.mk.injEq] at a
    omega
  · intro k o b j o' b' t hk ht hj hd
    have a := (h2 k o b hk).2 t ht
    rw [h1 j o' b' t hj hd] at a
    have := slotTied_spec a
    simpa using this

end Go.AM

namespace Go.AM
variable {P : Program} {ι : Inj} {h : AHeap} {w : World}

/-! What each block holds, as seen from a place of the region. -/
noncomputable def viewFrom (S : Nat → ASt) : Nat → Nat → Nat → Option ABlk
  | 0, p, b => (S p).h.get b
  | k + 1, p, b => if b < (S p).h.next then (S p).h.get b else viewFrom S k (p + 1) b

noncomputable def view (S : Nat → ASt) (n p b : Nat) : Option ABlk := viewFrom S (n - p) p b

/-- The end of the block's number where it was made. -/
noncomputable def limFrom (S : Nat → ASt) : Nat → Nat → Nat → Nat
  | 0, p, _ => (S p).h.next
  | k + 1, p, b => if b < (S p).h.next then (S p).h.next else limFrom S k (p + 1) b

noncomputable def lim (S : Nat → ASt) (n p b : Nat) : Nat := limFrom S (n - p) p b

theorem view_now {S : Nat → ASt} {n p b : Nat} (hb : b < (S p).h.next) : view S n p b = (S p).h.get b := by
  unfold view
  cases n - p with
  | zero => rfl
  | succ k => simp only [viewFrom]; rw [if_pos hb]

theorem view_later {S : Nat → ASt} {n p b : Nat} (hp : p < n) (hb : ¬ b < (S p).h.next) : view S n p b = view S n (p + 1) b := by
  unfold view
  rw [show n - p = (n - (p + 1)) + 1 from by omega]
  simp only [viewFrom]
  rw [if_neg hb]

theorem lim_now {S : Nat → ASt} {n p b : Nat} (hb : b < (S p).h.next) : lim S n p b = (S p).h.next := by
  unfold lim
  cases n - p with
  | zero => rfl
  | succ k => simp only [limFrom]; rw [if_pos hb]

theorem lim_later {S : Nat → ASt} {n p b : Nat} (hp : p < n) (hb : ¬ b < (S p).h.next) : lim S n p b = lim S n (p + 1) b := by
  unfold lim
  rw [show n - p = (n - (p + 1)) + 1 from by omega]
  simp only [limFrom]
  rw [if_neg hb]

/-- A step that does not act leaves the memory, or makes one block. -/
def Calm (g g' : AHeap) : Prop := g' = g ∨ ∃ k, g' = g.new k

theorem Calm.get {g g' : AHeap} (hc : Calm g g') {b : Nat} (hb : b < g.next) : g'.get b = g.get b := by
  rcases hc with rfl | ⟨k, rfl⟩
  · rfl
  · rw [AHeap.get_new, if_neg (by omega)]

theorem Calm.next {g g' : AHeap} (hc : Calm g g') : g.next ≤ g'.next := by
  rcases hc with rfl | ⟨k, rfl⟩
  · exact Nat.le_refl _
  · rw [AHeap.next_new]; omega

theorem view_calm {S : Nat → ASt} {n p : Nat} (hp : p < n) (hc : Calm (S p).h (S (p + 1)).h) (b : Nat) : view S n p b = view S n (p + 1) b := by
  by_cases hb : b < (S p).h.next
  · rw [view_now hb, view_now (Nat.lt_of_lt_of_le hb hc.next), hc.get hb]
  · exact view_later hp hb

end Go.AM

namespace Go.AM
variable {P : Program} {ι : Inj} {h : AHeap} {w : World}

/-- All that is known of a drawn region that was evaluated. -/
structure Reg (P : Program) (ops : Array Oper) (round : Option Nat) (S : Nat → ASt) (V : Nat → AV) (W : Nat → Bool) : Prop where
  step : ∀ (k : Nat) (o : Oper), ops[k]? = some o → Step1 P ops round o (S k) (S (k + 1)) (V k) (W k)
  bits : ∀ (k b : Nat), (Region.before ops)[k]? = some b → b < 2 ^ k
  reads : ∀ (k : Nat) (o : Oper) (b j : Nat) (o' : Oper), ops[k]? = some o → (Region.before ops)[k]? = some b → W k = true → opClass P o.op = .reads → j < k → ops[j]? = some o' → W j = true → opClass P o'.op = .acts →
    b.testBit j = false → sameRead P o.op (S k) (S j).h = true
  tied : ∀ (k : Nat) (o : Oper) (b j : Nat) (o' : Oper), ops[k]? = some o → (Region.before ops)[k]? = some b → W k = true → opClass P o.op = .acts → j < k → ops[j]? = some o' → W j = true → opClass P o'.op = .acts →
    b.testBit j = true
  readsB : ∀ (k : Nat) (o : Oper) (b j : Nat) (o' : Oper), ops[k]? = some o → (Region.before ops)[k]? = some b → W k = true → opClass P o.op = .acts → j < k → ops[j]? = some o' → W j = true → opClass P o'.op = .reads →
    b.testBit j = false → sameRead P o'.op (S j) (S (k + 1)).h = true
  mono : ∀ (k : Nat) (o : Oper), ops[k]? = some o → W k = true → opClass P o.op = .acts → (S k).h.next ≤ (S (k + 1)).h.next
  uniq : ∀ (k : Nat) (o : Oper) (j : Nat) (o' : Oper) (d : Tmp), ops[k]? = some o → ops[j]? = some o' → o.dst = some d → o'.dst = some d → k = j
  look : ∀ (k : Nat) (o : Oper) (b j : Nat) (o' : Oper) (b' : Nat) (t : Tmp), ops[k]? = some o → (Region.before ops)[k]? = some b → t ∈ looks ops o → ops[j]? = some o' → (Region.before ops)[j]? = some b' → o'.dst = some t →
    j = k ∨ (j < k ∧ b.testBit j = true) ∨ (k < j ∧ b'.testBit k = true)

theorem zip_at {ops : Array Oper} {k : Nat} {o : Oper} {b : Nat} (ho : ops[k]? = some o) (hb : (Region.before ops)[k]? = some b) : (ops.toList.zip (Region.before ops).toList)[k]? = some (o, b) := by
  rw [List.getElem?_zip_eq_some]
  exact ⟨by simpa using ho, by simpa using hb⟩

theorem reg_of {rec : Job → ASt → Option Ans} (hrec : RecOk P rec) {round : Option Nat} {ops : Array Oper} {s : ASt} {r : Ans}
    (he : evIf (evDrawnL P rec round ops (ops.toList.zip (Region.before ops).toList) 0 ⟨[], []⟩ s) (slotsOk ops (ops.toList.zip (Region.before ops).toList)) = some r) :
    ∃ S V W, S 0 = s ∧ r = (.norm, undef, S ops.size) ∧ Reg P ops round S V W := by
  obtain ⟨h1, h2⟩ := evIf_spec he
  obtain ⟨a1, a2, a3⟩ := slotsOk_spec h1
  obtain ⟨S, V, W, e1, e2, e3⟩ := trace_fun hrec _ _ _ _ _ h2
  have hat : ∀ (k : Nat) (o : Oper) (b : Nat), ops[k]? = some o → (Region.before ops)[k]? = some b → TraceAt P ops round (ops.toList.zip (Region.before ops).toList) 0 ⟨[], []⟩ S V W k o b := fun k o b ho hb => e3 k o b (zip_at ho hb)
  have hsome : ∀ (k : Nat) (o : Oper), ops[k]? = some o → ∃ b, (Region.before ops)[k]? = some b := fun k o ho => let ⟨b, hb, _⟩ := before_own ho; ⟨b, hb⟩
  have hops : ∀ (k b : Nat), (Region.before ops)[k]? = some b → ∃ o, ops[k]? = some o := fun k b hb => by
    have := (Array.getElem?_eq_some_iff.1 hb).1
    rw [before_size] at this
    exact ⟨ops[k], by simp [this]⟩
  refine ⟨S, V, W, e1, ?_, ?_, ?_, ?_, ?_, ?_, ?_, ?_, ?_⟩
  · rw [e2]
    simp [before_size]
  · intro k o ho
    obtain ⟨b, hb⟩ := hsome k o ho
    have := (hat k o b ho hb).1
    simpa only [Nat.zero_add] using this
  · intro k b hb
    obtain ⟨o, ho⟩ := hops k b hb
    exact a1 k o b (zip_at ho hb)
  · intro k o b j o' ho hb hw hc hj ho' hw' hc' hbit
    obtain ⟨b', hb'⟩ := hsome j o' ho'
    have := (hat k o b ho hb).2.1
    simp only [Nat.zero_add] at this
    exact (this hw hc).2 j o' b' hj (zip_at ho' hb') hw' hc' hbit
  · intro k o b j o' ho hb hw hc hj ho' hw' hc'
    obtain ⟨b', hb'⟩ := hsome j o' ho'
    have := (hat k o b ho hb).2.2.1
    simp only [Nat.zero_add] at this
    exact (this hw hc).2.1 j o' b' hj (zip_at ho' hb') hw' hc'
  · intro k o b j o' ho hb hw hc hj ho' hw' hc' hbit
    obtain ⟨b', hb'⟩ := hsome j o' ho'
    have := (hat k o b ho hb).2.2.1
    simp only [Nat.zero_add] at this
    exact (this hw hc).2.2.2 j o' b' hj (zip_at ho' hb') hw' hc' hbit
  · intro k o ho hw hc
    obtain ⟨b, hb⟩ := hsome k o ho
    have := (hat k o b ho hb).2.2.2
    simp only [Nat.zero_add] at this
    exact this hw hc
  · intro k o j o' d ho ho' hd hd'
    obtain ⟨b, hb⟩ := hsome k o ho
    obtain ⟨b', hb'⟩ := hsome j o' ho'
    exact a2 k o b j o' b' d (zip_at ho hb) (zip_at ho' hb') hd hd'
  · intro k o b j o' b' t ho hb ht ho' hb' hd
    exact a3 k o b j o' b' t (zip_at ho hb) ht (zip_at ho' hb') hd

end Go.AM

namespace Go.AM
variable {P : Program} {ι : Inj} {h : AHeap} {w : World}

noncomputable def Hat (S : Nat → ASt) (n p : Nat) : AHeap := mkHeap (view S n p) (S n).h.next

/-- An operation of a region acts. -/
def Acts (P : Program) (ops : Array Oper) (W : Nat → Bool) (j : Nat) : Prop := ∃ o, ops[j]? = some o ∧ W j = true ∧ opClass P o.op = .acts

/-- Where the machine stands when the operations of a set were done. -/
structure Inv (P : Program) (ops : Array Oper) (S : Nat → ASt) (V : Nat → AV) (W : Nat → Bool) (kind : CallKind) (cs : List Frame) (ι0 : Inj) (w0 : World) (E : Nat → Prop) (p : Nat)
    (ι : Inj) (tm : Array Value) (ds : List Deferred) (w : World) : Prop where
  le : p ≤ ops.size
  acts : ∀ j, Acts P ops W j → (E j ↔ j < p)
  slot : ∀ j o d, ops[j]? = some o → E j → o.dst = some d → ∃ v', tm[d]? = some v' ∧ VR (below ι (S (max (j + 1) p)).h.next) (V j) v'
  first : ∀ d v, (∀ j o, ops[j]? = some o → E j → o.dst ≠ some d) → (S 0).regs.get d = some v → ∃ v', tm[d]? = some v' ∧ VR (below ι (S 0).h.next) v v'
  size : tm.size = (S 0).size
  heap : HR ι (Hat S ops.size p) w
  rows : ∀ b k L, view S ops.size p b = some k → ι b = some L → BR (below ι (lim S ops.size p b)) L w.heap[L.blk]? k
  defs : DRs (below ι (S p).h.next) (S p).defs ds
  pan : PanInv (below ι (S p).h.next) kind cs (S p).pan
  glob : GR P (below ι (S 0).h.next)
  made : ∀ b L, ι b = some L → b < (S 0).h.next ∨ ∃ j o, ops[j]? = some o ∧ E j ∧ (S j).h.next ≤ b ∧ b < (S (j + 1)).h.next
  old : ∀ b, b < (S 0).h.next → ι b = ι0 b
  ext : ExtV ι0 (Hat S ops.size 0) w0 ι (Hat S ops.size p) w
  wf : ∀ q, q ≤ p → ∀ b k, (S q).h.get b = some k → b < (S q).h.next
  free : ∀ b, ι b = none → view S ops.size p b = view S ops.size 0 b

end Go.AM

namespace Go.AM
variable {P : Program} {ι : Inj} {h : AHeap} {w : World} {regs : Tr AV} {o : Oper}

/-! Operations that do not act leave the memory, or make one block. -/
def CalmR (h : AHeap) (r : AOut) : Prop := ∀ v g, r = .val v g → Calm h g

theorem calmR_fail : CalmR h .fail := fun _ _ he => by cases he

theorem calmR_oval (a : Option AV) : CalmR h (oval h a) := fun _ _ he => .inl (oval_spec he).2

theorem calmR_val (v : AV) : CalmR h (.val v h) := fun _ _ he => by cases he; exact .inl rfl

theorem calmR_new (v : AV) (k : ABlk) : CalmR h (.val v (h.new k)) := fun _ _ he => by cases he; exact .inr ⟨k, rfl⟩

theorem calmR_x1 {f : AV → AOut} (hf : ∀ x, CalmR h (f x)) (a : Option AV) : CalmR h (x1 f a) := by
  rcases x1_cases f a with h | ⟨x, _, h⟩
  · rw [h]; exact calmR_fail
  · rw [h]; exact hf x

theorem calmR_x2 {f : AV → AV → AOut} (hf : ∀ x y, CalmR h (f x y)) (a b : Option AV) : CalmR h (x2 f b a) := by
  rcases x2_cases f a b with h | ⟨x, y, _, _, h⟩
  · rw [h]; exact calmR_fail
  · rw [h]; exact hf x y

theorem calmR_var (z : Option AV) : CalmR h (xVar h z) := by
  cases z with
  | none => exact calmR_fail
  | some z => exact calmR_new _ _

theorem calm_convert {s d : TypeId} {x v : AV} {g : AHeap} (he : aconvert P h s d x = some (v, g)) : Calm h g := by
  unfold aconvert at he
  split at he
  · split at he
    · cases he; exact .inl rfl
    · cases he
  · split at he
    · unfold convertStr at he
      split at he
      · cases he; exact .inl rfl
      · split at he
        · cases he; exact .inr ⟨_, rfl⟩
        · cases he
      · cases he
    · cases he
  · split at he
    · unfold toStr at he
      split at he
      · cases he
      · split at he
        · cases he
        · split at he
          · cases he; exact .inl rfl
          · unfold strOf at he
            split at he
            · split at he
              · cases he; exact .inl rfl
              · cases he
            · cases he
          · cases he
    · cases he

theorem calmR_still (hc : opClass P o.op = .still ∨ opClass P o.op = .reads) : CalmR h (aexec o.op P regs h) := by
  cases ho : o.op <;> rw [ho] at hc <;> first | (rcases hc with hc | hc <;> cases hc; done) | skip
  case move x => exact calmR_oval _
  case assign x => exact calmR_oval _
  case pick c a b =>
    change CalmR h (xPick P regs h a b (aeval P regs c))
    unfold xPick
    split
    · exact calmR_oval _
    · exact calmR_oval _
    · exact calmR_fail
  case alloc t => exact calmR_var _
  case box t x => exact calmR_var _
  case build t parts =>
    change CalmR h (xBuild P h t (aparts P regs parts.toList))
    unfold xBuild
    split
    · exact calmR_oval _
    · exact calmR_fail
  case buildSlice t n parts =>
    change CalmR h (xBuildSlice P h t n (aparts P regs parts.toList))
    unfold xBuildSlice xBuildElem xRow
    repeat' split
    all_goals first | exact calmR_fail | exact calmR_new _ _
  case load t a => exact calmR_x1 (fun _ => calmR_oval _) _
  case lookup t x i ok => exact calmR_x2 (fun _ _ => calmR_oval _) _ _
  case nilCheck x => exact calmR_x1 (fun _ => calmR_oval _) _
  case binOp op t x y t' => exact calmR_x2 (fun _ _ => calmR_oval _) _ _
  case unOp op t x => exact calmR_x1 (fun _ => calmR_oval _) _
  case convert s d x => exact calmR_x1 (fun _ _ _ he => calm_convert (ovalh_spec he)) _
  case makeInterface t x =>
    refine calmR_x1 (fun v => ?_) _
    unfold xIface
    split
    · exact calmR_fail
    · exact calmR_val _
    · exact calmR_fail
  case makeFunc fn first captured =>
    change CalmR h (xMakeFunc P regs h fn first captured)
    unfold xMakeFunc xFunc
    repeat' split
    all_goals first | exact calmR_fail | exact calmR_val _
  case makeMap t r =>
    change CalmR h (xMap P h t (aopt P regs r))
    unfold xMap
    repeat' split
    all_goals first | exact calmR_fail | exact calmR_new _ _
  case makeSlice t l c =>
    refine calmR_x2 (fun v u => ?_) _ _
    unfold xMakeSlice xMakeElem
    repeat' split
    all_goals first | exact calmR_fail | exact calmR_new _ _
  case slice t x lo hi mx =>
    change CalmR h (xSlice P h t (aeval P regs x) (aopt P regs lo) (aopt P regs hi) (aopt P regs mx))
    unfold xSlice
    repeat' split
    all_goals first | exact calmR_fail | exact calmR_oval _
  case fieldAddr t x f => exact calmR_x1 (fun _ => calmR_oval _) _
  case field t x f => exact calmR_x1 (fun _ => calmR_oval _) _
  case indexAddr t x i => exact calmR_x2 (fun _ _ => calmR_oval _) _ _
  case index t x i => exact calmR_x2 (fun _ _ => calmR_oval _) _ _
  case typeAssert x xt a ok => exact calmR_x1 (fun _ => calmR_oval _) _
  case extract t i =>
    refine calmR_x1 (fun v => ?_) _
    unfold xExtract
    split
    · exact calmR_oval _
    · exact calmR_fail
  case call c =>
    change CalmR h (xCall P regs h c (aevals P regs c.args.toList))
    have hc' : callClass c = .still ∨ callClass c = .reads := hc
    unfold callClass at hc'
    unfold xCall
    split
    · exact calmR_fail
    · split at hc'
      · rename_i hcc; rw [hcc]
        simp only [xBuiltin, xLen]
        split
        all_goals first | exact calmR_fail | exact calmR_oval _
      · rename_i hcc; rw [hcc]; exact calmR_oval _
      · rename_i hcc; rw [hcc]; exact calmR_oval _
      · rcases hc' with hc' | hc' <;> cases hc'

section reg
variable {ops : Array Oper} {round : Option Nat} {S : Nat → ASt} {V : Nat → AV} {W : Nat → Bool}

theorem Reg.calm (hR : Reg P ops round S V W) {k : Nat} {o : Oper} (ho : ops[k]? = some o) (hna : ¬ Acts P ops W k) :
    Calm (S k).h (S (k + 1)).h ∧ (S (k + 1)).defs = (S k).defs ∧ (S (k + 1)).pan = (S k).pan := by
  have st := hR.step k o ho
  cases hw : W k with
  | false => obtain ⟨_, h1, h2, h3⟩ := st.skip hw; exact ⟨.inl h1, h2, h3⟩
  | true =>
    have hc : opClass P o.op = .still ∨ opClass P o.op = .reads := by
      cases h : opClass P o.op with
      | still => exact .inl rfl
      | reads => exact .inr rfl
      | acts => exact absurd ⟨o, ho, hw, h⟩ hna
    obtain ⟨h1, h2, h3⟩ := st.calm hw hc
    exact ⟨calmR_still hc _ _ h1, h2, h3⟩

theorem op_at {ops : Array Oper} {k : Nat} (hk : k < ops.size) : ∃ o, ops[k]? = some o := ⟨ops[k], by simp [hk]⟩

theorem op_lt {ops : Array Oper} {k : Nat} {o : Oper} (ho : ops[k]? = some o) : k < ops.size := (Array.getElem?_eq_some_iff.1 ho).1

theorem Reg.next_step (hR : Reg P ops round S V W) {k : Nat} (hk : k < ops.size) : (S k).h.next ≤ (S (k + 1)).h.next := by
  obtain ⟨o, ho⟩ := op_at hk
  by_cases ha : Acts P ops W k
  · obtain ⟨o', ho', hw, hc⟩ := ha
    exact hR.mono k o' ho' hw hc
  · exact (hR.calm ho ha).1.next

theorem Reg.next_le (hR : Reg P ops round S V W) {j : Nat} : ∀ {k : Nat}, j ≤ k → k ≤ ops.size → (S j).h.next ≤ (S k).h.next := by
  intro k
  induction k with
  | zero => intro h _; obtain rfl : j = 0 := by omega
            exact Nat.le_refl _
  | succ k ih =>
    intro h1 h2
    by_cases e : j = k + 1
    · subst e; exact Nat.le_refl _
    · exact Nat.le_trans (ih (by omega) (by omega)) (hR.next_step (by omega))

theorem Reg.size_eq (hR : Reg P ops round S V W) : ∀ {k : Nat}, k ≤ ops.size → (S k).size = (S 0).size := by
  intro k
  induction k with
  | zero => intro _; rfl
  | succ k ih =>
    intro h
    obtain ⟨o, ho⟩ := op_at (show k < ops.size by omega)
    rw [(hR.step k o ho).size, ih (by omega)]

/-- What lies in a slot: what its writer gave, or what lay there first. -/
theorem Reg.regs_at (hR : Reg P ops round S V W) (d : Tmp) : ∀ {k : Nat}, k ≤ ops.size →
    (∃ j o, j < k ∧ ops[j]? = some o ∧ o.dst = some d ∧ (S k).regs.get d = some (V j)) ∨
    ((∀ j o, j < k → ops[j]? = some o → o.dst ≠ some d) ∧ (S k).regs.get d = (S 0).regs.get d) := by
  intro k
  induction k with
  | zero => intro _; exact .inr ⟨fun j o hj => absurd hj (by omega), rfl⟩
  | succ k ih =>
    intro h
    obtain ⟨o, ho⟩ := op_at (show k < ops.size by omega)
    have same : o.dst ≠ some d → (S (k + 1)).regs.get d = (S k).regs.get d := by
      intro hne
      rcases (hR.step k o ho).regs with ⟨_, e⟩ | ⟨d', h1, _, e⟩
      · rw [e]
      · rw [e, Tr.get_put, if_neg]
        intro e2; subst e2; exact hne h1
    by_cases hd : o.dst = some d
    · refine .inl ⟨k, o, by omega, ho, hd, ?_⟩
      rcases (hR.step k o ho).regs with ⟨e1, _⟩ | ⟨d', h1, _, e⟩
      · rw [hd] at e1; cases e1
      · rw [hd] at h1; cases h1
        rw [e, Tr.get_put, if_pos rfl]
    · rcases ih (by omega) with ⟨j, o', h1, h2, h3, h4⟩ | ⟨h1, h2⟩
      · exact .inl ⟨j, o', by omega, h2, h3, by rw [same hd, h4]⟩
      · refine .inr ⟨fun j o' hj ho' => ?_, by rw [same hd, h2]⟩
        by_cases e : j = k
        · subst e; rw [ho] at ho'; cases ho'; exact hd
        · exact h1 j o' (by omega) ho'

end reg
end Go.AM

namespace Go.AM
variable {P : Program} {ι ι0 : Inj} {h : AHeap} {w w0 : World}
variable {ops : Array Oper} {round : Option Nat} {S : Nat → ASt} {V : Nat → AV} {W : Nat → Bool} {kind : CallKind} {cs : List Frame} {E : Nat → Prop} {p : Nat} {tm : Array Value} {ds : List Deferred}

theorem below_all {m : Nat} (hf : ∀ b, m ≤ b → ι b = none) : below ι m = ι := by
  funext b
  unfold below
  split
  · rfl
  · exact (hf b (by omega)).symm

theorem get_Hat {n b : Nat} (hb : b < (S n).h.next) : (Hat S n p).get b = view S n p b := by
  unfold Hat
  rw [get_mkHeap, if_pos hb]

theorem get_Hat_some {n b : Nat} {k : ABlk} (hg : (Hat S n p).get b = some k) : b < (S n).h.next ∧ view S n p b = some k := by
  unfold Hat at hg
  rw [get_mkHeap] at hg
  split at hg
  · rename_i hb; exact ⟨hb, hg⟩
  · cases hg

theorem Hat_next (S : Nat → ASt) (n p : Nat) : (Hat S n p).next = (S n).h.next := rfl

theorem Hat_calm {n : Nat} (hp : p < n) (hc : Calm (S p).h (S (p + 1)).h) : Hat S n (p + 1) = Hat S n p := by
  unfold Hat
  congr 1
  funext b
  exact (view_calm hp hc b).symm

theorem inv_start (hR : Reg P ops round S V W) {b : Frame} (hg : Good P ι b.kind cs (S 0) tm ds w) : Inv P ops S V W b.kind cs ι w (fun _ => False) 0 ι tm ds w := by
  have hlt : ∀ c L, ι c = some L → c < (S 0).h.next := fun c L hc => by
    by_cases h : c < (S 0).h.next
    · exact h
    · rw [hg.heap.fresh c (by omega)] at hc; cases hc
  have hn := hR.next_le (Nat.zero_le ops.size) (Nat.le_refl _)
  have hall : below ι (S 0).h.next = ι := below_all hg.heap.fresh
  refine ⟨Nat.zero_le _, fun j _ => ⟨fun h => h.elim, fun h => absurd h (by omega)⟩, fun _ _ _ _ h => h.elim, ?_, hg.size, ?_, ?_, ?_, ?_, ?_, fun c L hc => .inl (hlt c L hc), fun _ _ => rfl, ExtV.refl _ _ _, ?_, fun _ _ => rfl⟩
  · intro d v _ hv
    rw [hall]
    exact hg.regs d v hv
  · refine hg.heap.same (fun c L hc => ?_) (fun c k hc => (get_Hat_some hc).1) (fun c hc => hg.heap.fresh c (by rw [Hat_next] at hc; omega))
    rw [get_Hat (Nat.lt_of_lt_of_le (hlt c L hc) hn), view_now (hlt c L hc)]
  · intro c k L hv hc
    rw [view_now (hlt c L hc)] at hv
    rw [lim_now (hlt c L hc), hall]
    exact hg.heap.blocks c k L hv hc
  · rw [hall]; exact hg.defs
  · rw [hall]; exact hg.pan
  · rw [hall]; exact hg.glob
  · intro q hq c k hc
    obtain rfl : q = 0 := by omega
    exact hg.heap.next c k hc

theorem lim_step (hR : Reg P ops round S V W) (hp : p < ops.size) (b : Nat) : lim S ops.size p b ≤ lim S ops.size (p + 1) b := by
  by_cases hb : b < (S p).h.next
  · rw [lim_now hb, lim_now (Nat.lt_of_lt_of_le hb (hR.next_step hp))]
    exact hR.next_step hp
  · rw [lim_later hp hb]; exact Nat.le_refl _

theorem max_le_of {a p n : Nat} (h1 : a ≤ n) (h2 : p ≤ n) : max a p ≤ n := Nat.max_le.2 ⟨h1, h2⟩

theorem inv_shift (hR : Reg P ops round S V W) (I : Inv P ops S V W kind cs ι0 w0 E p ι tm ds w) (hp : p < ops.size) (hna : ¬ Acts P ops W p) : Inv P ops S V W kind cs ι0 w0 E (p + 1) ι tm ds w := by
  obtain ⟨o, ho⟩ := op_at hp
  obtain ⟨hc, hd, hpan⟩ := hR.calm ho hna
  have hH := Hat_calm (n := ops.size) hp hc
  refine ⟨hp, ?_, ?_, I.first, I.size, by rw [hH]; exact I.heap, ?_, ?_, ?_, I.glob, I.made, I.old, by rw [hH]; exact I.ext, ?_, ?_⟩
  · intro j hj
    rw [I.acts j hj]
    constructor
    · intro h; omega
    · intro h
      by_cases e : j = p
      · subst e; exact absurd hj hna
      · omega
  · intro j o' d ho' hE hdst
    obtain ⟨v', h1, h2⟩ := I.slot j o' d ho' hE hdst
    refine ⟨v', h1, h2.mono (below_mono (hR.next_le (by omega) ?_))⟩
    have := op_lt ho'
    exact max_le_of (by omega) (by omega)
  · intro c k L hv hL
    rw [← view_calm hp hc] at hv
    exact (I.rows c k L hv hL).mono (below_mono (lim_step hR hp c))
  · rw [hd]; exact I.defs.mono (below_mono (hR.next_step hp))
  · rw [hpan]; exact I.pan.mono (below_mono (hR.next_step hp))
  · intro q hq c k hk
    by_cases e : q = p + 1
    · subst e
      rcases hc with e | ⟨k', e⟩
      · rw [e] at hk ⊢; exact I.wf p (Nat.le_refl _) c k hk
      · rw [e] at hk ⊢
        rw [AHeap.get_new] at hk
        rw [AHeap.next_new]
        split at hk
        · omega
        · have := I.wf p (Nat.le_refl _) c k hk; omega
    · exact I.wf q (by omega) c k hk
  · intro c hc'
    rw [← view_calm hp hc]
    exact I.free c hc'

theorem inv_shifts (hR : Reg P ops round S V W) {q : Nat} (hq : q ≤ ops.size) : ∀ {p : Nat}, p ≤ q → (∀ j, p ≤ j → j < q → ¬ Acts P ops W j) → Inv P ops S V W kind cs ι0 w0 E p ι tm ds w →
    Inv P ops S V W kind cs ι0 w0 E q ι tm ds w := by
  intro p hpq
  generalize hn : q - p = n
  induction n generalizing p with
  | zero =>
    intro _ I
    obtain rfl : p = q := by omega
    exact I
  | succ n ih =>
    intro hna I
    exact ih (p := p + 1) (by omega) (by omega) (fun j h1 h2 => hna j (by omega) h2) (inv_shift hR I (by omega) (hna p (by omega) (by omega)))

/-- The callers of the frame do not change where nothing acts. -/
theorem pan_shifts (hR : Reg P ops round S V W) {q : Nat} (hq : q ≤ ops.size) : ∀ {p : Nat}, p ≤ q → (∀ j, p ≤ j → j < q → ¬ Acts P ops W j) → (S q).pan = (S p).pan := by
  intro p hpq
  generalize hn : q - p = n
  induction n generalizing p with
  | zero =>
    intro _
    obtain rfl : p = q := by omega
    rfl
  | succ n ih =>
    intro hna
    obtain ⟨o, ho⟩ := op_at (show p < ops.size by omega)
    rw [ih (p := p + 1) (by omega) (by omega) (fun j h1 h2 => hna j (by omega) h2)]
    exact (hR.calm ho (hna p (by omega) (by omega))).2.2

end Go.AM

namespace Go.AM
variable {P : Program} {ι ι0 : Inj} {h : AHeap} {w w0 : World}
variable {ops : Array Oper} {round : Option Nat} {S : Nat → ASt} {V : Nat → AV} {W : Nat → Bool} {kind : CallKind} {cs : List Frame} {E : Nat → Prop} {p i : Nat} {tm : Array Value} {ds : List Deferred} {o : Oper}

/-- The next operation, and what was done before it. -/
structure Ready (ops : Array Oper) (E : Nat → Prop) (i : Nat) (o : Oper) : Prop where
  op : ops[i]? = some o
  new : ¬ E i
  closed : ∀ k o, ops[k]? = some o → E k → ∀ e ∈ o.after, Region.binds .any e = true → E e.on
  own : ∀ e ∈ o.after, Region.binds .any e = true → E e.on

theorem bit_lt {b k j : Nat} (hb : b < 2 ^ k) (hj : b.testBit j = true) : j < k := by
  by_cases h : j < k
  · exact h
  · have : b < 2 ^ j := Nat.lt_of_lt_of_le hb (Nat.pow_le_pow_right (by omega) (by omega))
    rw [Nat.testBit_lt_two_pow this] at hj; cases hj

theorem Ready.tied (hR : Reg P ops round S V W) (hy : Ready ops E i o) {b j : Nat} (hb : (Region.before ops)[i]? = some b) (hj : b.testBit j = true) : E j := by
  have hlt := bit_lt (hR.bits i b hb) hj
  have : E j ∨ j = i := before_closed (E := fun j => E j ∨ j = i) (fun k o' ho' hk e he hbe => by
    rcases hk with hk | rfl
    · exact .inl (hy.closed k o' ho' hk e he hbe)
    · rw [hy.op] at ho'; cases ho'
      exact .inl (hy.own e he hbe)) hb (.inr rfl) hj
  rcases this with h | h
  · exact h
  · omega

theorem Ready.later (hy : Ready ops E i o) {b j k : Nat} (hb : (Region.before ops)[j]? = some b) (hj : E j) (hk : b.testBit k = true) : E k :=
  before_closed (E := E) hy.closed hb hj hk

theorem before_at {k : Nat} {o : Oper} (ho : ops[k]? = some o) : ∃ b, (Region.before ops)[k]? = some b := let ⟨b, hb, _⟩ := before_own ho; ⟨b, hb⟩

theorem seen_ok (hR : Reg P ops round S V W) (I : Inv P ops S V W kind cs ι0 w0 E p ι tm ds w) (hy : Ready ops E i o) {t : Tmp} {v : AV} (ht : t ∈ looks ops o) (hv : (S i).regs.get t = some v) :
    ∃ v', tm[t]? = some v' ∧ VR (below ι (S (max i p)).h.next) v v' := by
  have hi := op_lt hy.op
  have hmax : max i p ≤ ops.size := max_le_of (by omega) I.le
  obtain ⟨b, hb⟩ := before_at hy.op
  rcases hR.regs_at t (k := i) (by omega) with ⟨j, o', h1, h2, h3, h4⟩ | ⟨h1, h2⟩
  · rw [h4] at hv; cases hv
    obtain ⟨b', hb'⟩ := before_at h2
    have hE : E j := by
      rcases hR.look i o b j o' b' t hy.op hb ht h2 hb' h3 with e | ⟨_, e⟩ | ⟨e, _⟩
      · omega
      · exact hy.tied hR hb e
      · omega
    obtain ⟨v', a1, a2⟩ := I.slot j o' t h2 hE h3
    exact ⟨v', a1, a2.mono (below_mono (hR.next_le (by omega) hmax))⟩
  · rw [h2] at hv
    obtain ⟨v', a1, a2⟩ := I.first t v (fun j o' ho' hE hd => by
      obtain ⟨b', hb'⟩ := before_at ho'
      rcases hR.look i o b j o' b' t hy.op hb ht ho' hb' hd with e | ⟨e, _⟩ | ⟨_, e⟩
      · subst e; exact hy.new hE
      · exact h1 j o' e ho' hd
      · exact hy.new (hy.later hb' hE e)) hv
    exact ⟨v', a1, a2.mono (below_mono (hR.next_le (Nat.zero_le _) hmax))⟩

theorem want_ok (hR : Reg P ops round S V W) (I : Inv P ops S V W kind cs ι0 w0 E p ι tm ds w) (hy : Ready ops E i o) : Region.wanted o (yielded ops tm) = W i := by
  refine awanted_run (hR.step i o hy.op).want fun j want q d v hg hq hd hv => seen_ok hR I hy ?_ hv
  unfold looks
  refine List.mem_append_right _ ?_
  simp [guardSlot, hg, hq, hd]

theorem operands_ok (hR : Reg P ops round S V W) (I : Inv P ops S V W kind cs ι0 w0 E p ι tm ds w) (hy : Ready ops E i o) {fr : Frame} (hfr : fr.tmps = tm) :
    Operands P (below ι (S (max i p)).h.next) (seenBy o (S i).regs) fr.eval := by
  have hi := op_lt hy.op
  have hmax : max i p ≤ ops.size := max_le_of (by omega) I.le
  refine operands_of ?_ (I.glob.mono (below_mono (hR.next_le (Nat.zero_le _) hmax)))
  rw [hfr]
  intro t v hv
  rw [seenBy, get_only] at hv
  split at hv
  · rename_i ht
    exact seen_ok hR I hy (List.mem_append_left _ ht) hv
  · cases hv

theorem putD_ne {dst : Option Tmp} {d : Tmp} {v : Value} (hd : dst ≠ some d) : (putD tm dst v)[d]? = tm[d]? := by
  cases dst with
  | none => rfl
  | some d' =>
    have : d' ≠ d := fun e => hd (by rw [e])
    exact Array.getElem?_setIfInBounds_ne this

theorem putD_size {dst : Option Tmp} {v : Value} : (putD tm dst v).size = tm.size := by
  cases dst <;> simp [putD]

theorem below_two {ι' : Inj} {m m' : Nat} (hle : ι.le ι') (hm : m ≤ m') : (below ι m).le (below ι' m') := Inj.le_trans (below_le_below hle) (below_mono hm)

theorem slots_put (hR : Reg P ops round S V W) (I : Inv P ops S V W kind cs ι0 w0 E p ι tm ds w) (hy : Ready ops E i o) {ι' : Inj} {p' : Nat} (hle : ι.le ι') (hp : p ≤ p') (hp' : p' ≤ ops.size) {v' : Value}
    (hv : VR (below ι' (S (max (i + 1) p')).h.next) (V i) v') :
    (∀ j o' d, ops[j]? = some o' → (E j ∨ j = i) → o'.dst = some d → ∃ x, (putD tm o.dst v')[d]? = some x ∧ VR (below ι' (S (max (j + 1) p')).h.next) (V j) x) ∧
    (∀ d v, (∀ j o', ops[j]? = some o' → (E j ∨ j = i) → o'.dst ≠ some d) → (S 0).regs.get d = some v → ∃ x, (putD tm o.dst v')[d]? = some x ∧ VR (below ι' (S 0).h.next) v x) ∧
    (putD tm o.dst v').size = (S 0).size := by
  have hi := op_lt hy.op
  refine ⟨?_, ?_, by rw [putD_size]; exact I.size⟩
  · intro j o' d ho' hE hd
    rcases hE with hE | rfl
    · obtain ⟨x, h1, h2⟩ := I.slot j o' d ho' hE hd
      refine ⟨x, ?_, h2.mono (below_two hle (hR.next_le (by omega) ?_))⟩
      · rw [putD_ne]
        · exact h1
        · intro e
          have := hR.uniq i o j o' d hy.op ho' e hd
          subst this
          exact hy.new hE
      · have := op_lt ho'
        exact max_le_of (by omega) hp'
    · rw [hy.op] at ho'; cases ho'
      refine ⟨v', ?_, hv⟩
      rw [hd]
      have hlt : d < tm.size := by
        rcases (hR.step j o hy.op).regs with ⟨e, _⟩ | ⟨d', h1, h2, _⟩
        · rw [hd] at e; cases e
        · rw [hd] at h1; cases h1
          rw [I.size, ← hR.size_eq (k := j) (by omega)]; exact h2
      simp [putD, hlt]
  · intro d v hno hv0
    obtain ⟨x, h1, h2⟩ := I.first d v (fun j o' ho' hE => hno j o' ho' (.inl hE)) hv0
    exact ⟨x, by rw [putD_ne (hno i o hy.op (.inr rfl))]; exact h1, h2.mono (below_two hle (Nat.le_refl _))⟩

theorem acts_more (I : Inv P ops S V W kind cs ι0 w0 E p ι tm ds w) (hna : ¬ Acts P ops W i) (j : Nat) (hj : Acts P ops W j) : (E j ∨ j = i) ↔ j < p := by
  rw [← I.acts j hj]
  constructor
  · rintro (h | rfl)
    · exact h
    · exact absurd hj hna
  · exact .inl

theorem made_more (I : Inv P ops S V W kind cs ι0 w0 E p ι tm ds w) (b : Nat) (L : Loc) (hL : ι b = some L) :
    b < (S 0).h.next ∨ ∃ j o, ops[j]? = some o ∧ (E j ∨ j = i) ∧ (S j).h.next ≤ b ∧ b < (S (j + 1)).h.next := by
  rcases I.made b L hL with h | ⟨j, o, h1, h2, h3⟩
  · exact .inl h
  · exact .inr ⟨j, o, h1, .inl h2, h3⟩

/-- A value that does not change the memory. -/
theorem inv_value (hR : Reg P ops round S V W) (I : Inv P ops S V W kind cs ι0 w0 E p ι tm ds w) (hy : Ready ops E i o) (hna : ¬ Acts P ops W i) {v' : Value}
    (hv : VR (below ι (S (max (i + 1) p)).h.next) (V i) v') : Inv P ops S V W kind cs ι0 w0 (fun j => E j ∨ j = i) p ι (putD tm o.dst v') ds w := by
  obtain ⟨h1, h2, h3⟩ := slots_put hR I hy ι.le_refl (Nat.le_refl p) I.le hv
  exact ⟨I.le, acts_more I hna, h1, h2, h3, I.heap, I.rows, I.defs, I.pan, I.glob, made_more I, I.old, I.ext, I.wf, I.free⟩

/-- A number that none of the operations done has made. -/
theorem none_made (hR : Reg P ops round S V W) (I : Inv P ops S V W kind cs ι0 w0 E p ι tm ds w) (hy : Ready ops E i o) {b : Nat} (h1 : (S i).h.next ≤ b) (h2 : b < (S (i + 1)).h.next) : ι b = none := by
  have hi := op_lt hy.op
  cases hb : ι b with
  | none => rfl
  | some L =>
    rcases I.made b L hb with h | ⟨j, o', ho', hE, h3, h4⟩
    · have := hR.next_le (Nat.zero_le i) (by omega); omega
    · have hj := op_lt ho'
      by_cases e : j = i
      · subst e; exact absurd hE hy.new
      · by_cases e2 : j < i
        · have := hR.next_le (show j + 1 ≤ i by omega) (by omega); omega
        · have := hR.next_le (show i + 1 ≤ j by omega) (by omega); omega

/-- What a block that was made at a place holds, as seen from before. -/
theorem view_made (hR : Reg P ops round S V W) (hi : i < ops.size) {b : Nat} (h1 : (S i).h.next ≤ b) (h2 : b < (S (i + 1)).h.next) : ∀ {q : Nat}, q ≤ i + 1 → view S ops.size q b = (S (i + 1)).h.get b := by
  intro q hq
  generalize hn : i + 1 - q = n
  induction n generalizing q with
  | zero =>
    obtain rfl : q = i + 1 := by omega
    exact view_now h2
  | succ n ih =>
    have := hR.next_le (show q ≤ i by omega) (by omega)
    rw [view_later (by omega) (by omega)]
    exact ih (by omega) (by omega)

theorem lim_made (hR : Reg P ops round S V W) (hi : i < ops.size) {b : Nat} (h1 : (S i).h.next ≤ b) (h2 : b < (S (i + 1)).h.next) : ∀ {q : Nat}, q ≤ i + 1 → lim S ops.size q b = (S (i + 1)).h.next := by
  intro q hq
  generalize hn : i + 1 - q = n
  induction n generalizing q with
  | zero =>
    obtain rfl : q = i + 1 := by omega
    exact lim_now h2
  | succ n ih =>
    have := hR.next_le (show q ≤ i by omega) (by omega)
    rw [lim_later (by omega) (by omega)]
    exact ih (by omega) (by omega)

theorem lim_made' (hR : Reg P ops round S V W) (hi : i < ops.size) {b : Nat} (h1 : (S i).h.next ≤ b) (h2 : b < (S (i + 1)).h.next) {q : Nat} (hq : q ≤ ops.size) : lim S ops.size q b = (S (max (i + 1) q)).h.next := by
  by_cases h : q ≤ i + 1
  · rw [lim_made hR hi h1 h2 h, Nat.max_eq_left h]
  · rw [lim_now (Nat.lt_of_lt_of_le h2 (hR.next_le (by omega) hq)), Nat.max_eq_right (by omega)]

/-- A block that is made late. -/
theorem inv_made (hR : Reg P ops round S V W) (I : Inv P ops S V W kind cs ι0 w0 E p ι tm ds w) (hy : Ready ops E i o) (hna : ¬ Acts P ops W i) {kk : ABlk} {obj : Obj} {u : World} {size extra : Nat} {v' : Value}
    (hS : (S (i + 1)).h = (S i).h.new kk) (hu : Pushed w u obj)
    (hb : BR (below (ι.upd (S i).h.next ⟨w.heap.size, 0, size, extra⟩) (S (max (i + 1) p)).h.next) ⟨w.heap.size, 0, size, extra⟩ (some obj) kk)
    (hv : VR (below (ι.upd (S i).h.next ⟨w.heap.size, 0, size, extra⟩) (S (max (i + 1) p)).h.next) (V i) v') :
    Inv P ops S V W kind cs ι0 w0 (fun j => E j ∨ j = i) p (ι.upd (S i).h.next ⟨w.heap.size, 0, size, extra⟩) (putD tm o.dst v') ds u := by
  have hi := op_lt hy.op
  have e1 : (S i).h.next < (S (i + 1)).h.next := by rw [hS, AHeap.next_new]; omega
  have e2 : (S (i + 1)).h.next ≤ (S ops.size).h.next := hR.next_le (by omega) (Nat.le_refl _)
  have hnone := none_made hR I hy (Nat.le_refl _) e1
  have hview : view S ops.size p (S i).h.next = some kk := by
    rw [I.free _ hnone, view_made hR hi (Nat.le_refl _) e1 (Nat.zero_le _), hS, AHeap.get_new, if_pos rfl]
  have hle : ι.le (ι.upd (S i).h.next ⟨w.heap.size, 0, size, extra⟩) := Inj.upd_le hnone
  obtain ⟨a1, a2⟩ := late_new (size := size) (extra := extra) I.heap hnone (by rw [Hat_next]; omega) (by rw [get_Hat (by omega)]; exact hview) hu (hb.mono (below_le _ _))
  obtain ⟨s1, s2, s3⟩ := slots_put hR I hy hle (Nat.le_refl p) I.le hv
  have hcase : ∀ c L, ι.upd (S i).h.next ⟨w.heap.size, 0, size, extra⟩ c = some L → (c = (S i).h.next ∧ L = ⟨w.heap.size, 0, size, extra⟩) ∨ (c ≠ (S i).h.next ∧ ι c = some L) := by
    intro c L hc
    unfold Inj.upd at hc
    split at hc
    · rename_i e; cases hc; exact .inl ⟨e, rfl⟩
    · rename_i e; exact .inr ⟨e, hc⟩
  refine ⟨I.le, acts_more I hna, s1, s2, s3, a1, ?_, I.defs.mono (below_le_below hle), I.pan.mono (below_le_below hle), I.glob.mono (below_le_below hle), ?_, ?_, I.ext.trans a2, I.wf, ?_⟩
  · intro c k L hk hL
    rcases hcase c L hL with ⟨rfl, rfl⟩ | ⟨hne, hL⟩
    · rw [hview] at hk; cases hk
      rw [lim_made' hR hi (Nat.le_refl _) e1 I.le]
      simp only [hu.1.2.1]
      exact hb
    · have hlt := I.heap.bound c L hL
      rw [hu.1.1 _ hlt]
      exact (I.rows c k L hk hL).mono (below_le_below hle)
  · intro c L hc
    rcases hcase c L hc with ⟨rfl, _⟩ | ⟨_, hc⟩
    · exact .inr ⟨i, o, hy.op, .inr rfl, Nat.le_refl _, e1⟩
    · exact made_more I c L hc
  · intro c hc
    have := hR.next_le (Nat.zero_le i) (by omega)
    unfold Inj.upd
    rw [if_neg (by omega)]
    exact I.old c hc
  · intro c hc
    refine I.free c ?_
    unfold Inj.upd at hc
    split at hc
    · cases hc
    · exact hc

end Go.AM

namespace Go.AM
variable {P : Program} {ι ι0 : Inj} {h : AHeap} {w w0 : World}
variable {ops : Array Oper} {round : Option Nat} {S : Nat → ASt} {V : Nat → AV} {W : Nat → Bool} {kind : CallKind} {cs : List Frame} {E : Nat → Prop} {p i : Nat} {tm : Array Value} {ds : List Deferred} {o : Oper}

/-- Before an act, the memory is that of its place. -/
theorem act_heap (hR : Reg P ops round S V W) (hi : i < ops.size) (I : Inv P ops S V W kind cs ι0 w0 E i ι tm ds w) : HR (below ι (S i).h.next) (S i).h w := by
  have hn := hR.next_le (show i ≤ ops.size by omega) (Nat.le_refl _)
  refine I.heap.restrict rfl (fun b L hb _ => ?_) (fun b k hk => I.wf i (Nat.le_refl _) b k hk) (fun b k L hb hk hL => ?_)
  · rw [get_Hat (by omega), view_now hb]
  · have := I.rows b k L (by rw [view_now hb]; exact hk) hL
    rw [lim_now hb] at this
    exact this

/-- Rows of blocks that are made later are left by an act. -/
theorem keep_later {κ : Inj} {u : World} {b : Nat} {k : ABlk} {L : Loc} (I : Inv P ops S V W kind cs ι0 w0 E i ι tm ds w)
    (hx : Ext (below ι (S i).h.next) (S i).h w κ (S (i + 1)).h u) (hb : (S i).h.next ≤ b) (hL : ι b = some L) (hk : view S ops.size i b = some k) (hlv : k.live = true) : u.heap[L.blk]? = w.heap[L.blk]? := by
  have hN : ∀ c M, ι c = some M → c < (S ops.size).h.next := fun c M hc => by
    by_cases h : c < (S ops.size).h.next
    · exact h
    · rw [I.heap.fresh c (by rw [Hat_next]; omega)] at hc; cases hc
  refine hx.kept _ (I.heap.bound b L hL) ?_
  rintro ⟨c, M, k', h1, h2, h3, h4⟩
  obtain ⟨h5, h6⟩ := below_lt h1
  exact I.heap.apart c b M L k' k (by omega) h6 hL (by rw [get_Hat (hN c M h6), view_now h5]; exact h2) (by rw [get_Hat (hN b L hL)]; exact hk) h3 hlv h4

theorem inv_act (hR : Reg P ops round S V W) (I : Inv P ops S V W kind cs ι0 w0 E i ι tm ds w) (hy : Ready ops E i o) {κ : Inj} {u : World} {v' : Value} {ds' : List Deferred}
    (hv : VR κ (V i) v') (hk : HR κ (S (i + 1)).h u) (hx : Ext (below ι (S i).h.next) (S i).h w κ (S (i + 1)).h u) (hds : DRs κ (S (i + 1)).defs ds') (hpan : PanInv κ kind cs (S (i + 1)).pan) :
    Inv P ops S V W kind cs ι0 w0 (fun j => E j ∨ j = i) (i + 1) (merged κ ι (S (i + 1)).h.next) (putD tm o.dst v') ds' u := by
  have hi := op_lt hy.op
  have e1 := hR.next_step hi
  have e2 : (S (i + 1)).h.next ≤ (S ops.size).h.next := hR.next_le (by omega) (Nat.le_refl _)
  have e0 : (S 0).h.next ≤ (S i).h.next := hR.next_le (Nat.zero_le _) (by omega)
  have hfree : ∀ b, (S i).h.next ≤ b → b < (S (i + 1)).h.next → ι b = none := fun b h1 h2 => none_made hR I hy h1 h2
  obtain ⟨a1, a2⟩ := merge_act (m := (S i).h.next) (m' := (S (i + 1)).h.next) (h0 := (S i).h) (g := (S (i + 1)).h) (g' := Hat S ops.size (i + 1)) I.heap rfl rfl
    (fun b L hb _ => by rw [get_Hat (by omega), view_now hb]) hfree hk hx
    (fun b hb => by rw [get_Hat (by omega), view_now hb])
    (fun b hb => by
      unfold Hat
      rw [get_mkHeap, get_mkHeap, view_later (p := i) hi (by omega)])
    rfl (by rw [Hat_next]; omega)
  have hkle : κ.le (below (merged κ ι (S (i + 1)).h.next) (S (i + 1)).h.next) := fun b L hb => by
    have hlt : b < (S (i + 1)).h.next := by
      by_cases h : b < (S (i + 1)).h.next
      · exact h
      · rw [hk.fresh b (by omega)] at hb; cases hb
    exact below_of hlt (by unfold merged; rw [if_pos hlt]; exact hb)
  have hcase : ∀ b L, merged κ ι (S (i + 1)).h.next b = some L → (b < (S (i + 1)).h.next ∧ κ b = some L) ∨ ((S (i + 1)).h.next ≤ b ∧ ι b = some L) := by
    intro b L hb
    unfold merged at hb
    split at hb
    · rename_i e; exact .inl ⟨e, hb⟩
    · rename_i e; exact .inr ⟨by omega, hb⟩
  have hle := a2.le
  have hmax : max (i + 1) (i + 1) = i + 1 := by omega
  obtain ⟨s1, s2, s3⟩ := slots_put hR I hy hle (show i ≤ i + 1 by omega) (by omega) (v' := v') (by rw [hmax]; exact hv.mono hkle)
  refine ⟨by omega, ?_, s1, s2, s3, a1, ?_, hds.mono hkle, hpan.mono hkle, I.glob.mono (below_le_below hle), ?_, ?_, I.ext.trans a2, ?_, ?_⟩
  · intro j hj
    rw [I.acts j hj]; omega
  · intro b k L hkb hL
    rcases hcase b L hL with ⟨h1, h2⟩ | ⟨h1, h2⟩
    · rw [view_now h1] at hkb
      rw [lim_now h1]
      exact (hk.blocks b k L hkb h2).mono hkle
    · rw [← view_later hi (by omega)] at hkb
      rw [← lim_later hi (by omega)]
      have hr := (I.rows b k L hkb h2).mono (below_le_below (m := lim S ops.size i b) hle)
      cases hlv : k.live with
      | true => rw [keep_later I hx (by omega) h2 hkb hlv]; exact hr
      | false =>
        cases k with
        | dead => trivial
        | cells => simp [ABlk.live] at hlv
        | map => simp [ABlk.live] at hlv
        | loop => simp [ABlk.live] at hlv
        | deferred => simp [ABlk.live] at hlv
        | iter => simp [ABlk.live] at hlv
  · intro b L hL
    rcases hcase b L hL with ⟨h1, h2⟩ | ⟨h1, h2⟩
    · rcases hx.dom b L h2 with h3 | ⟨h3, h4⟩
      · exact made_more I b L (below_lt h3).2
      · exact .inr ⟨i, o, hy.op, .inr rfl, h3, h4⟩
    · exact made_more I b L h2
  · intro b hb
    rw [← I.old b hb]
    unfold merged
    rw [if_pos (by omega)]
    cases hib : ι b with
    | some L => exact hx.le b L (below_of (by omega) hib)
    | none =>
      cases hkb : κ b with
      | none => rfl
      | some L =>
        rcases hx.dom b L hkb with h3 | ⟨h3, _⟩
        · rw [(below_lt h3).2] at hib; cases hib
        · omega
  · intro q hq b k hb
    by_cases e : q = i + 1
    · subst e; exact hk.next b k hb
    · exact I.wf q (by omega) b k hb
  · intro b hb
    unfold merged at hb
    by_cases h1 : b < (S (i + 1)).h.next
    · rw [if_pos h1] at hb
      by_cases h2 : b < (S i).h.next
      · have hib : ι b = none := by
          cases hib : ι b with
          | none => rfl
          | some L => rw [hx.le b L (below_of h2 hib)] at hb; cases hb
        rw [← I.free b hib, view_now h1, view_now h2]
        exact hx.abs b h2 (by unfold below; rw [if_pos h2]; exact hib)
      · rw [← I.free b (hfree b (by omega) h1), view_later hi h2]
    · rw [if_neg h1] at hb
      rw [← I.free b hb, view_later (p := i) hi (by omega)]

/-- The end of the region. -/
theorem inv_end (hR : Reg P ops round S V W) {b : Frame} (I : Inv P ops S V W b.kind cs ι0 w0 E ops.size ι tm ds w) (hall : ∀ j, j < ops.size → E j) (hh : HR ι0 (S 0).h w0) :
    Good P ι b.kind cs (S ops.size) tm ds w ∧ Ext ι0 (S 0).h w0 ι (S ops.size).h w := by
  have hn := hR.next_le (Nat.zero_le ops.size) (Nat.le_refl _)
  have hN : ∀ c M, ι c = some M → c < (S ops.size).h.next := fun c M hc => by
    by_cases h : c < (S ops.size).h.next
    · exact h
    · rw [I.heap.fresh c (by rw [Hat_next]; omega)] at hc; cases hc
  have h0 : ∀ c M, ι0 c = some M → c < (S 0).h.next := fun c M hc => by
    by_cases h : c < (S 0).h.next
    · exact h
    · rw [hh.fresh c (by omega)] at hc; cases hc
  have hg : ∀ c L, ι c = some L → (S ops.size).h.get c = (Hat S ops.size ops.size).get c := fun c L hc => by
    rw [get_Hat (hN c L hc), view_now (hN c L hc)]
  have hg0 : ∀ c L, ι0 c = some L → (Hat S ops.size 0).get c = (S 0).h.get c := fun c L hc => by
    have := h0 c L hc
    rw [get_Hat (by omega), view_now this]
  refine ⟨⟨?_, ?_, I.defs.mono (below_le _ _), ?_, I.pan.mono (below_le _ _), I.glob.mono (below_le _ _)⟩, ⟨I.ext.le, ?_, hn, I.ext.size, ?_, ?_, ?_, ?_, I.ext.env⟩⟩
  · intro d v hv
    rcases hR.regs_at d (Nat.le_refl ops.size) with ⟨j, o, h1, h2, h3, h4⟩ | ⟨h1, h2⟩
    · rw [h4] at hv; cases hv
      obtain ⟨v', a1, a2⟩ := I.slot j o d h2 (hall j h1) h3
      exact ⟨v', a1, a2.mono (below_le _ _)⟩
    · rw [h2] at hv
      obtain ⟨v', a1, a2⟩ := I.first d v (fun j o ho _ => h1 j o (op_lt ho) ho) hv
      exact ⟨v', a1, a2.mono (below_le _ _)⟩
  · rw [hR.size_eq (Nat.le_refl _)]; exact I.size
  · exact I.heap.same hg (I.wf ops.size (Nat.le_refl _)) (fun c hc => I.heap.fresh c (by rw [Hat_next]; exact hc))
  · intro c L hc
    rcases I.made c L hc with h | ⟨j, o, ho, _, h2, h3⟩
    · rw [I.old c h] at hc; exact .inl hc
    · have := op_lt ho
      have h4 := hR.next_le (Nat.zero_le j) (by omega)
      have h5 := hR.next_le (show j + 1 ≤ ops.size by omega) (Nat.le_refl _)
      exact .inr ⟨by omega, by omega⟩
  · intro c hc hni
    exact I.ext.kept c hc fun hi => hni (hi.same (fun b L hb => hg0 b L hb))
  · intro c hc hi
    exact (I.ext.imgL c hc (hi.same hg)).same (fun b L hb => hg0 b L hb)
  · intro c hc hi
    exact (I.ext.imgW c hc (hi.same hg)).same (fun b L hb => hg0 b L hb)
  · intro c hc hnone
    have hi : ι c = none := by rw [I.old c hc]; exact hnone
    have := I.free c hi
    rw [view_now (by omega), view_now hc] at this
    exact this

end Go.AM

namespace Go.AM
variable {P : Program} {ι ι0 : Inj} {h : AHeap} {w w0 : World}
variable {ops : Array Oper} {round : Option Nat} {S : Nat → ASt} {V : Nat → AV} {W : Nat → Bool} {kind : CallKind} {cs : List Frame} {E : Nat → Prop} {p i : Nat} {tm : Array Value} {ds : List Deferred} {o : Oper}

/-- On to the next act. -/
theorem inv_far (I : Inv P ops S V W kind cs ι0 w0 E p ι tm ds w) : ∃ q, p ≤ q ∧ q ≤ ops.size ∧ (q = ops.size ∨ Acts P ops W q) ∧ (∀ j, p ≤ j → j < q → ¬ Acts P ops W j) := by
  have hp := I.le
  clear I
  generalize hn : ops.size - p = n
  induction n generalizing p with
  | zero => exact ⟨p, Nat.le_refl _, hp, .inl (by omega), fun j h1 h2 => absurd h1 (by omega)⟩
  | succ n ih =>
    by_cases ha : Acts P ops W p
    · exact ⟨p, Nat.le_refl _, hp, .inr ha, fun j h1 h2 => absurd h1 (by omega)⟩
    · obtain ⟨q, h1, h2, h3, h4⟩ := ih (p := p + 1) (by omega) (by omega)
      refine ⟨q, by omega, h2, h3, fun j h5 h6 => ?_⟩
      by_cases e : j = p
      · subst e; exact ha
      · exact h4 j (by omega) h6

theorem last_act (i : Nat) : ∀ q, i < q → (∀ j, i < j → j < q → ¬ Acts P ops W j) ∨ ∃ a, i < a ∧ a < q ∧ Acts P ops W a ∧ ∀ j, a < j → j < q → ¬ Acts P ops W j := by
  intro q
  induction q with
  | zero => intro h; omega
  | succ q ih =>
    intro h
    by_cases e : i = q
    · subst e; exact .inl fun j h1 h2 => absurd h1 (by omega)
    · by_cases ha : Acts P ops W q
      · exact .inr ⟨q, by omega, by omega, ha, fun j h1 h2 => absurd h1 (by omega)⟩
      · have step : ∀ {a : Nat}, (∀ j, a < j → j < q → ¬ Acts P ops W j) → ∀ j, a < j → j < q + 1 → ¬ Acts P ops W j := fun {a} hh j h1 h2 => by
          by_cases e2 : j = q
          · subst e2; exact ha
          · exact hh j h1 (by omega)
        rcases ih (by omega) with h1 | ⟨a, h1, h2, h3, h4⟩
        · exact .inl (step h1)
        · exact .inr ⟨a, h1, by omega, h3, step h4⟩

theorem view_shifts (hR : Reg P ops round S V W) {q : Nat} (hq : q ≤ ops.size) (c : Nat) : ∀ {m : Nat}, m ≤ q → (∀ j, m ≤ j → j < q → ¬ Acts P ops W j) → view S ops.size m c = view S ops.size q c := by
  intro m hm
  generalize hn : q - m = n
  induction n generalizing m with
  | zero =>
    intro _
    obtain rfl : m = q := by omega
    rfl
  | succ n ih =>
    intro hna
    obtain ⟨o, ho⟩ := op_at (show m < ops.size by omega)
    rw [view_calm (by omega) (hR.calm ho (hna m (by omega) (by omega))).1]
    exact ih (m := m + 1) (by omega) (by omega) (fun j h1 h2 => hna j (by omega) h2)

/-- A place at which a read tells the same. -/
theorem read_place (hR : Reg P ops round S V W) (I : Inv P ops S V W kind cs ι0 w0 E p ι tm ds w) (hy : Ready ops E i o) (hw : W i = true) (hc : opClass P o.op = .reads) :
    ∃ q m g2, p ≤ q ∧ q ≤ ops.size ∧ (∀ j, p ≤ j → j < q → ¬ Acts P ops W j) ∧ m ≤ q ∧ (∀ j, m ≤ j → j < q → ¬ Acts P ops W j) ∧ aexec o.op P (S i).regs (S m).h = .val (V i) g2 := by
  have hi := op_lt hy.op
  obtain ⟨hx, _, _⟩ := (hR.step i o hy.op).calm hw (.inr hc)
  obtain ⟨b, hb⟩ := before_at hy.op
  have hnai : ¬ Acts P ops W i := by
    rintro ⟨o', ho', _, hc'⟩
    rw [hy.op] at ho'; cases ho'
    rw [hc] at hc'; cases hc'
  obtain ⟨q, h1, h2, h3, h4⟩ := inv_far I
  have Iq := inv_shifts hR h2 h1 h4 I
  by_cases hqi : q < i
  · have ha : Acts P ops W q := by
      rcases h3 with h3 | h3
      · omega
      · exact h3
    have hnE : ¬ E q := fun hE => absurd ((Iq.acts q ha).1 hE) (by omega)
    obtain ⟨o', ho', hw', hc'⟩ := ha
    have hbit : b.testBit q = false := by
      cases hbit : b.testBit q with
      | false => rfl
      | true => exact absurd (hy.tied hR hb hbit) hnE
    obtain ⟨g2, hg2⟩ := sameRead_spec (hR.reads i o b q o' hy.op hb hw hc hqi ho' hw' hc' hbit) hx
    exact ⟨q, q, g2, h1, h2, h4, Nat.le_refl _, fun j h5 h6 => absurd h5 (by omega), hg2⟩
  · have hiq : i < q := by
      by_cases e : i = q
      · subst e
        rcases h3 with h3 | h3
        · omega
        · exact absurd h3 hnai
      · omega
    rcases last_act (P := P) (ops := ops) (W := W) i q hiq with h5 | ⟨a, h5, h6, h7, h8⟩
    · refine ⟨q, i, _, h1, h2, h4, by omega, fun j h6 h7 => ?_, hx⟩
      by_cases e : j = i
      · subst e; exact hnai
      · exact h5 j (by omega) h7
    · have hE : E a := (Iq.acts a h7).2 h6
      obtain ⟨o', ho', hw', hc'⟩ := h7
      obtain ⟨b', hb'⟩ := before_at ho'
      have hbit : b'.testBit i = false := by
        cases hbit : b'.testBit i with
        | false => rfl
        | true => exact absurd (hy.later hb' hE hbit) hy.new
      obtain ⟨g2, hg2⟩ := sameRead_spec (hR.readsB a o' b' i o ho' hb' hw' hc' h5 hy.op hw hc hbit) hx
      exact ⟨q, a + 1, g2, h1, h2, h4, by omega, fun j h9 h10 => h8 j (by omega) h10, hg2⟩

theorem nd_of (hc : opClass P o.op = .still ∨ opClass P o.op = .reads) : ∀ c, o.op ≠ .defer c := by
  intro c hcd
  rw [hcd] at hc
  rcases hc with hc | hc <;> cases hc

/-- One operation of the region, in the machine. -/
theorem drawn_step (hR : Reg P ops round S V W) {b : Frame} (I : Inv P ops S V W b.kind cs ι0 w0 E p ι tm ds w) (hy : Ready ops E i o) (hround : round = none → b.roundOf = none) (rest : List Nat) (k : List Item) :
    ∃ p' ι' tm' ds' w', Inv P ops S V W b.kind cs ι0 w0 (fun j => E j ∨ j = i) p' ι' tm' ds' w' ∧
      Steps P (lone (fon b tm ds (.inRegion ops (i :: rest) :: k)) (csAt cs (S p).pan) w) (lone (fon b tm' ds' (.inRegion ops rest :: k)) (csAt cs (S p').pan) w') := by
  have hi := op_lt hy.op
  have st := hR.step i o hy.op
  have hwant := want_ok hR I hy
  cases hw : W i with
  | false =>
    rw [hw] at hwant
    have hna : ¬ Acts P ops W i := by
      rintro ⟨_, _, hw', _⟩
      rw [hw] at hw'; cases hw'
    obtain ⟨hv, _⟩ := st.skip hw
    exact ⟨p, ι, _, ds, w, inv_value hR I hy hna (v' := Go.undef) (by rw [hv]; exact undef_VR _), .one (on_unwanted hy.op hwant)⟩
  | true =>
    rw [hw] at hwant
    cases hc : opClass P o.op with
    | still =>
      have hna : ¬ Acts P ops W i := by
        rintro ⟨o', ho', _, hc'⟩
        rw [hy.op] at ho'; cases ho'
        rw [hc] at hc'; cases hc'
      obtain ⟨hx, _, _⟩ := st.calm hw (.inl hc)
      rw [← aexec_seen] at hx
      have hρ := operands_ok hR I hy (fr := fon b tm ds (.inRegion ops (i :: rest) :: k)) rfl
      have hmax : max (i + 1) p ≤ ops.size := max_le_of (by omega) I.le
      have hm1 : (S (max i p)).h.next ≤ (S (max (i + 1) p)).h.next := hR.next_le (by omega) hmax
      rcases still_sound hc hρ hx with ⟨_, v', h1, h2⟩ | ⟨kk, hS, hal⟩
      · exact ⟨p, ι, _, ds, w, inv_value hR I hy hna (h1.mono (below_mono hm1)), .one (on_value hy.op hwant (.inr (nd_of (.inl hc))) (h2 w))⟩
      · obtain ⟨obj, u, size, extra, v', hu, hrun, hb⟩ := hal w
        have e1 : (S i).h.next < (S (i + 1)).h.next := by rw [hS, AHeap.next_new]; omega
        have hnone := none_made hR I hy (Nat.le_refl _) e1
        have hle : ι.le (ι.upd (S i).h.next ⟨w.heap.size, 0, size, extra⟩) := Inj.upd_le hnone
        obtain ⟨h3, h4⟩ := hb (below (ι.upd (S i).h.next ⟨w.heap.size, 0, size, extra⟩) (S (max (i + 1) p)).h.next) (below_two hle hm1)
          (below_of (Nat.lt_of_lt_of_le e1 (hR.next_le (by omega) hmax)) (by simp [Inj.upd]))
        exact ⟨p, _, _, ds, u, inv_made hR I hy hna hS hu h3 h4, .one (on_value hy.op hwant (.inr (nd_of (.inl hc))) hrun)⟩
    | reads =>
      have hna : ¬ Acts P ops W i := by
        rintro ⟨o', ho', _, hc'⟩
        rw [hy.op] at ho'; cases ho'
        rw [hc] at hc'; cases hc'
      obtain ⟨q, m, g2, h1, h2, h3, h4, h5, h6⟩ := read_place hR I hy hw hc
      have Iq := inv_shifts hR h2 h1 h3 I
      rw [← pan_shifts hR h2 h1 h3]
      rw [← aexec_seen] at h6
      have hρ := operands_ok hR Iq hy (fr := fon b tm ds (.inRegion ops (i :: rest) :: k)) rfl
      obtain ⟨_, hr⟩ := reads_sound hc hρ h6
      have hmax : max i q ≤ ops.size := max_le_of (by omega) h2
      have hmax' : max (i + 1) q ≤ ops.size := max_le_of (by omega) h2
      have hHB : HB (below ι (S (max i q)).h.next) (S m).h w := by
        intro c kc L hk hL
        obtain ⟨_, hL2⟩ := below_lt hL
        have hlt := Iq.wf m h4 c kc hk
        have hlt2 : c < (S q).h.next := Nat.lt_of_lt_of_le hlt (hR.next_le h4 h2)
        have := Iq.rows c kc L (by rw [← view_shifts hR h2 c h4 h5, view_now hlt]; exact hk) hL2
        rw [lim_now hlt2] at this
        exact this.mono (below_mono (hR.next_le (by omega) hmax))
      obtain ⟨v', h7, h8⟩ := hr w hHB
      exact ⟨q, ι, _, ds, w, inv_value hR Iq hy hna (h7.mono (below_mono (hR.next_le (by omega) hmax'))), .one (on_value hy.op hwant (.inr (nd_of (.inr hc))) h8)⟩
    | acts =>
      have ha : Acts P ops W i := ⟨o, hy.op, hw, hc⟩
      obtain ⟨bi, hbi⟩ := before_at hy.op
      have hp : p ≤ i := by
        by_cases e : p ≤ i
        · exact e
        · exact absurd ((I.acts i ha).2 (by omega)) hy.new
      have hno : ∀ j, p ≤ j → j < i → ¬ Acts P ops W j := by
        intro j h1 h2 hj
        have hE : E j := by
          obtain ⟨o', ho', hw', hc'⟩ := hj
          exact hy.tied hR hbi (hR.tied i o bi j o' hy.op hbi hw hc h2 ho' hw' hc')
        have := (I.acts j hj).1 hE
        omega
      have Ii := inv_shifts hR (show i ≤ ops.size by omega) hp hno I
      rw [← pan_shifts hR (show i ≤ ops.size by omega) hp hno]
      have hρ := operands_ok hR Ii hy (fr := fon b tm ds (.inRegion ops (i :: rest) :: k)) rfl
      rw [Nat.max_self] at hρ
      have hat : OpAt P ops i o round (S i) b tm ds cs (below ι (S i).h.next) w (fon b tm ds (.inRegion ops (i :: rest) :: k)) :=
        ⟨hy.op, hwant, hround, hρ, act_heap hR hi Ii, Ii.defs, Ii.pan, Ii.glob.mono (below_mono (hR.next_le (Nat.zero_le _) (by omega)))⟩
      obtain ⟨κ, v', ds', u, a1, a2, a3, a4, a5, a6⟩ := st.act hw ops i rest b tm ds cs k _ w hat
      exact ⟨i + 1, _, _, ds', u, inv_act hR Ii hy a1 a2 a3 a4 a5, a6⟩

theorem drawn_end (hR : Reg P ops round S V W) {b : Frame} (I : Inv P ops S V W b.kind cs ι0 w0 E p ι tm ds w) (hall : ∀ j, j < ops.size → E j) (hh : HR ι0 (S 0).h w0) (k : List Item) :
    ∃ κ tm' ds' u, Good P κ b.kind cs (S ops.size) tm' ds' u ∧ Ext ι0 (S 0).h w0 κ (S ops.size).h u ∧
      Steps P (lone (fon b tm ds (.inRegion ops [] :: k)) (csAt cs (S p).pan) w) (lone (fon b tm' ds' k) (csAt cs (S ops.size).pan) u) := by
  have hno : ∀ j, p ≤ j → j < ops.size → ¬ Acts P ops W j := fun j h1 h2 hj => by
    have := (I.acts j hj).1 (hall j h2); omega
  have In := inv_shifts hR (Nat.le_refl _) I.le hno I
  rw [← pan_shifts hR (Nat.le_refl _) I.le hno]
  obtain ⟨h1, h2⟩ := inv_end hR In hall hh
  exact ⟨ι, tm, ds, w, h1, h2, .one on_done⟩

/-- Something is ready while not all is done. -/
theorem all_listed {listed : Array Bool} (hR : Reg P ops round S V W) (hs : listed.size = ops.size) (hr : Region.ready .any ops listed = []) : ∀ j, j < ops.size → listed.getD j false = true := by
  intro j
  induction j using Nat.strongRecOn with
  | _ j ih =>
    intro hj
    cases hl : listed.getD j false with
    | true => rfl
    | false =>
      exfalso
      obtain ⟨o, ho⟩ := op_at hj
      obtain ⟨b, hb, hown⟩ := before_own ho
      have : j ∈ Region.ready .any ops listed := mem_ready.2 ⟨by
          rw [Array.getD_eq_getD_getElem?] at hl ⊢
          have : j < listed.size := by omega
          simp only [this, Array.getElem?_eq_getElem, Option.getD_some] at hl ⊢
          exact hl, o, ho, fun e he hbe => by
          have hlt := bit_lt (hR.bits j b hb) (hown e he hbe)
          exact ih e.on hlt (by omega)⟩
      rw [hr] at this; cases this

theorem getD_true_of {listed : Array Bool} {i j : Nat} (hi : i < listed.size) : (listed.setIfInBounds i true).getD j false = true ↔ (listed.getD j false = true ∨ j = i) := by
  rw [Array.getD_eq_getD_getElem?, Array.getD_eq_getD_getElem?, Array.getElem?_setIfInBounds]
  by_cases e : i = j
  · subst e; simp [hi]
  · have e' : ¬ j = i := fun h => e h.symm
    simp [e, e']

theorem drawn_go (hR : Reg P ops round S V W) {b : Frame} (hround : round = none → b.roundOf = none) (k : List Item) (hh : HR ι0 (S 0).h w0) : ∀ (fuel t : Nat) (listed : Array Bool) (p : Nat) (ι : Inj) (tm : Array Value) (ds : List Deferred) (w : World),
    listed.size = ops.size → (∀ k o, ops[k]? = some o → listed.getD k false = true → ∀ e ∈ o.after, Region.binds .any e = true → listed.getD e.on false = true) → listed.toList.count false ≤ fuel →
    Inv P ops S V W b.kind cs ι0 w0 (fun j => listed.getD j false = true) p ι tm ds w →
    ∃ κ tm' ds' u, Good P κ b.kind cs (S ops.size) tm' ds' u ∧ Ext ι0 (S 0).h w0 κ (S ops.size).h u ∧
      Steps P (lone (fon b tm ds (.inRegion ops (Region.linearise.go .any ops fuel t listed []) :: k)) (csAt cs (S p).pan) w) (lone (fon b tm' ds' k) (csAt cs (S ops.size).pan) u) := by
  intro fuel
  induction fuel with
  | zero =>
    intro t listed p ι tm ds w hs hcl hcount I
    simp only [Region.linearise.go, List.reverse_nil]
    refine drawn_end hR I (fun j hj => ?_) hh k
    cases hl : listed.getD j false with
    | true => rfl
    | false =>
      exfalso
      have : false ∈ listed.toList := by
        rw [Array.getD_eq_getD_getElem?] at hl
        have hj' : j < listed.size := by omega
        simp only [hj', Array.getElem?_eq_getElem, Option.getD_some] at hl
        rw [← hl]
        exact Array.mem_toList_iff.2 (Array.getElem_mem hj')
      have := List.count_pos_iff.2 this
      omega
  | succ fuel ih =>
    intro t listed p ι tm ds w hs hcl hcount I
    simp only [Region.linearise.go]
    change ∃ κ tm' ds' u, Good P κ b.kind cs (S ops.size) tm' ds' u ∧ Ext ι0 (S 0).h w0 κ (S ops.size).h u ∧
      Steps P (lone (fon b tm ds (.inRegion ops (match (Region.ready .any ops listed)[t % (Region.ready .any ops listed).length]? with
      | some i => Region.linearise.go .any ops fuel (t / (Region.ready .any ops listed).length) (listed.setIfInBounds i true) [i]
      | none => [].reverse) :: k)) (csAt cs (S p).pan) w) (lone (fon b tm' ds' k) (csAt cs (S ops.size).pan) u)
    cases hi : (Region.ready .any ops listed)[t % (Region.ready .any ops listed).length]? with
    | none =>
      have hnil : Region.ready .any ops listed = [] := by
        cases hr : Region.ready .any ops listed with
        | nil => rfl
        | cons x xs =>
          rw [hr] at hi
          have hlt : t % (x :: xs).length < (x :: xs).length := Nat.mod_lt _ (by simp)
          simp at hi
          simp at hlt
          omega
      exact drawn_end hR I (all_listed hR hs hnil) hh k
    | some i =>
      simp only []
      rw [linearise_go_acc, List.reverse_singleton, List.singleton_append]
      obtain ⟨h0, o, ho, hown⟩ := mem_ready.1 (List.mem_of_getElem? hi)
      have hlt := op_lt ho
      have hltl : i < listed.size := by omega
      have hfalse : listed[i] = false := by
        rw [Array.getD_eq_getD_getElem?] at h0
        simpa only [hltl, Array.getElem?_eq_getElem, Option.getD_some] using h0
      have hy : Ready ops (fun j => listed.getD j false = true) i o := ⟨ho, by
        rw [Array.getD_eq_getD_getElem?]
        simp only [hltl, Array.getElem?_eq_getElem, Option.getD_some, hfalse]
        simp, hcl, hown⟩
      obtain ⟨p', ι', tm', ds', w', I', hst⟩ := drawn_step hR I hy hround (Region.linearise.go .any ops fuel (t / (Region.ready .any ops listed).length) (listed.setIfInBounds i true) []) k
      have hE : (fun j => listed.getD j false = true ∨ j = i) = (fun j => (listed.setIfInBounds i true).getD j false = true) := by
        funext j
        exact propext (getD_true_of hltl).symm
      rw [hE] at I'
      obtain ⟨κ, tm2, ds2, u, h1, h2, h3⟩ := ih (t / (Region.ready .any ops listed).length) (listed.setIfInBounds i true) p' ι' tm' ds' w' (by simp [hs]) (by
        intro k o' ho' hk e he hbe
        rw [getD_true_of hltl] at hk ⊢
        rcases hk with hk | rfl
        · exact .inl (hcl k o' ho' hk e he hbe)
        · rw [ho] at ho'; cases ho'
          exact .inl (hown e he hbe)) (by
        rw [Array.toList_setIfInBounds, List.count_set (by simpa using hltl)]
        have h5 : listed.toList[i] = false := by simpa using hfalse
        have : false ∈ listed.toList := by rw [← h5]; exact List.getElem_mem _
        have := List.count_pos_iff.2 this
        have e3 : ((true : Bool) == false) = false := rfl
        simp only [h5, beq_self_eq_true, if_true, e3, Bool.false_eq_true, if_false]
        omega) I'
      exact ⟨κ, tm2, ds2, u, h1, h2, hst.trans h3⟩

theorem drawnOk {rec : Job → ASt → Option Ans} (hrec : RecOk P rec) : DrawnOk P rec := by
  intro ops round s r he b cs k tm ds ι w t hround hg
  obtain ⟨S, V, W, rfl, rfl, hR⟩ := reg_of hrec he
  have I := inv_start hR hg
  have hE : (fun _ => False) = (fun j => (Array.replicate ops.size false).getD j false = true) := by
    funext j
    refine propext ⟨fun h => h.elim, fun h => ?_⟩
    rw [Array.getD_eq_getD_getElem?] at h
    by_cases hj : j < ops.size
    · simp [hj] at h
    · simp [hj] at h
  rw [hE] at I
  obtain ⟨κ, tm', ds', u, h1, h2, h3⟩ := drawn_go hR hround k hg.heap ops.size t (Array.replicate ops.size false) 0 ι tm ds w (by simp) (by
    intro k o _ hk
    have : (fun _ => False) k := by rw [hE]; exact hk
    exact this.elim) (by simp) I
  refine ⟨κ, tm', ds', u, h1, h2, ?_⟩
  simp only [Region.schedule, Bool.true_or, if_true]
  exact h3

/-- The evaluator is right. -/
theorem ev_sound (hm : P.follows .mixedOrders = true) : ∀ n, RecOk P (ev P n) := ev_ok hm fun _ h => drawnOk h

end Go.AM
