/- What is known of strings.Contains; condition: the contract of the guide's shelf. -/
import Derived.Test.YtcplpfnieabelaaGreatDoorAmF
import Derived.Shelf.Strings.Search3
namespace Go.AM
open Go
variable {P : Program}

/-! What strings.Contains returns, whatever internal/bytealg.MaxLen holds. -/
noncomputable def containsOf : Option ABlk → List AV → Option AV
  | some (.cells (.any .i64 :: _) _ _), [.str s, .str sub] => match Nat.blt s.size 4294967281 with
    | true => some (.bool (Lib.contains s.data.toList sub.data.toList))
    | false => none
  | _, _ => none

noncomputable def conContains (fc gm : Nat) : Cons := fun f args h => match Nat.beq f fc with
  | true => containsOf (h.get gm) args
  | false => none

theorem consOk_contains {fc gm : Nat} (hf : ∃ fn, P.funcs[fc]? = some fn ∧ fn.body.isSome = true ∧ (fn.name == "runtime.NumGoroutine") = false) (hg : gm < P.globals.size)
    (hc : ∀ (s sub : ByteArray) (m : Int) (w : World), s.size < 4294967281 → w.cell? ⟨gm, 0, none⟩ = some (.int .i64 m) →
      Calls P fc #[.string s, .string sub] w fun e w' => e = .returned (.bool (Lib.contains s.data.toList sub.data.toList)) ∧ w' = w) : ConsOk P (conContains fc gm) := by
  intro f args h v he s hs hp
  unfold conContains at he
  split at he
  · rename_i hb
    obtain rfl := Nat.eq_of_beq_eq_true hb
    unfold containsOf at he
    split at he
    · rename_i cs ro ex a b hget
      split at he
      · rename_i hlt
        cases he
        refine ncall_same hf fun args' ι w hv hh hgr => ?_
        obtain ⟨x, l1, hx, ⟨y, l2, hy, hl2, rfl⟩, rfl⟩ := hv
        have hx' : x = .string a := hx
        have hy' : y = .string b := hy
        have hl : l2 = [] := hl2
        subst hx' hy' hl
        obtain ⟨L, hL, hblk, hbase⟩ := hgr gm hg
        have hget' : s.h.get gm = some (.cells (.any .i64 :: cs) ro ex) := by rw [hs]; exact hget
        obtain ⟨c, elem, fz, b1, b2, b3, b4, b5⟩ := hh.blocks gm _ L hget' hL
        obtain ⟨v', c1, m, rfl⟩ := b4 0 (.any .i64) rfl
        rw [hbase] at c1
        rw [hblk] at b1
        refine ⟨_, rfl, hc a b m w (Nat.le_of_ble_eq_true hlt) ?_⟩
        unfold World.cell?
        simp only [b1]
        simpa using c1
      · cases he
    · cases he
  · cases he

end Go.AM
