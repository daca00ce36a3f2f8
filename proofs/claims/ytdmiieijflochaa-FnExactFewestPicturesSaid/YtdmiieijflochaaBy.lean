/-
  PROVED HERE: rows of bytes that the call owns: what they read as as a text; rows of two types never share a block. CONDITIONS: as each theorem names them.
-/
import Derived.Test.YtdmiieijflochaaSl
import Derived.Laws.IdiomStrings
namespace Go.Proofs.Ytdmiieijflochaa
open Go.RowKit

theorem info_u8 : (Try.prog.info? 5).map (fun i => (i.zero, i.size, i.bytes)) = some (some (.int .u8 0), 1, 1) := by kernel_rfl
/-- The cells of bytes. -/
def bcl (l : List UInt8) : List Value := l.map fun b => .int .u8 (b.toNat : Int)
theorem bcl_len (l : List UInt8) : (bcl l).length = l.length := by simp [bcl]
theorem bcl_app (l r : List UInt8) : bcl (l ++ r) = bcl l ++ bcl r := by simp [bcl]
theorem bcl_one (b : UInt8) : bcl [b] = [.int .u8 (b.toNat : Int)] := rfl
/-- A text of bytes. -/
def txt (l : List UInt8) : ByteArray := ⟨l.toArray⟩
theorem txt_size (l : List UInt8) : (txt l).size = l.length := rfl
theorem conv_own {w : World} {base n c : Nat} {A : Option Addr} {l : List UInt8} (h : w.ownsRow base 5 1 (.slice A n c) n (bcl l)) (hn : 1 ≤ n) :
    (convert 72 9 (.slice A n c)).run Try.prog w = .ok (.string (txt l)) w := by
  have hl : l.length = n := by have := h.1; rw [bcl_len] at this; omega
  obtain ⟨g, cap, hv, _, _⟩ := h.form (by omega)
  obtain ⟨rfl, rfl⟩ : A = some ⟨g, 0, none⟩ ∧ c = cap := by injection hv; exact ⟨by assumption, by assumption⟩
  subst hl
  exact run_convert_bytes_back (P := Try.prog) w 72 9 5 ⟨g, 0, none⟩ c l Try.underlying72 Try.underlying5 Try.underlying9 (fun j hj =>
    h.cells (g := g) rfl j (.int .u8 (l[j].toNat : Int)) (by rw [bcl, List.getElem?_map, List.getElem?_eq_getElem hj]; rfl))
theorem own_types {w : World} {B B' e e' n m s s' : Nat} {u v : Value} {xs ys : List Value} (h : w.ownsRow B e s u n xs) (h' : w.ownsRow B' e' s' v m ys) (hne : e ≠ e') : ∀ g, u.ownBlock = some g → v.ownBlock ≠ some g := by
  intro g h1 h2
  rcases h.2 with ⟨e1, _⟩ | ⟨g1, _, _, e1, _, hh1, _⟩
  · rw [e1] at h1; cases h1
  · rcases h'.2 with ⟨e2, _⟩ | ⟨g2, _, _, e2, _, hh2, _⟩
    · rw [e2] at h2; cases h2
    · rw [e1] at h1
      rw [e2] at h2
      have b1 : g1 = g := by injection h1
      have b2 : g2 = g := by injection h2
      subst b1
      subst b2
      rw [hh1] at hh2
      injection hh2 with hh2
      injection hh2 with _ ht
      exact hne ht
theorem own_types_kept {w w' : World} {B B' e e' n m s s' : Nat} {u v : Value} {xs ys : List Value} (h : w.ownsRow B e s u n xs) (h' : w.ownsRow B' e' s' v m ys) (hne : e ≠ e') (hg : w.grownBy w' v.ownBlock) : w'.ownsRow B e s u n xs := by
  refine h.kept hg ?_
  cases hb : u.ownBlock with
  | none => exact .inl rfl
  | some g => exact .inr fun e1 => own_types h h' hne g hb e1.symm
theorem one_u8 (b : UInt8) : ∀ u ∈ [Value.int .u8 (b.toNat : Int)], u.oneCell' = true := by
  intro u hu; simp only [List.mem_singleton] at hu; subst hu; rfl
theorem getD_at {s : ByteArray} {m : Nat} (h : m < s.size) : s.data.toList.getD m 0 = s[m] := by
  rw [List.getD_eq_getElem?_getD, List.getElem?_eq_getElem (by simpa using h)]; rfl
end Go.Proofs.Ytdmiieijflochaa
