/- Printed by row.py: data handed in. -/
import Derived.Test.YtlhmchndcilifaaGreatSyLaw
import Derived.Test.YtlhmchndcilifaaGreatSyMap
import Derived.Test.YtlhmchndcilifaaGreatVzKd
import Derived.Test.YtlhmchndcilifaaGreatRows
set_option linter.unusedVariables false
set_option maxRecDepth 100000
namespace Go.Proofs.YtlhmchndcilifaaGreat.Mo
open Go Go.Proofs.YtlhmchndcilifaaGreat.Sy Go.ChangeShapes Go.WideShapes Go.RowKit
open Go.Proofs Go.Proofs.YtlhmchndcilifaaGreat

def Bk {H : Type} (d : DataW H) : Nat := Rows.uptoBulk d
def Bl {H : Type} (d : List (DataW H)) : Nat := Rows.uptoBulkAll d
theorem Bk_one {H : Type} (d : DataW H) : 1 ≤ Bk d := by
  cases d with
  | lit l => cases l <;> simp [Bk, Rows.uptoBulk]
  | nil => simp [Bk, Rows.uptoBulk]
  | ptr d => simp [Bk, Rows.uptoBulk]
  | slice elems spare => simp [Bk, Rows.uptoBulk]
  | agg parts => simp [Bk, Rows.uptoBulk]
  | iface t d => simp [Bk, Rows.uptoBulk]
  | map entries => simp [Bk, Rows.uptoBulk]
  | held h => simp [Bk, Rows.uptoBulk]
theorem hB : Bulk @Bk @Bl where
  one := Bk_one
  str l := by simp [Bk, Rows.uptoBulk]
  slice e s := by simp only [Bk, Bl, Rows.uptoBulk]; omega
  agg l := by simp only [Bk, Bl, Rows.uptoBulk]; omega
  ptr d := by simp only [Bk, Rows.uptoBulk]; omega
  nil := rfl
  cons d l := rfl
theorem in_9 : In Tryz.prog Bk 9 Kd.str (fun s => s.size ≤ maxLen) (fun s => s.size + 1) (fun s => s.size ≤ 140737488355327) := in_str hB Tryz.underlying9 (by kernel_rfl)
theorem in_24 : In Tryz.prog Bk 24 (Kd.int .u64) (fun s => (Lit.int .u64 s).wf = true) (fun _ => 1) (fun _ => True) := in_int hB Tryz.underlying24 (by kernel_rfl)
def Tomb.good (x : Tomb) : Prop := (x.Begin.size ≤ maxLen) ∧ (x.End.size ≤ maxLen) ∧ ((Lit.int .u64 x.Seq).wf = true)
def Tomb.szs (x : Tomb) : Prop := (x.Begin.size ≤ 140737488355327) ∧ (x.End.size ≤ 140737488355327) ∧ (True)
def Tomb.mz (x : Tomb) : Nat := ((x.Begin.size + 1) + ((x.End.size + 1) + 1)) + 1
theorem in_32 : In Tryz.prog Bk 32 k_Tomb Tomb.good Tomb.mz Tomb.szs := by
  have h := in_struct hB Tryz.underlying32 (by kernel_rfl) (inF_cons hB in_9 rfl (inF_cons hB in_9 rfl (inF_one hB in_24)))
  exact h.map (fun x => ⟨x.1, x.2.1, x.2.2⟩) rfl (fun h => by obtain ⟨_, _, rfl, rfl, ⟨_, _, rfl, rfl, rfl⟩⟩ := h; rfl) (fun a h => h) (fun a => Nat.le_refl _) (fun a h => h)
theorem bytes_32 : Tryz.prog.bytesOf 32 = 40 := by kernel_rfl
theorem in_23 : In Tryz.prog Bk 23 (Kd.slice 32 k_Tomb) (fun l => (∀ y ∈ l, Tomb.good y) ∧ l.length ≤ maxLen) (fun l => (l.map fun y => Tomb.mz y).sum + 1) (fun l => l.length * 40 ≤ 140737488355327 ∧ ∀ y ∈ l, Tomb.szs y) := by
  have h := in_slice hB Tryz.underlying23 (by kernel_rfl) in_32 (by decide)
  rw [bytes_32] at h
  exact h
end Go.Proofs.YtlhmchndcilifaaGreat.Mo
