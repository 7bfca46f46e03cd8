/- Printed by row.py: data handed in. -/
import Derived.Test.YtknedifgapgmbaaSyLaw
import Derived.Test.YtknedifgapgmbaaSyMap
import Derived.Test.YtknedifgapgmbaaMgKd
import Derived.Test.YtknedifgapgmbaaRows
set_option linter.unusedVariables false
set_option maxRecDepth 100000
namespace Go.Proofs.Ytknedifgapgmbaa.Mo
open Go Go.Proofs.Ytknedifgapgmbaa.Sy Go.ChangeShapes Go.WideShapes Go.RowKit
open Go.Proofs Go.Proofs.Ytknedifgapgmbaa

def Bk {H : Type} (d : DataW H) : Nat := Rows.uptoBulk d
def Bl {H : Type} (d : List (DataW H)) : Nat := Rows.uptoBulkAll d
theorem Bk_one {H : Type} (d : DataW H) : 1 ≤ Bk d := by
  cases d with
  | lit l => cases l <;> simp [Bk, Rows.uptoBulk]
  | nil => simp [Bk, Rows.uptoBulk]
  | ptr d => simp [Bk, Rows.uptoBulk]
  | slice elems spare => simp [Bk, Rows.uptoBulk]
  | agg parts => simp [Bk, Rows.uptoBulk]
  | iface t d => simp [Bk, Rows.uptoBulk]
  | map entries => simp [Bk, Rows.uptoBulk]
  | held h => simp [Bk, Rows.uptoBulk]
theorem hB : Bulk @Bk @Bl where
  one := Bk_one
  str l := by simp [Bk, Rows.uptoBulk]
  slice e s := by simp only [Bk, Bl, Rows.uptoBulk]; omega
  agg l := by simp only [Bk, Bl, Rows.uptoBulk]; omega
  ptr d := by simp only [Bk, Rows.uptoBulk]; omega
  nil := rfl
  cons d l := rfl
theorem in_9 : In Try.prog Bk 9 Kd.str (fun s => s.size ≤ maxLen) (fun s => s.size + 1) (fun s => s.size ≤ 140737488355327) := in_str hB Try.underlying9 (by kernel_rfl)
theorem in_30 : In Try.prog Bk 30 (Kd.int .u64) (fun s => (Lit.int .u64 s).wf = true) (fun _ => 1) (fun _ => True) := in_int hB Try.underlying30 (by kernel_rfl)
theorem in_3 : In Try.prog Bk 3 (Kd.int .i64) (fun s => (Lit.int .i64 s).wf = true) (fun _ => 1) (fun _ => True) := in_int hB Try.underlying3 (by kernel_rfl)
def Entry.good (x : Entry) : Prop := (x.Key.size ≤ maxLen) ∧ ((Lit.int .u64 x.Seq).wf = true) ∧ ((Lit.int .i64 x.Kind).wf = true) ∧ (x.Value.size ≤ maxLen)
def Entry.szs (x : Entry) : Prop := (x.Key.size ≤ 140737488355327) ∧ (True) ∧ (True) ∧ (x.Value.size ≤ 140737488355327)
def Entry.mz (x : Entry) : Nat := ((x.Key.size + 1) + (1 + (1 + (x.Value.size + 1)))) + 1
theorem in_32 : In Try.prog Bk 32 k_Entry Entry.good Entry.mz Entry.szs := by
  have h := in_struct hB Try.underlying32 (by kernel_rfl) (inF_cons hB in_9 rfl (inF_cons hB in_30 rfl (inF_cons hB in_3 rfl (inF_one hB in_9))))
  exact h.map (fun x => ⟨x.1, x.2.1, x.2.2.1, x.2.2.2⟩) rfl (fun h => by obtain ⟨_, _, rfl, rfl, ⟨_, _, rfl, rfl, ⟨_, _, rfl, rfl, rfl⟩⟩⟩ := h; rfl) (fun a h => h) (fun a => Nat.le_refl _) (fun a h => h)
theorem bytes_32 : Try.prog.bytesOf 32 = 48 := by kernel_rfl
theorem in_24 : In Try.prog Bk 24 (Kd.slice 32 k_Entry) (fun l => (∀ y ∈ l, Entry.good y) ∧ l.length ≤ maxLen) (fun l => (l.map fun y => Entry.mz y).sum + 1) (fun l => l.length * 48 ≤ 140737488355327 ∧ ∀ y ∈ l, Entry.szs y) := by
  have h := in_slice hB Try.underlying24 (by kernel_rfl) in_32 (by decide)
  rw [bytes_32] at h
  exact h
def IKey.good (x : IKey) : Prop := (x.Key.size ≤ maxLen) ∧ ((Lit.int .u64 x.Seq).wf = true) ∧ ((Lit.int .i64 x.Kind).wf = true)
def IKey.szs (x : IKey) : Prop := (x.Key.size ≤ 140737488355327) ∧ (True) ∧ (True)
def IKey.mz (x : IKey) : Nat := ((x.Key.size + 1) + (1 + 1)) + 1
theorem in_42 : In Try.prog Bk 42 k_IKey IKey.good IKey.mz IKey.szs := by
  have h := in_struct hB Try.underlying42 (by kernel_rfl) (inF_cons hB in_9 rfl (inF_cons hB in_30 rfl (inF_one hB in_3)))
  exact h.map (fun x => ⟨x.1, x.2.1, x.2.2⟩) rfl (fun h => by obtain ⟨_, _, rfl, rfl, ⟨_, _, rfl, rfl, rfl⟩⟩ := h; rfl) (fun a h => h) (fun a => Nat.le_refl _) (fun a h => h)
def L19_Move.good (x : L19_Move) : Prop := ((Lit.int .i64 x.Kind).wf = true) ∧ (IKey.good x.Key)
def L19_Move.szs (x : L19_Move) : Prop := (True) ∧ (IKey.szs x.Key)
def L19_Move.mz (x : L19_Move) : Nat := (1 + IKey.mz x.Key) + 1
theorem in_44 : In Try.prog Bk 44 k_L19_Move L19_Move.good L19_Move.mz L19_Move.szs := by
  have h := in_struct hB Try.underlying44 (by kernel_rfl) (inF_cons hB in_3 rfl (inF_one hB in_42))
  exact h.map (fun x => ⟨x.1, x.2⟩) rfl (fun h => by obtain ⟨_, _, rfl, rfl, rfl⟩ := h; rfl) (fun a h => h) (fun a => Nat.le_refl _) (fun a h => h)
end Go.Proofs.Ytknedifgapgmbaa.Mo
