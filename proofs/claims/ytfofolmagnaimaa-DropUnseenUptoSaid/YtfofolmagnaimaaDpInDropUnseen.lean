/- Printed by row.py: data handed in. -/
import Derived.Test.YtfofolmagnaimaaSyLaw
import Derived.Test.YtfofolmagnaimaaSyMap
import Derived.Test.YtfofolmagnaimaaDpKd
import Derived.Test.YtfofolmagnaimaaRows
set_option linter.unusedVariables false
set_option maxRecDepth 100000
namespace Go.Proofs.Ytfofolmagnaimaa.Mo
open Go Go.Proofs.Ytfofolmagnaimaa.Sy Go.ChangeShapes Go.WideShapes Go.RowKit
open Go.Proofs Go.Proofs.Ytfofolmagnaimaa

def Bk {H : Type} (d : DataW H) : Nat := Rows.uptoBulk d
def Bl {H : Type} (d : List (DataW H)) : Nat := Rows.uptoBulkAll d
theorem Bk_one {H : Type} (d : DataW H) : 1 ≤ Bk d := by
  cases d with
  | lit l => cases l <;> simp [Bk, Rows.uptoBulk]
  | nil => simp [Bk, Rows.uptoBulk]
  | ptr d => simp [Bk, Rows.uptoBulk]
  | slice elems spare => simp [Bk, Rows.uptoBulk]
  | agg parts => simp [Bk, Rows.uptoBulk]
  | iface t d => simp [Bk, Rows.uptoBulk]
  | map entries => simp [Bk, Rows.uptoBulk]
  | held h => simp [Bk, Rows.uptoBulk]
theorem hB : Bulk @Bk @Bl where
  one := Bk_one
  str l := by simp [Bk, Rows.uptoBulk]
  slice e s := by simp only [Bk, Bl, Rows.uptoBulk]; omega
  agg l := by simp only [Bk, Bl, Rows.uptoBulk]; omega
  ptr d := by simp only [Bk, Rows.uptoBulk]; omega
  nil := rfl
  cons d l := rfl
theorem in_9 : In Try.prog Bk 9 Kd.str (fun s => s.size ≤ maxLen) (fun s => s.size + 1) (fun s => s.size ≤ 140737488355327) := in_str hB Try.underlying9 (by kernel_rfl)
theorem in_26 : In Try.prog Bk 26 (Kd.int .u64) (fun s => (Lit.int .u64 s).wf = true) (fun _ => 1) (fun _ => True) := in_int hB Try.underlying26 (by kernel_rfl)
theorem in_3 : In Try.prog Bk 3 (Kd.int .i64) (fun s => (Lit.int .i64 s).wf = true) (fun _ => 1) (fun _ => True) := in_int hB Try.underlying3 (by kernel_rfl)
def Entry.good (x : Entry) : Prop := (x.Key.size ≤ maxLen) ∧ ((Lit.int .u64 x.Seq).wf = true) ∧ ((Lit.int .i64 x.Kind).wf = true) ∧ (x.Value.size ≤ maxLen)
def Entry.szs (x : Entry) : Prop := (x.Key.size ≤ 140737488355327) ∧ (True) ∧ (True) ∧ (x.Value.size ≤ 140737488355327)
def Entry.mz (x : Entry) : Nat := ((x.Key.size + 1) + (1 + (1 + (x.Value.size + 1)))) + 1
theorem in_41 : In Try.prog Bk 41 k_Entry Entry.good Entry.mz Entry.szs := by
  have h := in_struct hB Try.underlying41 (by kernel_rfl) (inF_cons hB in_9 rfl (inF_cons hB in_26 rfl (inF_cons hB in_3 rfl (inF_one hB in_9))))
  exact h.map (fun x => ⟨x.1, x.2.1, x.2.2.1, x.2.2.2⟩) rfl (fun h => by obtain ⟨_, _, rfl, rfl, ⟨_, _, rfl, rfl, ⟨_, _, rfl, rfl, rfl⟩⟩⟩ := h; rfl) (fun a h => h) (fun a => Nat.le_refl _) (fun a h => h)
theorem bytes_41 : Try.prog.bytesOf 41 = 48 := by kernel_rfl
theorem in_33 : In Try.prog Bk 33 (Kd.slice 41 k_Entry) (fun l => (∀ y ∈ l, Entry.good y) ∧ l.length ≤ maxLen) (fun l => (l.map fun y => Entry.mz y).sum + 1) (fun l => l.length * 48 ≤ 140737488355327 ∧ ∀ y ∈ l, Entry.szs y) := by
  have h := in_slice hB Try.underlying33 (by kernel_rfl) in_41 (by decide)
  rw [bytes_41] at h
  exact h
def Tomb.good (x : Tomb) : Prop := (x.Begin.size ≤ maxLen) ∧ (x.End.size ≤ maxLen) ∧ ((Lit.int .u64 x.Seq).wf = true)
def Tomb.szs (x : Tomb) : Prop := (x.Begin.size ≤ 140737488355327) ∧ (x.End.size ≤ 140737488355327) ∧ (True)
def Tomb.mz (x : Tomb) : Nat := ((x.Begin.size + 1) + ((x.End.size + 1) + 1)) + 1
theorem in_43 : In Try.prog Bk 43 k_Tomb Tomb.good Tomb.mz Tomb.szs := by
  have h := in_struct hB Try.underlying43 (by kernel_rfl) (inF_cons hB in_9 rfl (inF_cons hB in_9 rfl (inF_one hB in_26)))
  exact h.map (fun x => ⟨x.1, x.2.1, x.2.2⟩) rfl (fun h => by obtain ⟨_, _, rfl, rfl, ⟨_, _, rfl, rfl, rfl⟩⟩ := h; rfl) (fun a h => h) (fun a => Nat.le_refl _) (fun a h => h)
theorem bytes_43 : Try.prog.bytesOf 43 = 40 := by kernel_rfl
theorem in_34 : In Try.prog Bk 34 (Kd.slice 43 k_Tomb) (fun l => (∀ y ∈ l, Tomb.good y) ∧ l.length ≤ maxLen) (fun l => (l.map fun y => Tomb.mz y).sum + 1) (fun l => l.length * 40 ≤ 140737488355327 ∧ ∀ y ∈ l, Tomb.szs y) := by
  have h := in_slice hB Try.underlying34 (by kernel_rfl) in_43 (by decide)
  rw [bytes_43] at h
  exact h
def L21_Put.good (x : L21_Put) : Prop := ((∀ y ∈ x.Entries, Entry.good y) ∧ x.Entries.length ≤ maxLen) ∧ ((∀ y ∈ x.Tombs, Tomb.good y) ∧ x.Tombs.length ≤ maxLen)
def L21_Put.szs (x : L21_Put) : Prop := ((x.Entries.length * 48 ≤ 140737488355327 ∧ ∀ y ∈ x.Entries, Entry.szs y)) ∧ ((x.Tombs.length * 40 ≤ 140737488355327 ∧ ∀ y ∈ x.Tombs, Tomb.szs y))
def L21_Put.mz (x : L21_Put) : Nat := (((x.Entries.map fun y => Entry.mz y).sum + 1) + ((x.Tombs.map fun y => Tomb.mz y).sum + 1)) + 1
theorem in_49 : In Try.prog Bk 49 k_L21_Put L21_Put.good L21_Put.mz L21_Put.szs := by
  have h := in_struct hB Try.underlying49 (by kernel_rfl) (inF_cons hB in_33 rfl (inF_one hB in_34))
  exact h.map (fun x => ⟨x.1, x.2⟩) rfl (fun h => h) (fun a h => h) (fun a => Nat.le_refl _) (fun a h => h)
theorem bytes_26 : Try.prog.bytesOf 26 = 8 := by kernel_rfl
theorem in_22 : In Try.prog Bk 22 (Kd.slice 26 (Kd.int .u64)) (fun l => (∀ y ∈ l, (Lit.int .u64 y).wf = true) ∧ l.length ≤ maxLen) (fun l => (l.map fun y => 1).sum + 1) (fun l => l.length * 8 ≤ 140737488355327 ∧ ∀ y ∈ l, True) := by
  have h := in_slice hB Try.underlying22 (by kernel_rfl) in_26 (by decide)
  rw [bytes_26] at h
  exact h
def File.good (x : File) : Prop := ((Lit.int .i64 x.Number).wf = true) ∧ ((Lit.int .i64 x.Size).wf = true) ∧ (x.Least.size ≤ maxLen) ∧ (x.Limit.size ≤ maxLen) ∧ ((Lit.int .u64 x.Low).wf = true) ∧ ((Lit.int .u64 x.High).wf = true)
def File.szs (x : File) : Prop := (True) ∧ (True) ∧ (x.Least.size ≤ 140737488355327) ∧ (x.Limit.size ≤ 140737488355327) ∧ (True) ∧ (True)
def File.mz (x : File) : Nat := (1 + (1 + ((x.Least.size + 1) + ((x.Limit.size + 1) + (1 + 1))))) + 1
theorem in_59 : In Try.prog Bk 59 k_File File.good File.mz File.szs := by
  have h := in_struct hB Try.underlying59 (by kernel_rfl) (inF_cons hB in_3 rfl (inF_cons hB in_3 rfl (inF_cons hB in_9 rfl (inF_cons hB in_9 rfl (inF_cons hB in_26 rfl (inF_one hB in_26))))))
  exact h.map (fun x => ⟨x.1, x.2.1, x.2.2.1, x.2.2.2.1, x.2.2.2.2.1, x.2.2.2.2.2⟩) rfl (fun h => by obtain ⟨_, _, rfl, rfl, ⟨_, _, rfl, rfl, ⟨_, _, rfl, rfl, ⟨_, _, rfl, rfl, ⟨_, _, rfl, rfl, rfl⟩⟩⟩⟩⟩ := h; rfl) (fun a h => h) (fun a => Nat.le_refl _) (fun a h => h)
theorem bytes_59 : Try.prog.bytesOf 59 = 64 := by kernel_rfl
theorem in_23 : In Try.prog Bk 23 (Kd.slice 59 k_File) (fun l => (∀ y ∈ l, File.good y) ∧ l.length ≤ maxLen) (fun l => (l.map fun y => File.mz y).sum + 1) (fun l => l.length * 64 ≤ 140737488355327 ∧ ∀ y ∈ l, File.szs y) := by
  have h := in_slice hB Try.underlying23 (by kernel_rfl) in_59 (by decide)
  rw [bytes_59] at h
  exact h
def R21_Rule.good (x : R21_Rule) : Prop := ((∀ y ∈ x.Snaps, (Lit.int .u64 y).wf = true) ∧ x.Snaps.length ≤ maxLen) ∧ ((∀ y ∈ x.Below, File.good y) ∧ x.Below.length ≤ maxLen)
def R21_Rule.szs (x : R21_Rule) : Prop := ((x.Snaps.length * 8 ≤ 140737488355327 ∧ ∀ y ∈ x.Snaps, True)) ∧ ((x.Below.length * 64 ≤ 140737488355327 ∧ ∀ y ∈ x.Below, File.szs y))
def R21_Rule.mz (x : R21_Rule) : Nat := (((x.Snaps.map fun y => 1).sum + 1) + ((x.Below.map fun y => File.mz y).sum + 1)) + 1
theorem in_25 : In Try.prog Bk 25 k_R21_Rule R21_Rule.good R21_Rule.mz R21_Rule.szs := by
  have h := in_struct hB Try.underlying25 (by kernel_rfl) (inF_cons hB in_22 rfl (inF_one hB in_23))
  exact h.map (fun x => ⟨x.1, x.2⟩) rfl (fun h => h) (fun a h => h) (fun a => Nat.le_refl _) (fun a h => h)
def L21_Older.good (x : L21_Older) : Prop := ((∀ y ∈ x.Entries, Entry.good y) ∧ x.Entries.length ≤ maxLen) ∧ ((∀ y ∈ x.Tombs, Tomb.good y) ∧ x.Tombs.length ≤ maxLen)
def L21_Older.szs (x : L21_Older) : Prop := ((x.Entries.length * 48 ≤ 140737488355327 ∧ ∀ y ∈ x.Entries, Entry.szs y)) ∧ ((x.Tombs.length * 40 ≤ 140737488355327 ∧ ∀ y ∈ x.Tombs, Tomb.szs y))
def L21_Older.mz (x : L21_Older) : Nat := (((x.Entries.map fun y => Entry.mz y).sum + 1) + ((x.Tombs.map fun y => Tomb.mz y).sum + 1)) + 1
theorem in_50 : In Try.prog Bk 50 k_L21_Older L21_Older.good L21_Older.mz L21_Older.szs := by
  have h := in_struct hB Try.underlying50 (by kernel_rfl) (inF_cons hB in_33 rfl (inF_one hB in_34))
  exact h.map (fun x => ⟨x.1, x.2⟩) rfl (fun h => h) (fun a h => h) (fun a => Nat.le_refl _) (fun a h => h)
end Go.Proofs.Ytfofolmagnaimaa.Mo
