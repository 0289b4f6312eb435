/- Part MW of the proof: texts Z2. -/
import Derived.Test.YtfldlilicmbmkaaGreatDoorMV
import Derived.Test.YtfldlilicmbmkaaGreatDoorProg

