/- All contracts by hand: what the printed functions import. -/
import Derived.Test.YtgkebfeggekkgaaDoorHm
import Derived.Test.YtgkebfeggekkgaaDoorHh
import Derived.Test.YtgkebfeggekkgaaDoorHe
